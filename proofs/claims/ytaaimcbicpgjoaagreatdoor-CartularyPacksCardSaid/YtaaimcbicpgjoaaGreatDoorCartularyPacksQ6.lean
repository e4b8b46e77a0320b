/- Texts of this seat in one: made by a program of ours. -/
import Derived.Test.YtaaimcbicpgjoaaGreatDoorCartularyPacksQ0
import Derived.Test.YtaaimcbicpgjoaaGreatDoorCartularyPacksQ1
import Derived.Test.YtaaimcbicpgjoaaGreatDoorCartularyPacksQ3
import Derived.Test.YtaaimcbicpgjoaaGreatDoorCartularyPacksQ5
import Derived.Test.YtaaimcbicpgjoaaGreatDoorProg
import Derived.Deep.Slices
import Derived.Deep.Fields
import Derived.ChangeSame
import Derived.SizedLaws
import Derived.Test.YtaaimcbicpgjoaaGreatDoorRows
import Derived.Lib.LaidU8
import Derived.ProofKit
import Derived.OpenShut
import Derived.LaidMore
import Derived.Lay
import Derived.Test.YtaaimcbicpgjoaaGreatDoorCards
import Derived.Test.YtaaimcbicpgjoaaGreatDoorTie
import Derived.WalkKit
import Derived.ShutString
import Derived.ChangeOld
import Derived.Below
import Derived.SevenTiedAt
import Derived.LaidOnce
/- Slices of texts. No condition. -/
set_option linter.unusedVariables false
namespace Go.Proofs.YtaaimcbicpgjoaaGreatDoor
open Go Vc Go.Proofs

theorem elString : El Tryz.prog T_S_string T_string (.string ⟨#[]⟩) 16 := ⟨by kernel_rfl, by kernel_rfl, rfl⟩
def strV (l : List ByteArray) : List Value := l.map Value.string
theorem own_lit (w : World) (t : TypeId) : Vc.Own (w.alloc (.cells #[] t)) w.heap.size t ⟨some ⟨w.heap.size, 0, none⟩, 0, 0⟩ [] :=
  ⟨rfl, .inr ⟨w.heap.size, _, rfl, Nat.le_refl _, alloc_new w _, Nat.le_refl _, Nat.zero_le _, rfl, rfl⟩⟩
theorem grow_str {w0 w12 : World} {l : Sl} {out : List ByteArray} (x : ByteArray) (hs : out.length ≤ 1000003) (ho : Vc.Own w12 w0.heap.size T_string l (strV out)) (hf : Fr (fun _ => False) w0 w12) {w13 : World} (h13 : w13 = w12.alloc (.cells #[.string x] 9)) :
    ∃ (w14 : World) (l15 : Sl), (Builtin.append_ #[52, 52] 52 #[.slice l.a l.len l.cap, .slice (some ⟨w12.heap.size, 0, none⟩) 1 1]).run Tryz.prog w13 = .ok (.slice l15.a l15.len l15.cap) w14 ∧ Vc.Own w14 w0.heap.size T_string l15 (strV (out ++ [x])) ∧ Fr (fun _ => False) w0 w14 := by
  obtain ⟨w14, l15, hr14, ho14, hf14, _⟩ := append_one' elString ho (v := .string x) rfl (by simp only [strV, List.length_map, maxLen]; omega) (by simp only [strV, List.length_map]; omega) hf.size h13
  refine ⟨w14, l15, hr14, by simpa [strV] using ho14, hf.trans hf14 fun q hq ⟨z, hz, e⟩ => ?_⟩
  have := (ho.blk hz).1; omega
end Go.Proofs.YtaaimcbicpgjoaaGreatDoor

/- Formulas of 8 Go functions of this seat (written by a program of the author's, vcgen.py), and that each is enough for the call. No condition. -/
set_option linter.unusedVariables false
namespace Go.Proofs.YtaaimcbicpgjoaaGreatDoor
open Go Vc Go.Proofs
set_option maxRecDepth 100000
/-- (*packidx.Idx).Find -/
def vc_packidx_Idx_Find (x0 : Nat) (x1 : ByteArray) (w : World) (R : Value → World → Prop) : Prop :=
 ∀ w1 : World,
 (w1 = World.alloc w (Obj.cells (Array.mk [Value.string (ByteArray.mk (Array.mk [])), Value.int IntKind.i64 0, Value.int IntKind.u32 0]) 40) →
 ∃ l2 : Sl, (World.cell? w1 (Addr.mk x0 0 none) = some (Value.slice l2.1 l2.2 l2.3) ∧
 Calls Tryz.prog (34 : Nat) (Array.mk [Value.slice l2.1 l2.2 l2.3, Value.string x1, Value.func (Fn.func 35) (Array.mk []) (Array.mk [])]) (w1) (fun e3 w4 =>
 ∃ n5 : Int, ∃ b6 : Bool, (e3 = Ending.returned (Value.tuple (Array.mk [Value.int IntKind.i64 n5, Value.bool b6])) ∧
 ((((!b6) = true →
 ∃ w7 : World, (Sem.run Tryz.prog (storeVar 40 (Addr.mk (Array.size (World.heap w)) 0 none) (Value.agg (Array.mk [Value.string (ByteArray.mk (Array.mk [])), Value.int IntKind.i64 0, Value.int IntKind.u32 0]))) w4 = Result.ok PUnit.unit w7 ∧
 ∃ s8 : ByteArray, ∃ n9 : Int, ∃ n10 : Int, (Sem.run Tryz.prog (loadVar 40 (Addr.mk (Array.size (World.heap w)) 0 none)) w7 = Result.ok (Value.agg (Array.mk [Value.string s8, Value.int IntKind.i64 n9, Value.int IntKind.u32 n10])) w7 ∧
 R (Value.tuple (Array.mk [Value.agg (Array.mk [Value.string s8, Value.int IntKind.i64 n9, Value.int IntKind.u32 n10]), Value.int IntKind.i64 7])) w7)))) ∧
 ((!b6) = false →
 ∃ l11 : Sl, (World.cell? w4 (Addr.mk x0 0 none) = some (Value.slice l11.1 l11.2 l11.3) ∧
 ((0 ≤ n5 ∧
 n5 < (↑l11.2 : Int)) ∧
 ∃ a12 : Addr, (l11.1 = some a12 ∧
 ∃ s13 : ByteArray, ∃ n14 : Int, ∃ n15 : Int, (Sem.run Tryz.prog (loadVar 40 (Addr.add a12 (Int.toNat n5 * 3))) w4 = Result.ok (Value.agg (Array.mk [Value.string s13, Value.int IntKind.i64 n14, Value.int IntKind.u32 n15])) w4 ∧
 ∃ w16 : World, (Sem.run Tryz.prog (storeVar 40 (Addr.mk (Array.size (World.heap w)) 0 none) (Value.agg (Array.mk [Value.string s13, Value.int IntKind.i64 n14, Value.int IntKind.u32 n15]))) w4 = Result.ok PUnit.unit w16 ∧
 ∃ s17 : ByteArray, ∃ n18 : Int, ∃ n19 : Int, (Sem.run Tryz.prog (loadVar 40 (Addr.mk (Array.size (World.heap w)) 0 none)) w16 = Result.ok (Value.agg (Array.mk [Value.string s17, Value.int IntKind.i64 n18, Value.int IntKind.u32 n19])) w16 ∧
 R (Value.tuple (Array.mk [Value.agg (Array.mk [Value.string s17, Value.int IntKind.i64 n18, Value.int IntKind.u32 n19]), Value.int IntKind.i64 0])) w16))))))))))))
theorem vc_packidx_Idx_Find_ok {x0 : Nat} {x1 : ByteArray} {w : World} {R : Value → World → Prop} {R' : Ending → World → Prop} (h : vc_packidx_Idx_Find x0 x1 w R) (hR : ∀ v w', R v w' → R' (.returned v) w') :
    Calls Tryz.prog 13 #[.pointer (some ⟨x0, 0, none⟩), .string x1] w R' :=
  calls_of_body (vs := [(.pointer (some ⟨x0, 0, none⟩), true), (.string x1, false)]) (ty := ty) (ann := ⟨[], [], [], []⟩) (c := Tryz.f13.body.getD .skip) (by kernel_rfl) Tryz.func13 (by kernel_rfl) (by kernel_rfl) (Eq.mp (by kernel_rfl) h) hR
/-- (*packidx.Idx).Match -/
def vc_packidx_Idx_Match (x0 : Nat) (x1 : ByteArray) (w : World) (R : Value → World → Prop) : Prop :=
 ∃ l1 : Sl, (World.cell? w (Addr.mk x0 0 none) = some (Value.slice l1.1 l1.2 l1.3) ∧
 Calls Tryz.prog (34 : Nat) (Array.mk [Value.slice l1.1 l1.2 l1.3, Value.string x1, Value.func (Fn.func 40) (Array.mk []) (Array.mk [])]) (w) (fun e2 w3 =>
 ∃ n4 : Int, ∃ b5 : Bool, (e2 = Ending.returned (Value.tuple (Array.mk [Value.int IntKind.i64 n4, Value.bool b5])) ∧
 ∃ I6 : Sl → Int → World → Prop, ∃ I7 : Sl → Int → World → Nat, (I6 (Sl.mk none 0 0) n4 w3 ∧
 ∀ l8 : Sl,
 ∀ n9 : Int,
 ∀ w10 : World,
 (I6 l8 n9 w10 →
 ∃ l11 : Sl, (World.cell? w10 (Addr.mk x0 0 none) = some (Value.slice l11.1 l11.2 l11.3) ∧
 (((decide (n9 < (↑l11.2 : Int)) = true →
 ∃ l12 : Sl, (World.cell? w10 (Addr.mk x0 0 none) = some (Value.slice l12.1 l12.2 l12.3) ∧
 ((0 ≤ n9 ∧
 n9 < (↑l12.2 : Int)) ∧
 ∃ a13 : Addr, (l12.1 = some a13 ∧
 ∃ s14 : ByteArray, (World.cell? w10 (Addr.add a13 (Int.toNat n9 * 3)) = some (Value.string s14) ∧
 Calls Tryz.prog (41 : Nat) (Array.mk [Value.string s14, Value.string x1]) (w10) (fun e15 w16 =>
 ∃ b17 : Bool, (e15 = Ending.returned (Value.bool b17) ∧
 (((b17 = true →
 ∃ l18 : Sl, (World.cell? w16 (Addr.mk x0 0 none) = some (Value.slice l18.1 l18.2 l18.3) ∧
 ((0 ≤ n9 ∧
 n9 < (↑l18.2 : Int)) ∧
 ∃ a19 : Addr, (l18.1 = some a19 ∧
 ∃ s20 : ByteArray, (World.cell? w16 (Addr.add a19 (Int.toNat n9 * 3)) = some (Value.string s20) ∧
 ∀ w21 : World,
 (w21 = World.alloc w16 (Obj.cells (Array.mk [Value.string s20]) 9) →
 ∃ w22 : World, ∃ l23 : Sl, (Sem.run Tryz.prog (Builtin.append_ (Array.mk [52, 52]) 52 (Array.mk [Value.slice l8.1 l8.2 l8.3, Value.slice (some (Addr.mk (Array.size (World.heap w16)) 0 none)) 1 1])) w21 = Result.ok (Value.slice l23.1 l23.2 l23.3) w22 ∧
 (I6 (Sl.mk l23.1 l23.2 l23.3) (IntKind.wrap IntKind.i64 (n9 + 1)) w22 ∧
 I7 (Sl.mk l23.1 l23.2 l23.3) (IntKind.wrap IntKind.i64 (n9 + 1)) w22 < I7 l8 n9 w10))))))))) ∧
 (b17 = false →
 R (Value.slice l8.1 l8.2 l8.3) w16)))))))))) ∧
 (decide (n9 < (↑l11.2 : Int)) = false →
 R (Value.slice l8.1 l8.2 l8.3) w10))))))))
theorem vc_packidx_Idx_Match_ok {x0 : Nat} {x1 : ByteArray} {w : World} {R : Value → World → Prop} {R' : Ending → World → Prop} (h : vc_packidx_Idx_Match x0 x1 w R) (hR : ∀ v w', R v w' → R' (.returned v) w') :
    Calls Tryz.prog 15 #[.pointer (some ⟨x0, 0, none⟩), .string x1] w R' :=
  calls_of_body (vs := [(.pointer (some ⟨x0, 0, none⟩), true), (.string x1, false)]) (ty := ty) (ann := ⟨[], [(3, [(5, .slice), (6, .int .i64)])], [], []⟩) (c := Tryz.f15.body.getD .skip) (by kernel_rfl) Tryz.func15 (by kernel_rfl) (by kernel_rfl) (Eq.mp (by kernel_rfl) h) hR
/-- (*packidx.Idx).Find$1 -/
def vc_packidx_Idx_Find_1 (x0_0 : ByteArray) (x0_1 : Int) (x0_2 : Int) (x1 : ByteArray) (w : World) (R : Value → World → Prop) : Prop :=
 ∀ w1 : World,
 (w1 = World.alloc w (Obj.cells (Array.mk [Value.string x0_0, Value.int IntKind.i64 x0_1, Value.int IntKind.u32 x0_2]) 40) →
 ∃ s2 : ByteArray, (World.cell? w1 (Addr.mk (Array.size (World.heap w)) 0 none) = some (Value.string s2) ∧
 Calls Tryz.prog (31 : Nat) (Array.mk [Value.string s2, Value.string x1]) (w1) (fun e3 w4 =>
 ∃ n5 : Int, (e3 = Ending.returned (Value.int IntKind.i64 n5) ∧
 R (Value.int IntKind.i64 n5) w4))))
theorem vc_packidx_Idx_Find_1_ok {x0_0 : ByteArray} {x0_1 : Int} {x0_2 : Int} {x1 : ByteArray} {w : World} {R : Value → World → Prop} {R' : Ending → World → Prop} (h : vc_packidx_Idx_Find_1 x0_0 x0_1 x0_2 x1 w R) (hR : ∀ v w', R v w' → R' (.returned v) w') :
    Calls Tryz.prog 35 #[.agg #[.string x0_0, .int .i64 x0_1, .int .u32 x0_2], .string x1] w R' :=
  calls_of_body (vs := [(.agg #[.string x0_0, .int .i64 x0_1, .int .u32 x0_2], false), (.string x1, false)]) (ty := ty) (ann := ⟨[], [], [], []⟩) (c := Tryz.f35.body.getD .skip) (by kernel_rfl) Tryz.func35 (by kernel_rfl) (by kernel_rfl) (Eq.mp (by kernel_rfl) h) hR
/-- (*packidx.Idx).Match$1 -/
def vc_packidx_Idx_Match_1 (x0_0 : ByteArray) (x0_1 : Int) (x0_2 : Int) (x1 : ByteArray) (w : World) (R : Value → World → Prop) : Prop :=
 ∀ w1 : World,
 (w1 = World.alloc w (Obj.cells (Array.mk [Value.string x0_0, Value.int IntKind.i64 x0_1, Value.int IntKind.u32 x0_2]) 40) →
 ∃ s2 : ByteArray, (World.cell? w1 (Addr.mk (Array.size (World.heap w)) 0 none) = some (Value.string s2) ∧
 Calls Tryz.prog (31 : Nat) (Array.mk [Value.string s2, Value.string x1]) (w1) (fun e3 w4 =>
 ∃ n5 : Int, (e3 = Ending.returned (Value.int IntKind.i64 n5) ∧
 R (Value.int IntKind.i64 n5) w4))))
theorem vc_packidx_Idx_Match_1_ok {x0_0 : ByteArray} {x0_1 : Int} {x0_2 : Int} {x1 : ByteArray} {w : World} {R : Value → World → Prop} {R' : Ending → World → Prop} (h : vc_packidx_Idx_Match_1 x0_0 x0_1 x0_2 x1 w R) (hR : ∀ v w', R v w' → R' (.returned v) w') :
    Calls Tryz.prog 40 #[.agg #[.string x0_0, .int .i64 x0_1, .int .u32 x0_2], .string x1] w R' :=
  calls_of_body (vs := [(.agg #[.string x0_0, .int .i64 x0_1, .int .u32 x0_2], false), (.string x1, false)]) (ty := ty) (ann := ⟨[], [], [], []⟩) (c := Tryz.f40.body.getD .skip) (by kernel_rfl) Tryz.func40 (by kernel_rfl) (by kernel_rfl) (Eq.mp (by kernel_rfl) h) hR
/-- (*packidx.Idx).Len -/
def vc_packidx_Idx_Len (x0 : Nat) (w : World) (R : Value → World → Prop) : Prop :=
 ∃ l1 : Sl, (World.cell? w (Addr.mk x0 0 none) = some (Value.slice l1.1 l1.2 l1.3) ∧
 R (Value.int IntKind.i64 (↑l1.2 : Int)) w)
theorem vc_packidx_Idx_Len_ok {x0 : Nat} {w : World} {R : Value → World → Prop} {R' : Ending → World → Prop} (h : vc_packidx_Idx_Len x0 w R) (hR : ∀ v w', R v w' → R' (.returned v) w') :
    Calls Tryz.prog 11 #[.pointer (some ⟨x0, 0, none⟩)] w R' :=
  calls_of_body (vs := [(.pointer (some ⟨x0, 0, none⟩), true)]) (ty := ty) (ann := ⟨[], [], [], []⟩) (c := Tryz.f11.body.getD .skip) (by kernel_rfl) Tryz.func11 (by kernel_rfl) (by kernel_rfl) (Eq.mp (by kernel_rfl) h) hR
/-- (*packidx.Idx).Sum -/
def vc_packidx_Idx_Sum (x0 : Nat) (w : World) (R : Value → World → Prop) : Prop :=
 ∃ s1 : ByteArray, (World.cell? w (Addr.mk x0 258 none) = some (Value.string s1) ∧
 R (Value.string s1) w)
theorem vc_packidx_Idx_Sum_ok {x0 : Nat} {w : World} {R : Value → World → Prop} {R' : Ending → World → Prop} (h : vc_packidx_Idx_Sum x0 w R) (hR : ∀ v w', R v w' → R' (.returned v) w') :
    Calls Tryz.prog 12 #[.pointer (some ⟨x0, 0, none⟩)] w R' :=
  calls_of_body (vs := [(.pointer (some ⟨x0, 0, none⟩), true)]) (ty := ty) (ann := ⟨[], [], [], []⟩) (c := Tryz.f12.body.getD .skip) (by kernel_rfl) Tryz.func12 (by kernel_rfl) (by kernel_rfl) (Eq.mp (by kernel_rfl) h) hR
/-- slices.BinarySearchFunc[[]packidx.Row,packidx.Row,string]#find -/
def vc_slices_BinarySearchFunc_find (x0a : Option Addr) (x0n : Nat) (x0c : Nat) (x1 : ByteArray) (w : World) (R : Value → World → Prop) : Prop :=
 ∃ I1 : Int → Int → World → Prop, ∃ I2 : Int → Int → World → Nat, (I1 0 (↑x0n : Int) w ∧
 ∀ n3 : Int,
 ∀ n4 : Int,
 ∀ w5 : World,
 (I1 n3 n4 w5 →
 (((decide (n3 < n4) = true →
 ((0 : Int) ≤ (1 : Int) ∧
 ((0 ≤ IntKind.wrap IntKind.i64 (Int.fdiv (IntKind.wrap IntKind.u64 (IntKind.wrap IntKind.i64 (n3 + n4))) (2 ^ min (Int.toNat 1) 64)) ∧
 IntKind.wrap IntKind.i64 (Int.fdiv (IntKind.wrap IntKind.u64 (IntKind.wrap IntKind.i64 (n3 + n4))) (2 ^ min (Int.toNat 1) 64)) < (↑x0n : Int)) ∧
 ∃ a6 : Addr, (x0a = some a6 ∧
 ∃ s7 : ByteArray, ∃ n8 : Int, ∃ n9 : Int, (Sem.run Tryz.prog (loadVar 40 (Addr.add a6 (Int.toNat (IntKind.wrap IntKind.i64 (Int.fdiv (IntKind.wrap IntKind.u64 (IntKind.wrap IntKind.i64 (n3 + n4))) (2 ^ min (Int.toNat 1) 64))) * 3))) w5 = Result.ok (Value.agg (Array.mk [Value.string s7, Value.int IntKind.i64 n8, Value.int IntKind.u32 n9])) w5 ∧
 Calls Tryz.prog (35 : FuncId) (Array.mk [Value.agg (Array.mk [Value.string s7, Value.int IntKind.i64 n8, Value.int IntKind.u32 n9]), Value.string x1]) (w5) (fun e10 w11 =>
 ∃ n12 : Int, (e10 = Ending.returned (Value.int IntKind.i64 n12) ∧
 (((decide (n12 < 0) = true →
 (I1 (IntKind.wrap IntKind.i64 (IntKind.wrap IntKind.i64 (Int.fdiv (IntKind.wrap IntKind.u64 (IntKind.wrap IntKind.i64 (n3 + n4))) (2 ^ min (Int.toNat 1) 64)) + 1)) n4 w11 ∧
 I2 (IntKind.wrap IntKind.i64 (IntKind.wrap IntKind.i64 (Int.fdiv (IntKind.wrap IntKind.u64 (IntKind.wrap IntKind.i64 (n3 + n4))) (2 ^ min (Int.toNat 1) 64)) + 1)) n4 w11 < I2 n3 n4 w5))) ∧
 (decide (n12 < 0) = false →
 (I1 n3 (IntKind.wrap IntKind.i64 (Int.fdiv (IntKind.wrap IntKind.u64 (IntKind.wrap IntKind.i64 (n3 + n4))) (2 ^ min (Int.toNat 1) 64))) w11 ∧
 I2 n3 (IntKind.wrap IntKind.i64 (Int.fdiv (IntKind.wrap IntKind.u64 (IntKind.wrap IntKind.i64 (n3 + n4))) (2 ^ min (Int.toNat 1) 64))) w11 < I2 n3 n4 w5))))))))))) ∧
 (decide (n3 < n4) = false →
 (((decide (n3 < (↑x0n : Int)) = true →
 ((0 ≤ n3 ∧
 n3 < (↑x0n : Int)) ∧
 ∃ a13 : Addr, (x0a = some a13 ∧
 ∃ s14 : ByteArray, ∃ n15 : Int, ∃ n16 : Int, (Sem.run Tryz.prog (loadVar 40 (Addr.add a13 (Int.toNat n3 * 3))) w5 = Result.ok (Value.agg (Array.mk [Value.string s14, Value.int IntKind.i64 n15, Value.int IntKind.u32 n16])) w5 ∧
 Calls Tryz.prog (35 : FuncId) (Array.mk [Value.agg (Array.mk [Value.string s14, Value.int IntKind.i64 n15, Value.int IntKind.u32 n16]), Value.string x1]) (w5) (fun e17 w18 =>
 ∃ n19 : Int, (e17 = Ending.returned (Value.int IntKind.i64 n19) ∧
 R (Value.tuple (Array.mk [Value.int IntKind.i64 n3, Value.bool (n19 == 0)])) w18))))))) ∧
 (decide (n3 < (↑x0n : Int)) = false →
 R (Value.tuple (Array.mk [Value.int IntKind.i64 n3, Value.bool false])) w5))))))
theorem vc_slices_BinarySearchFunc_find_ok {x0a : Option Addr} {x0n : Nat} {x0c : Nat} {x1 : ByteArray} {w : World} {R : Value → World → Prop} {R' : Ending → World → Prop} (h : vc_slices_BinarySearchFunc_find x0a x0n x0c x1 w R) (hR : ∀ v w', R v w' → R' (.returned v) w') :
    Calls Tryz.prog 34 #[.slice x0a x0n x0c, .string x1, .func (.func 35) #[] #[]] w R' :=
  calls_of_body (vs := [(.slice x0a x0n x0c, false), (.string x1, false), (.func (.func 35) #[] #[], false)]) (ty := ty) (ann := ⟨[], [(3, [(9, .int .i64), (10, .int .i64)])], [], []⟩) (c := Tryz.f34.body.getD .skip) (by kernel_rfl) Tryz.func34 (by kernel_rfl) (by kernel_rfl) (Eq.mp (by kernel_rfl) h) hR
/-- slices.BinarySearchFunc[[]packidx.Row,packidx.Row,string]#match -/
def vc_slices_BinarySearchFunc_match (x0a : Option Addr) (x0n : Nat) (x0c : Nat) (x1 : ByteArray) (w : World) (R : Value → World → Prop) : Prop :=
 ∃ I1 : Int → Int → World → Prop, ∃ I2 : Int → Int → World → Nat, (I1 0 (↑x0n : Int) w ∧
 ∀ n3 : Int,
 ∀ n4 : Int,
 ∀ w5 : World,
 (I1 n3 n4 w5 →
 (((decide (n3 < n4) = true →
 ((0 : Int) ≤ (1 : Int) ∧
 ((0 ≤ IntKind.wrap IntKind.i64 (Int.fdiv (IntKind.wrap IntKind.u64 (IntKind.wrap IntKind.i64 (n3 + n4))) (2 ^ min (Int.toNat 1) 64)) ∧
 IntKind.wrap IntKind.i64 (Int.fdiv (IntKind.wrap IntKind.u64 (IntKind.wrap IntKind.i64 (n3 + n4))) (2 ^ min (Int.toNat 1) 64)) < (↑x0n : Int)) ∧
 ∃ a6 : Addr, (x0a = some a6 ∧
 ∃ s7 : ByteArray, ∃ n8 : Int, ∃ n9 : Int, (Sem.run Tryz.prog (loadVar 40 (Addr.add a6 (Int.toNat (IntKind.wrap IntKind.i64 (Int.fdiv (IntKind.wrap IntKind.u64 (IntKind.wrap IntKind.i64 (n3 + n4))) (2 ^ min (Int.toNat 1) 64))) * 3))) w5 = Result.ok (Value.agg (Array.mk [Value.string s7, Value.int IntKind.i64 n8, Value.int IntKind.u32 n9])) w5 ∧
 Calls Tryz.prog (40 : FuncId) (Array.mk [Value.agg (Array.mk [Value.string s7, Value.int IntKind.i64 n8, Value.int IntKind.u32 n9]), Value.string x1]) (w5) (fun e10 w11 =>
 ∃ n12 : Int, (e10 = Ending.returned (Value.int IntKind.i64 n12) ∧
 (((decide (n12 < 0) = true →
 (I1 (IntKind.wrap IntKind.i64 (IntKind.wrap IntKind.i64 (Int.fdiv (IntKind.wrap IntKind.u64 (IntKind.wrap IntKind.i64 (n3 + n4))) (2 ^ min (Int.toNat 1) 64)) + 1)) n4 w11 ∧
 I2 (IntKind.wrap IntKind.i64 (IntKind.wrap IntKind.i64 (Int.fdiv (IntKind.wrap IntKind.u64 (IntKind.wrap IntKind.i64 (n3 + n4))) (2 ^ min (Int.toNat 1) 64)) + 1)) n4 w11 < I2 n3 n4 w5))) ∧
 (decide (n12 < 0) = false →
 (I1 n3 (IntKind.wrap IntKind.i64 (Int.fdiv (IntKind.wrap IntKind.u64 (IntKind.wrap IntKind.i64 (n3 + n4))) (2 ^ min (Int.toNat 1) 64))) w11 ∧
 I2 n3 (IntKind.wrap IntKind.i64 (Int.fdiv (IntKind.wrap IntKind.u64 (IntKind.wrap IntKind.i64 (n3 + n4))) (2 ^ min (Int.toNat 1) 64))) w11 < I2 n3 n4 w5))))))))))) ∧
 (decide (n3 < n4) = false →
 (((decide (n3 < (↑x0n : Int)) = true →
 ((0 ≤ n3 ∧
 n3 < (↑x0n : Int)) ∧
 ∃ a13 : Addr, (x0a = some a13 ∧
 ∃ s14 : ByteArray, ∃ n15 : Int, ∃ n16 : Int, (Sem.run Tryz.prog (loadVar 40 (Addr.add a13 (Int.toNat n3 * 3))) w5 = Result.ok (Value.agg (Array.mk [Value.string s14, Value.int IntKind.i64 n15, Value.int IntKind.u32 n16])) w5 ∧
 Calls Tryz.prog (40 : FuncId) (Array.mk [Value.agg (Array.mk [Value.string s14, Value.int IntKind.i64 n15, Value.int IntKind.u32 n16]), Value.string x1]) (w5) (fun e17 w18 =>
 ∃ n19 : Int, (e17 = Ending.returned (Value.int IntKind.i64 n19) ∧
 R (Value.tuple (Array.mk [Value.int IntKind.i64 n3, Value.bool (n19 == 0)])) w18))))))) ∧
 (decide (n3 < (↑x0n : Int)) = false →
 R (Value.tuple (Array.mk [Value.int IntKind.i64 n3, Value.bool false])) w5))))))
theorem vc_slices_BinarySearchFunc_match_ok {x0a : Option Addr} {x0n : Nat} {x0c : Nat} {x1 : ByteArray} {w : World} {R : Value → World → Prop} {R' : Ending → World → Prop} (h : vc_slices_BinarySearchFunc_match x0a x0n x0c x1 w R) (hR : ∀ v w', R v w' → R' (.returned v) w') :
    Calls Tryz.prog 34 #[.slice x0a x0n x0c, .string x1, .func (.func 40) #[] #[]] w R' :=
  calls_of_body (vs := [(.slice x0a x0n x0c, false), (.string x1, false), (.func (.func 40) #[] #[], false)]) (ty := ty) (ann := ⟨[], [(3, [(9, .int .i64), (10, .int .i64)])], [], []⟩) (c := Tryz.f34.body.getD .skip) (by kernel_rfl) Tryz.func34 (by kernel_rfl) (by kernel_rfl) (Eq.mp (by kernel_rfl) h) hR
end Go.Proofs.YtaaimcbicpgjoaaGreatDoor

/- Names looked for in an index: At, Find, Match. Conditions: the rows rise. -/
set_option linter.unusedVariables false
namespace Go.Proofs.YtaaimcbicpgjoaaGreatDoor
open Go Vc HexM SumM ShaM Go.Proofs

theorem riseP_lt {xs : List PRow} (h : RiseP xs) {i j : Nat} {x y : PRow} (hx : xs[i]? = some x) (hy : xs[j]? = some y) (hij : i ≤ j) {p : List UInt8} (hp : y.1.data.toList < p) : x.1.data.toList < p := by
  by_cases he : i = j
  · subst he; rw [hx] at hy; cases hy; exact hp
  · have := (List.pairwise_iff_getElem.1 h) i j (List.getElem?_eq_some_iff.1 hx).1 (List.getElem?_eq_some_iff.1 hy).1 (by omega)
    rw [(List.getElem?_eq_some_iff.1 hx).2, (List.getElem?_eq_some_iff.1 hy).2] at this
    exact List.lt_trans this hp
theorem cmpfind_spec (x : PRow) (t : ByteArray) (w : World) : Calls Tryz.prog F_packidx_Idx_Find_1 #[.agg (encP x).toArray, .string t] w fun e w' => e = .returned (.int .i64 (Lib.compareBytes x.1.data.toList t.data.toList)) ∧ Fr (fun _ => False) w w' := by
  refine vc_packidx_Idx_Find_1_ok (R := fun v w' => v = .int .i64 (Lib.compareBytes x.1.data.toList t.data.toList) ∧ Fr (fun _ => False) w w') ?_ (fun v w' h => ⟨by rw [h.1], h.2⟩)
  intro w1 h1
  have hf1 : Fr (fun _ => False) w w1 := by rw [h1]; exact .alloc _ _ _
  have hb1 : w1.heap[w.heap.size]? = some (.cells (encP x).toArray T_packidx_Row (0, 0)) := by rw [h1]; exact alloc_new _ _
  refine ⟨x.1, by rw [cell_blk hb1]; rfl, (compare_spec _ _ w1).mono ?_⟩
  rintro e w4 ⟨rfl, hw⟩
  replace hw := hw.symm
  subst hw
  exact ⟨_, rfl, rfl, hf1⟩
theorem searchfind_spec {w : World} {a : Option Addr} {n c : Nat} {xs : List PRow} (hr : ReadsK encP 3 w a xs) (hn : xs.length = n) (hl : n ≤ 1000000) (hs : RiseP xs) (t : ByteArray) :
    Calls Tryz.prog 34 #[.slice a n c, .string t, .func (.func F_packidx_Idx_Find_1) #[] #[]] w fun e w' =>
      ∃ i : Nat, i ≤ n ∧ e = .returned (.tuple #[.int .i64 i, .bool (match xs[i]? with | some x => decide (x.1 = t) | none => false)]) ∧ (∀ k x, xs[k]? = some x → (x.1.data.toList < t.data.toList ↔ k < i)) ∧ Fr (fun _ => False) w w' := by
  refine vc_slices_BinarySearchFunc_find_ok (R := fun v w' => ∃ i : Nat, i ≤ n ∧ v = .tuple #[.int .i64 i, .bool (match xs[i]? with | some x => decide (x.1 = t) | none => false)] ∧ (∀ k x, xs[k]? = some x → (x.1.data.toList < t.data.toList ↔ k < i)) ∧ Fr (fun _ => False) w w') ?_ (fun v w' ⟨i, h0, h, h2⟩ => ⟨i, h0, by rw [h], h2⟩)
  refine ⟨fun i j w' => ∃ p q : Nat, i = p ∧ j = q ∧ p ≤ q ∧ q ≤ n ∧ (∀ k x, xs[k]? = some x → k < p → x.1.data.toList < t.data.toList) ∧ (∀ k x, xs[k]? = some x → q ≤ k → ¬ x.1.data.toList < t.data.toList) ∧ Fr (fun _ => False) w w', fun i j _ => j.toNat - i.toNat,
    ⟨0, n, rfl, rfl, Nat.zero_le _, Nat.le_refl _, fun k x _ h => by omega, fun k x hx h => by have := (List.getElem?_eq_some_iff.1 hx).1; omega, .refl _ _⟩, ?_⟩
  rintro i j w5 ⟨p, q, rfl, rfl, hpq, hqn, hlo, hhi, hf⟩
  refine ⟨fun hlt => ⟨by decide, ?_⟩, fun hge => ?_⟩
  · have hlt := of_decide_eq_true hlt
    have e1 : IntKind.i64.wrap (Int.fdiv (IntKind.u64.wrap (IntKind.i64.wrap ((p : Int) + (q : Int)))) (2 ^ min (Int.toNat 1) 64)) = (((p + q) / 2 : Nat) : Int) := by
      rw [wrap_i64 (x := (p : Int) + (q : Int)) (by omega) (by omega), wrap_u64 (by omega) (by omega), show (2 : Int) ^ min (Int.toNat 1) 64 = 2 by decide, Int.fdiv_eq_ediv_of_nonneg _ (by omega), wrap_i64 (by omega) (by omega)]
      omega
    have hm : (p + q) / 2 < xs.length := by omega
    obtain ⟨m, hme⟩ : ∃ m, (p + q) / 2 = m := ⟨_, rfl⟩
    have e2 : IntKind.i64.wrap ((m : Int) + 1) = ((m + 1 : Nat) : Int) := by rw [wrap_i64 (by omega) (by omega)]; omega
    rw [hme] at e1 hm
    rw [e1, e2]
    have hx : xs[m]? = some xs[m] := List.getElem?_eq_getElem hm
    generalize xs[m] = x at hx
    obtain ⟨ad, had, hld⟩ := (hr.keep hf (by simp)).load elP hx
    refine ⟨⟨by omega, by omega⟩, ad, had, x.1, x.2.1, x.2.2, by rw [Int.toNat_natCast]; exact hld, (cmpfind_spec x t w5).mono ?_⟩
    rintro e w11 ⟨rfl, hf11⟩
    have hf11' := hf.trans' hf11
    refine ⟨_, rfl, fun hc => ⟨⟨m + 1, q, rfl, rfl, by omega, hqn, fun k y hy hk => ?_, hhi, hf11'⟩, by dsimp only; omega⟩, fun hc => ⟨⟨p, m, rfl, rfl, by omega, by omega, hlo, fun k y hy hk hlt' => ?_, hf11'⟩, by dsimp only; omega⟩⟩
    · exact riseP_lt hs hy hx (by omega) ((cmp_lt _ _).1 (of_decide_eq_true hc))
    · exact of_decide_eq_false hc ((cmp_lt _ _).2 (riseP_lt hs hx hy hk hlt'))
  · have hge := of_decide_eq_false hge
    have hpq' : p = q := by omega
    subst hpq'
    have hiff : ∀ k x, xs[k]? = some x → (x.1.data.toList < t.data.toList ↔ k < p) := fun k x hx => ⟨fun h => by
      by_cases hk : k < p
      · exact hk
      · exact absurd h (hhi k x hx (by omega)), hlo k x hx⟩
    refine ⟨fun hlt => ?_, fun hlt => ⟨p, hqn, ?_, hiff, hf⟩⟩
    · have hlt := of_decide_eq_true hlt
      have hm : p < xs.length := by omega
      have hx : xs[p]? = some xs[p] := List.getElem?_eq_getElem hm
      generalize xs[p] = x at hx
      obtain ⟨ad, had, hld⟩ := (hr.keep hf (by simp)).load elP hx
      refine ⟨⟨by omega, by omega⟩, ad, had, x.1, x.2.1, x.2.2, by rw [Int.toNat_natCast]; exact hld, (cmpfind_spec x t w5).mono ?_⟩
      rintro e w18 ⟨rfl, hf18⟩
      refine ⟨_, rfl, p, hqn, ?_, hiff, hf.trans' hf18⟩
      rw [hx]
      have : (Lib.compareBytes x.1.data.toList t.data.toList == 0) = decide (x.1 = t) := by
        rw [Bool.eq_iff_iff, beq_iff_eq, decide_eq_true_eq]
        exact (cmp_zero _ _).trans ⟨fun h => bs_ext h, fun h => by rw [h]⟩
      rw [this]
    · have hlt := of_decide_eq_false hlt
      rw [List.getElem?_eq_none (by omega)]
theorem cmpmatch_spec (x : PRow) (t : ByteArray) (w : World) : Calls Tryz.prog F_packidx_Idx_Match_1 #[.agg (encP x).toArray, .string t] w fun e w' => e = .returned (.int .i64 (Lib.compareBytes x.1.data.toList t.data.toList)) ∧ Fr (fun _ => False) w w' := by
  refine vc_packidx_Idx_Match_1_ok (R := fun v w' => v = .int .i64 (Lib.compareBytes x.1.data.toList t.data.toList) ∧ Fr (fun _ => False) w w') ?_ (fun v w' h => ⟨by rw [h.1], h.2⟩)
  intro w1 h1
  have hf1 : Fr (fun _ => False) w w1 := by rw [h1]; exact .alloc _ _ _
  have hb1 : w1.heap[w.heap.size]? = some (.cells (encP x).toArray T_packidx_Row (0, 0)) := by rw [h1]; exact alloc_new _ _
  refine ⟨x.1, by rw [cell_blk hb1]; rfl, (compare_spec _ _ w1).mono ?_⟩
  rintro e w4 ⟨rfl, hw⟩
  replace hw := hw.symm
  subst hw
  exact ⟨_, rfl, rfl, hf1⟩
theorem searchmatch_spec {w : World} {a : Option Addr} {n c : Nat} {xs : List PRow} (hr : ReadsK encP 3 w a xs) (hn : xs.length = n) (hl : n ≤ 1000000) (hs : RiseP xs) (t : ByteArray) :
    Calls Tryz.prog 34 #[.slice a n c, .string t, .func (.func F_packidx_Idx_Match_1) #[] #[]] w fun e w' =>
      ∃ i : Nat, i ≤ n ∧ e = .returned (.tuple #[.int .i64 i, .bool (match xs[i]? with | some x => decide (x.1 = t) | none => false)]) ∧ (∀ k x, xs[k]? = some x → (x.1.data.toList < t.data.toList ↔ k < i)) ∧ Fr (fun _ => False) w w' := by
  refine vc_slices_BinarySearchFunc_match_ok (R := fun v w' => ∃ i : Nat, i ≤ n ∧ v = .tuple #[.int .i64 i, .bool (match xs[i]? with | some x => decide (x.1 = t) | none => false)] ∧ (∀ k x, xs[k]? = some x → (x.1.data.toList < t.data.toList ↔ k < i)) ∧ Fr (fun _ => False) w w') ?_ (fun v w' ⟨i, h0, h, h2⟩ => ⟨i, h0, by rw [h], h2⟩)
  refine ⟨fun i j w' => ∃ p q : Nat, i = p ∧ j = q ∧ p ≤ q ∧ q ≤ n ∧ (∀ k x, xs[k]? = some x → k < p → x.1.data.toList < t.data.toList) ∧ (∀ k x, xs[k]? = some x → q ≤ k → ¬ x.1.data.toList < t.data.toList) ∧ Fr (fun _ => False) w w', fun i j _ => j.toNat - i.toNat,
    ⟨0, n, rfl, rfl, Nat.zero_le _, Nat.le_refl _, fun k x _ h => by omega, fun k x hx h => by have := (List.getElem?_eq_some_iff.1 hx).1; omega, .refl _ _⟩, ?_⟩
  rintro i j w5 ⟨p, q, rfl, rfl, hpq, hqn, hlo, hhi, hf⟩
  refine ⟨fun hlt => ⟨by decide, ?_⟩, fun hge => ?_⟩
  · have hlt := of_decide_eq_true hlt
    have e1 : IntKind.i64.wrap (Int.fdiv (IntKind.u64.wrap (IntKind.i64.wrap ((p : Int) + (q : Int)))) (2 ^ min (Int.toNat 1) 64)) = (((p + q) / 2 : Nat) : Int) := by
      rw [wrap_i64 (x := (p : Int) + (q : Int)) (by omega) (by omega), wrap_u64 (by omega) (by omega), show (2 : Int) ^ min (Int.toNat 1) 64 = 2 by decide, Int.fdiv_eq_ediv_of_nonneg _ (by omega), wrap_i64 (by omega) (by omega)]
      omega
    have hm : (p + q) / 2 < xs.length := by omega
    obtain ⟨m, hme⟩ : ∃ m, (p + q) / 2 = m := ⟨_, rfl⟩
    have e2 : IntKind.i64.wrap ((m : Int) + 1) = ((m + 1 : Nat) : Int) := by rw [wrap_i64 (by omega) (by omega)]; omega
    rw [hme] at e1 hm
    rw [e1, e2]
    have hx : xs[m]? = some xs[m] := List.getElem?_eq_getElem hm
    generalize xs[m] = x at hx
    obtain ⟨ad, had, hld⟩ := (hr.keep hf (by simp)).load elP hx
    refine ⟨⟨by omega, by omega⟩, ad, had, x.1, x.2.1, x.2.2, by rw [Int.toNat_natCast]; exact hld, (cmpmatch_spec x t w5).mono ?_⟩
    rintro e w11 ⟨rfl, hf11⟩
    have hf11' := hf.trans' hf11
    refine ⟨_, rfl, fun hc => ⟨⟨m + 1, q, rfl, rfl, by omega, hqn, fun k y hy hk => ?_, hhi, hf11'⟩, by dsimp only; omega⟩, fun hc => ⟨⟨p, m, rfl, rfl, by omega, by omega, hlo, fun k y hy hk hlt' => ?_, hf11'⟩, by dsimp only; omega⟩⟩
    · exact riseP_lt hs hy hx (by omega) ((cmp_lt _ _).1 (of_decide_eq_true hc))
    · exact of_decide_eq_false hc ((cmp_lt _ _).2 (riseP_lt hs hx hy hk hlt'))
  · have hge := of_decide_eq_false hge
    have hpq' : p = q := by omega
    subst hpq'
    have hiff : ∀ k x, xs[k]? = some x → (x.1.data.toList < t.data.toList ↔ k < p) := fun k x hx => ⟨fun h => by
      by_cases hk : k < p
      · exact hk
      · exact absurd h (hhi k x hx (by omega)), hlo k x hx⟩
    refine ⟨fun hlt => ?_, fun hlt => ⟨p, hqn, ?_, hiff, hf⟩⟩
    · have hlt := of_decide_eq_true hlt
      have hm : p < xs.length := by omega
      have hx : xs[p]? = some xs[p] := List.getElem?_eq_getElem hm
      generalize xs[p] = x at hx
      obtain ⟨ad, had, hld⟩ := (hr.keep hf (by simp)).load elP hx
      refine ⟨⟨by omega, by omega⟩, ad, had, x.1, x.2.1, x.2.2, by rw [Int.toNat_natCast]; exact hld, (cmpmatch_spec x t w5).mono ?_⟩
      rintro e w18 ⟨rfl, hf18⟩
      refine ⟨_, rfl, p, hqn, ?_, hiff, hf.trans' hf18⟩
      rw [hx]
      have : (Lib.compareBytes x.1.data.toList t.data.toList == 0) = decide (x.1 = t) := by
        rw [Bool.eq_iff_iff, beq_iff_eq, decide_eq_true_eq]
        exact (cmp_zero _ _).trans ⟨fun h => bs_ext h, fun h => by rw [h]⟩
      rw [this]
    · have hlt := of_decide_eq_false hlt
      rw [List.getElem?_eq_none (by omega)]
/-- A row in a block of its own. -/
theorem boxP_new (w : World) : w.alloc (.cells #[.string ⟨#[]⟩, .int .i64 0, .int .u32 0] T_packidx_Row) = w.alloc (.cells (encP (⟨#[]⟩, 0, 0)).toArray T_packidx_Row) := rfl
theorem boxP_store {w : World} {g : Nat} {cs : Array Value} (h : w.heap[g]? = some (.cells cs T_packidx_Row (0, 0))) (hc : cs.size = 3) (x : PRow) :
    ∃ w', (storeVar T_packidx_Row ⟨g, 0, none⟩ (.agg #[.string x.1, .int .i64 x.2.1, .int .u32 x.2.2])).run Tryz.prog w = .ok () w' ∧ w'.heap[g]? = some (.cells (encP x).toArray T_packidx_Row (0, 0)) ∧ Fr (· = g) w w' :=
  ⟨_, run_storeVar_row (P := Tryz.prog) w g T_packidx_Row T_packidx_Row _ (encP x).toArray h (by kernel_rfl) (by rw [hc]; rfl) (by simp [encP, Value.oneCell']), setRow_heap w g _ (encP x).toArray T_packidx_Row (0, 0) h, setRow_fr (· = g) w g _ rfl⟩
theorem boxP_load {w : World} {g : Nat} {x : PRow} (h : w.heap[g]? = some (.cells (encP x).toArray T_packidx_Row (0, 0))) : (loadVar T_packidx_Row ⟨g, 0, none⟩).run Tryz.prog w = .ok (.agg #[.string x.1, .int .i64 x.2.1, .int .u32 x.2.2]) w :=
  load_agg (vs := encP x) (agg_of (by kernel_rfl)) (by kernel_rfl) fun k v hv => by rw [add_lit, Nat.zero_add, cell_blk h]; simpa [encP] using hv
def encPv (x : PRow) : Value := .agg #[.string x.1, .int .i64 x.2.1, .int .u32 x.2.2]
section
variable {w : World} {b : Nat} {rows : List PRow} {sum : ByteArray}
theorem len_spec (h : IsIdx w b rows sum) : Calls Tryz.prog F_packidx_Idx_Len #[.pointer (some ⟨b, 0, none⟩)] w fun e w' => e = .returned (.int .i64 (rows.length : Nat)) ∧ w' = w := by
  refine vc_packidx_Idx_Len_ok (R := fun v w' => v = .int .i64 (rows.length : Nat) ∧ w' = w) ?_ (fun v w' h => ⟨by rw [h.1], h.2⟩)
  obtain ⟨l, F, h1, h2, h3⟩ := h.at_
  exact ⟨l, h1.rowsC, by rw [h3], rfl⟩
theorem sumP_spec (h : IsIdx w b rows sum) : Calls Tryz.prog F_packidx_Idx_Sum #[.pointer (some ⟨b, 0, none⟩)] w fun e w' => e = .returned (.string sum) ∧ w' = w := by
  refine vc_packidx_Idx_Sum_ok (R := fun v w' => v = .string sum ∧ w' = w) ?_ (fun v w' h => ⟨by rw [h.1], h.2⟩)
  obtain ⟨l, F, h1, h2, h3⟩ := h.at_
  exact ⟨sum, h1.sumC, rfl, rfl⟩
/-- What is found under a name. -/
def findP (rows : List PRow) (id : ByteArray) : Option PRow := rows.find? fun x => decide (x.1 = id)
theorem findP_spec (h : IsIdx w b rows sum) (hl : rows.length ≤ 1000000) (hs : RiseP rows) (id : ByteArray) : Calls Tryz.prog F_packidx_Idx_Find #[.pointer (some ⟨b, 0, none⟩), .string id] w fun e w' =>
    e = .returned (match findP rows id with | some x => .tuple #[encPv x, .int .i64 0] | none => .tuple #[encPv (⟨#[]⟩, 0, 0), .int .i64 7]) ∧ Fr (fun _ => False) w w' := by
  refine vc_packidx_Idx_Find_ok (R := fun v w' => v = (match findP rows id with | some x => .tuple #[encPv x, .int .i64 0] | none => .tuple #[encPv (⟨#[]⟩, 0, 0), .int .i64 7]) ∧ Fr (fun _ => False) w w') ?_ (fun v w' h => ⟨by rw [h.1], h.2⟩)
  intro w1 h1
  have hf1 : Fr (fun _ => False) w w1 := by rw [h1]; exact .alloc _ _ _
  have hb1 : w1.heap[w.heap.size]? = some (.cells (encP (⟨#[]⟩, 0, 0)).toArray T_packidx_Row (0, 0)) := by rw [h1]; exact alloc_new _ _
  clear h1
  obtain ⟨l, F, k1, k2, k3⟩ := (h.keep hf1).at_
  refine ⟨l, k1.rowsC, (searchfind_spec k2 k3 (by omega) hs id).mono ?_⟩
  rintro e w4 ⟨i, hi, rfl, hiff, hf4⟩
  have hb4 := hf4.keep hb1 (by simp)
  have back : ∀ {w2 : World}, Fr (· = w.heap.size) w4 w2 → Fr (fun _ => False) w w2 := fun hf => (hf1.trans' hf4).trans hf fun q hq e => by omega
  refine ⟨_, _, rfl, fun hno => ?_, fun hyes => ⟨l, (k1.keep hf4 (by simp)).rowsC, ?_⟩⟩
  · have hnf : findP rows id = none := by
      unfold findP
      rw [List.find?_eq_none]
      intro x hx
      obtain ⟨k, hk⟩ := List.mem_iff_getElem?.1 hx
      intro he
      have he : x.1 = id := by simpa using he
      have h1 : ¬ k < i := fun hki => by
        have := (hiff k x hk).2 hki
        rw [he] at this; exact List.lt_irrefl _ this
      have hki : k = i := by
        rcases Nat.lt_or_ge i k with h2 | h2
        · exfalso
          have hil : i < rows.length := by have := (List.getElem?_eq_some_iff.1 hk).1; omega
          have h3 : ¬ rows[i].1.data.toList < id.data.toList := fun h4 => by have := (hiff i _ (List.getElem?_eq_getElem hil)).1 h4; omega
          have h5 := (List.pairwise_iff_getElem.1 hs) i k hil (List.getElem?_eq_some_iff.1 hk).1 h2
          rw [(List.getElem?_eq_some_iff.1 hk).2, he] at h5
          exact h3 h5
        · omega
      subst hki
      rw [hk] at hno
      simp [he] at hno
    obtain ⟨w2, hst, hb2, hf2⟩ := boxP_store hb4 rfl (⟨#[]⟩, 0, 0)
    exact ⟨w2, hst, _, _, _, boxP_load hb2, by rw [hnf]; rfl, back hf2⟩
  · cases hx : rows[i]? with
    | none => rw [hx] at hyes; simp at hyes
    | some x =>
      rw [hx] at hyes
      have he : x.1 = id := by simpa using hyes
      have hil := (List.getElem?_eq_some_iff.1 hx).1
      have hf : findP rows id = some x := by
        unfold findP
        have hsp : rows = rows.take i ++ (x :: rows.drop (i + 1)) := by
          have := List.drop_eq_getElem_cons hil
          rw [(List.getElem?_eq_some_iff.1 hx).2] at this
          rw [← this, List.take_append_drop]
        rw [hsp, List.find?_append, List.find?_eq_none.2 (fun y hy => ?_)]
        · simp [he]
        · obtain ⟨k, hk⟩ := List.mem_iff_getElem?.1 hy
          rw [List.getElem?_take] at hk
          split at hk
          · rename_i hki
            have := (hiff k y hk).2 hki
            intro e
            have e : y.1 = id := by simpa using e
            rw [e] at this; exact List.lt_irrefl _ this
          · cases hk
      obtain ⟨ad, had, hld⟩ := (k2.keep hf4 (by simp)).load elP hx
      obtain ⟨w2, hst, hb2, hf2⟩ := boxP_store hb4 rfl x
      exact ⟨⟨by omega, by omega⟩, ad, had, x.1, x.2.1, x.2.2, by rw [Int.toNat_natCast]; exact hld, w2, hst, _, _, _, boxP_load hb2, by rw [hf]; rfl, back hf2⟩
/-- The names that begin so. -/
def matchP (rows : List PRow) (front : ByteArray) : List ByteArray := (rows.filter fun x => begB x.1 front).map (·.1)
theorem matchP_spec (h : IsIdx w b rows sum) (hl : rows.length ≤ 1000000) (hs : RiseP rows) (front : ByteArray) : Calls Tryz.prog F_packidx_Idx_Match #[.pointer (some ⟨b, 0, none⟩), .string front] w fun e w' =>
    ∃ o, e = .returned (.slice o.a o.len o.cap) ∧ Vc.Own w' w.heap.size T_string o (strV (matchP rows front)) ∧ Fr (fun _ => False) w w' := by
  refine vc_packidx_Idx_Match_ok (R := fun v w' => ∃ o : Sl, v = .slice o.a o.len o.cap ∧ Vc.Own w' w.heap.size T_string o (strV (matchP rows front)) ∧ Fr (fun _ => False) w w') ?_ (fun v w' ⟨o, h⟩ => ⟨o, by rw [h.1], h.2⟩)
  obtain ⟨l, F, k1, k2, k3⟩ := h.at_
  refine ⟨l, k1.rowsC, (searchmatch_spec k2 k3 (by omega) hs front).mono ?_⟩
  rintro e w3 ⟨i, hin, rfl, hiff, hf3⟩
  refine ⟨_, _, rfl, fun o j w' => ∃ m : Nat, j = m ∧ i ≤ m ∧ m ≤ rows.length ∧ (∀ k x, rows[k]? = some x → i ≤ k → k < m → begB x.1 front = true) ∧ Vc.Own w' w.heap.size T_string o (strV (((rows.take m).drop i).map (·.1))) ∧ Fr (fun _ => False) w w', fun _ j _ => rows.length - j.toNat,
    ⟨i, rfl, Nat.le_refl _, by omega, fun k x _ h1 h2 => by omega, by rw [List.drop_eq_nil_of_le (by rw [List.length_take]; omega)]; exact Vc.Own.nil _ _ _, hf3⟩, ?_⟩
  rintro o j w10 ⟨m, rfl, him, hm, hall, ho, hf⟩
  have hk1 := k1.keep hf (by simp)
  have e1 : IntKind.i64.wrap ((m : Int) + 1) = ((m + 1 : Nat) : Int) := by rw [wrap_i64 (by omega) (by omega)]; omega
  rw [e1]
  have hlow : ∀ k x, rows[k]? = some x → k < i → begB x.1 front = false := fun k x hx hki => by
    have := (hiff k x hx).2 hki
    unfold begB
    refine decide_eq_false fun hp => ?_
    exact absurd this (pre_le _ _ hp)
  have fin : (∀ k x, rows[k]? = some x → m ≤ k → begB x.1 front = false) → matchP rows front = ((rows.take m).drop i).map (·.1) := fun hh => by
    unfold matchP
    rw [filter_mid (fun x : PRow => begB x.1 front) rows him hlow hall hh]
  refine ⟨l, hk1.rowsC, fun hlt => ⟨l, hk1.rowsC, ?_⟩, fun hge => ⟨o, rfl, ?_, hf⟩⟩
  · have hlt := of_decide_eq_true hlt
    have hml : m < rows.length := by omega
    have hx : rows[m]? = some rows[m] := List.getElem?_eq_getElem hml
    generalize rows[m] = x at hx
    obtain ⟨ad, had, hc⟩ := (k2.keep hf (by simp)) m x hx
    have hc0 := hc 0 (.string x.1) rfl
    rw [show (ad.add (m * 3)).add 0 = ad.add (m * 3) by rw [add_add]; rfl] at hc0
    refine ⟨⟨by omega, by omega⟩, ad, had, x.1, by rw [Int.toNat_natCast]; exact hc0, (hasPrefix_spec x.1 front w10).mono ?_⟩
    rintro e w16 ⟨rfl, hw⟩
    replace hw := hw.symm
    subst hw
    refine ⟨_, rfl, fun hb => ⟨l, hk1.rowsC, ⟨by omega, by omega⟩, ad, had, x.1, by rw [Int.toNat_natCast]; exact hc0, fun w21 h21 => ?_⟩, fun hb => ⟨o, rfl, ?_, hf⟩⟩
    · obtain ⟨w22, l23, hr22, ho22, hf22⟩ := grow_str x.1 (by rw [List.length_map, List.length_drop, List.length_take]; omega) ho hf h21
      refine ⟨w22, l23, hr22, ⟨m + 1, rfl, by omega, by omega, fun k y hy h1 h2 => ?_, ?_, hf22⟩, by dsimp only; omega⟩
      · by_cases hkm : k < m
        · exact hall k y hy h1 hkm
        · rw [show k = m by omega, hx] at hy
          cases hy; exact hb
      · have htk : rows.take (m + 1) = rows.take m ++ [x] := by rw [List.take_add_one, hx]; rfl
        rw [htk, List.drop_append_of_le_length (by rw [List.length_take]; omega), List.map_append]
        exact ho22
    · rw [fin fun k y hy hmk => ?_]
      · exact ho
      · by_cases hkm : k = m
        · subst hkm; rw [hx] at hy; cases hy; exact hb
        · cases hyb : begB y.1 front with
          | false => rfl
          | true =>
            exfalso
            have h1 : front.data.toList <+: y.1.data.toList := by unfold begB at hyb; exact of_decide_eq_true hyb
            have h2 : ¬ x.1.data.toList < front.data.toList := fun h => by have := (hiff m x hx).1 h; omega
            have h3 := (List.pairwise_iff_getElem.1 hs) m k hml (List.getElem?_eq_some_iff.1 hy).1 (by omega)
            rw [(List.getElem?_eq_some_iff.1 hx).2, (List.getElem?_eq_some_iff.1 hy).2] at h3
            have h4 := pre_between _ _ _ h2 (List.lt_asymm h3) h1
            unfold begB at hb
            rw [decide_eq_true h4] at hb
            cases hb
  · have hge := of_decide_eq_false hge
    have hm' : m = rows.length := by omega
    rw [fin fun k y hy hmk => by have := (List.getElem?_eq_some_iff.1 hy).1; omega]
    exact ho
end
end Go.Proofs.YtaaimcbicpgjoaaGreatDoor

/- The index that Build makes is read back by Parse. Conditions: as named. -/
set_option linter.unusedVariables false
namespace Go.Proofs.YtaaimcbicpgjoaaGreatDoor
open Go Vc HexM SumM ShaM Go.Proofs

theorem text_len {rs : List PRow} {sum : ByteArray} (hc : CheckP rs) (hf : ∀ r ∈ rs, Fits r) (hi : isId sum.data.toList = true) (hl : rs.length ≤ 1000) (far : Int) :
    (PkM.textT sha1D far ((sortP rs).map rawOf) (rawB sum)).length = 1072 + 28 * rs.length + 8 * (((sortP rs).map rawOf).filter (PkM.isFar far)).length ∧ PkM.Good ((sortP rs).map rawOf) ∧ RiseP (sortP rs) := by
  have hp := sortP_perm rs
  have hchk := checkP_perm hp.symm hc
  have hrise := near_rise (sortP_near rs) hchk.2
  have hgood := raw_good hchk hrise (fun r hr => hf r (hp.subset hr)) (by rw [hp.length_eq]; exact hl)
  obtain ⟨_, _, _, _, _, q6⟩ := PkM.body_parts (far := far) hgood (rawB_id hi).2.1
  refine ⟨?_, hgood, hrise⟩
  unfold PkM.textT
  rw [List.length_append, q6, digest_len, List.length_map, hp.length_eq]; omega
set_option maxRecDepth 100000 in
theorem parse_build {rs : List PRow} {sum : ByteArray} (hc : CheckP rs) (hf : ∀ r ∈ rs, Fits r) (hi : isId sum.data.toList = true) (hl : rs.length ≤ 1000) (far : Int) (w : World) :
    Calls Tryz.prog F_packidx_Parse #[.string ⟨(PkM.textT sha1D far ((sortP rs).map rawOf) (rawB sum)).toArray⟩] w fun e w' => ∃ b, e = .returned (.tuple #[.pointer (some ⟨b, 0, none⟩), .int .i64 0]) ∧ IsIdx w' b (sortP rs) sum ∧ Fr (fun _ => False) w w' := by
  obtain ⟨h1, hgood, hrise⟩ := text_len hc hf hi hl far
  have hfl := List.length_filter_le (PkM.isFar far) ((sortP rs).map rawOf)
  have hgl := hgood.few
  refine (parse_spec _ (by rw [bs_mksize, h1]; omega) w).mono ?_
  rintro e w' ⟨v, rfl, hF, hR⟩
  have hp := sortP_perm rs
  have hchk := checkP_perm hp.symm hc
  rw [bs_mk, PkM.parse_text hgood (rawB_id hi).2.1 digest_len] at hR
  simp only at hR
  rw [raw_back hchk (fun r hr => hf r (hp.subset hr))] at hR
  obtain ⟨b, rfl, _, hI⟩ := hR
  have hs : (⟨(hexL (rawB sum)).toArray⟩ : ByteArray) = sum := bs_ext (by rw [bs_mk]; exact (rawB_id hi).2.2)
  rw [hs] at hI
  exact ⟨b, rfl, hI, hF⟩
theorem match_mem {ys : List PRow} {x : PRow} {f : ByteArray} (hx : x ∈ ys) (hb : begB x.1 f = true) : x.1 ∈ matchP ys f := by
  unfold matchP
  exact List.mem_map.2 ⟨x, List.mem_filter.2 ⟨hx, hb⟩, rfl⟩
theorem match_rise {ys : List PRow} (h : RiseP ys) (f : ByteArray) : (matchP ys f).Pairwise fun x y => x.data.toList < y.data.toList := by
  unfold matchP
  rw [List.pairwise_map]
  exact h.sublist List.filter_sublist
theorem id_begins {s : ByteArray} (h : isId s.data.toList = true) : begB s ⟨#[103]⟩ = false := by
  unfold begB
  refine decide_eq_false fun hp => ?_
  have h1 := h
  unfold isId at h1
  rw [Bool.and_eq_true, unhexL_iff, Bool.and_eq_true] at h1
  have hm : (103 : UInt8) ∈ s.data.toList := hp.subset (by simp)
  have := List.all_eq_true.1 h1.1.1 103 hm
  revert this; decide
end Go.Proofs.YtaaimcbicpgjoaaGreatDoor

/- Formulas of 1 Go functions of this seat (written by a program of the author's, vcgen.py), and that each is enough for the call. No condition. -/
set_option linter.unusedVariables false
namespace Go.Proofs.YtaaimcbicpgjoaaGreatDoor
open Go Vc Go.Proofs
set_option maxRecDepth 100000
/-- cartularytop.CartularyPacks -/
def vc_cartularytop_CartularyPacks (x0a : Option Addr) (x0n : Nat) (x0c : Nat) (w : World) (R : Value → World → Prop) : Prop :=
 Calls Tryz.prog (4 : Nat) (Array.mk [Value.slice none (0 : Nat) (0 : Nat)]) (w) (fun e1 w2 =>
 ∃ s3 : ByteArray, ∃ n4 : Int, (e1 = Ending.returned (Value.tuple (Array.mk [Value.string s3, Value.int IntKind.i64 n4])) ∧
 ((((n4 != 0) = true →
 R (Value.bool false) w2)) ∧
 ((n4 != 0) = false →
 (((((↑(ByteArray.size s3) : Int) != 32) = true →
 R (Value.bool false) w2)) ∧
 (((↑(ByteArray.size s3) : Int) != 32) = false →
 Calls Tryz.prog (5 : Nat) (Array.mk [Value.slice x0a x0n x0c, Value.int IntKind.i64 12]) (w2) (fun e5 w6 =>
 ∃ l7 : Sl, (e5 = Ending.returned (Value.slice l7.1 l7.2 l7.3) ∧
 Calls Tryz.prog (4 : Nat) (Array.mk [Value.slice l7.1 l7.2 l7.3]) (w6) (fun e8 w9 =>
 ∃ s10 : ByteArray, ∃ n11 : Int, (e8 = Ending.returned (Value.tuple (Array.mk [Value.string s10, Value.int IntKind.i64 n11])) ∧
 ((((n11 != 0) = true →
 R (Value.bool true) w9)) ∧
 ((n11 != 0) = false →
 Calls Tryz.prog (6 : Nat) (Array.mk [Value.string s10]) (w9) (fun e12 w13 =>
 ∃ l14 : Sl, ∃ n15 : Int, (e12 = Ending.returned (Value.tuple (Array.mk [Value.slice l14.1 l14.2 l14.3, Value.int IntKind.i64 n15])) ∧
 ((((n15 != 0) = true →
 R (Value.bool false) w13)) ∧
 ((n15 != 0) = false →
 (((((↑l14.2 : Int) != (↑l7.2 : Int)) = true →
 R (Value.bool false) w13)) ∧
 (((↑l14.2 : Int) != (↑l7.2 : Int)) = false →
 ∀ w16 : World,
 (w16 = World.alloc w13 (Obj.cells (Array.mk []) 40) →
 ∃ I17 : Sl → Int → World → Prop, ∃ I18 : Sl → Int → World → Nat, (I17 (Sl.mk (some (Addr.mk (Array.size (World.heap w13)) 0 none)) 0 0) 0 w16 ∧
 ∀ l19 : Sl,
 ∀ n20 : Int,
 ∀ w21 : World,
 (I17 l19 n20 w21 →
 (((decide (n20 < (↑l14.2 : Int)) = true →
 ((0 ≤ n20 ∧
 n20 < (↑l14.2 : Int)) ∧
 ∃ a22 : Addr, (l14.1 = some a22 ∧
 ∃ n23 : Int, ∃ n24 : Int, ∃ n25 : Int, ∃ s26 : ByteArray, ∃ n27 : Int, ∃ s28 : ByteArray, ∃ n29 : Int, (Sem.run Tryz.prog (loadVar 33 (Addr.add a22 (Int.toNat n20 * 7))) w21 = Result.ok (Value.agg (Array.mk [Value.int IntKind.i64 n23, Value.int IntKind.i64 n24, Value.int IntKind.i64 n25, Value.string s26, Value.int IntKind.i64 n27, Value.string s28, Value.int IntKind.u32 n29])) w21 ∧
 ∀ w30 : World,
 (w30 = World.alloc w21 (Obj.cells (Array.mk [Value.int IntKind.i64 0, Value.int IntKind.i64 0, Value.int IntKind.i64 0, Value.string (ByteArray.mk (Array.mk [])), Value.int IntKind.i64 0, Value.string (ByteArray.mk (Array.mk [])), Value.int IntKind.u32 0]) 33) →
 ∃ w31 : World, (Sem.run Tryz.prog (storeVar 33 (Addr.mk (Array.size (World.heap w21)) 0 none) (Value.agg (Array.mk [Value.int IntKind.i64 n23, Value.int IntKind.i64 n24, Value.int IntKind.i64 n25, Value.string s26, Value.int IntKind.i64 n27, Value.string s28, Value.int IntKind.u32 n29]))) w30 = Result.ok PUnit.unit w31 ∧
 ((0 ≤ n20 ∧
 n20 < (↑l7.2 : Int)) ∧
 ∃ a32 : Addr, (l7.1 = some a32 ∧
 ∃ n33 : Int, ∃ s34 : ByteArray, (Sem.run Tryz.prog (loadVar 36 (Addr.add a32 (Int.toNat n20 * 5))) w31 = Result.ok (Value.agg (Array.mk [Value.int IntKind.i64 n33, Value.string s34])) w31 ∧
 Calls Tryz.prog (7 : Nat) (Array.mk [Value.agg (Array.mk [Value.int IntKind.i64 n33, Value.string s34])]) (w31) (fun e35 w36 =>
 ∃ s37 : ByteArray, ∃ n38 : Int, (e35 = Ending.returned (Value.tuple (Array.mk [Value.string s37, Value.int IntKind.i64 n38])) ∧
 ∃ I39 : Bool → Int → World → Prop, ∃ I40 : Bool → Int → World → Nat, (I39 false 0 w36 ∧
 ∀ b41 : Bool,
 ∀ n42 : Int,
 ∀ w43 : World,
 (I39 b41 n42 w43 →
 (((decide (n42 < (↑l19.2 : Int)) = true →
 ((0 ≤ n42 ∧
 n42 < (↑l19.2 : Int)) ∧
 ∃ a44 : Addr, (l19.1 = some a44 ∧
 ∃ s45 : ByteArray, ∃ n46 : Int, ∃ n47 : Int, (Sem.run Tryz.prog (loadVar 40 (Addr.add a44 (Int.toNat n42 * 3))) w43 = Result.ok (Value.agg (Array.mk [Value.string s45, Value.int IntKind.i64 n46, Value.int IntKind.u32 n47])) w43 ∧
 ∀ w48 : World,
 (w48 = World.alloc w43 (Obj.cells (Array.mk [Value.string (ByteArray.mk (Array.mk [])), Value.int IntKind.i64 0, Value.int IntKind.u32 0]) 40) →
 ∃ w49 : World, (Sem.run Tryz.prog (storeVar 40 (Addr.mk (Array.size (World.heap w43)) 0 none) (Value.agg (Array.mk [Value.string s45, Value.int IntKind.i64 n46, Value.int IntKind.u32 n47]))) w48 = Result.ok PUnit.unit w49 ∧
 (((b41 = true →
 (I39 true (IntKind.wrap IntKind.i64 (n42 + 1)) w49 ∧
 I40 true (IntKind.wrap IntKind.i64 (n42 + 1)) w49 < I40 b41 n42 w43))) ∧
 (b41 = false →
 ∃ s50 : ByteArray, (World.cell? w49 (Addr.mk (Array.size (World.heap w43)) 0 none) = some (Value.string s50) ∧
 (I39 (ByteArray.toList s50 == ByteArray.toList s37) (IntKind.wrap IntKind.i64 (n42 + 1)) w49 ∧
 I40 (ByteArray.toList s50 == ByteArray.toList s37) (IntKind.wrap IntKind.i64 (n42 + 1)) w49 < I40 b41 n42 w43))))))))))) ∧
 (decide (n42 < (↑l19.2 : Int)) = false →
 ((((!b41) = true →
 ∃ n51 : Int, (World.cell? w43 (Addr.mk (Array.size (World.heap w21)) 0 none) = some (Value.int IntKind.i64 n51) ∧
 ∃ n52 : Int, (World.cell? w43 (Addr.mk (Array.size (World.heap w21)) 6 none) = some (Value.int IntKind.u32 n52) ∧
 ∀ w53 : World,
 (w53 = World.alloc w43 (Obj.cells (Array.mk [Value.string s37, Value.int IntKind.i64 n51, Value.int IntKind.u32 n52]) 40) →
 ∃ w54 : World, ∃ l55 : Sl, (Sem.run Tryz.prog (Builtin.append_ (Array.mk [30, 30]) 30 (Array.mk [Value.slice l19.1 l19.2 l19.3, Value.slice (some (Addr.mk (Array.size (World.heap w43)) 0 none)) 1 1])) w53 = Result.ok (Value.slice l55.1 l55.2 l55.3) w54 ∧
 (I17 (Sl.mk l55.1 l55.2 l55.3) (IntKind.wrap IntKind.i64 (n20 + 1)) w54 ∧
 I18 (Sl.mk l55.1 l55.2 l55.3) (IntKind.wrap IntKind.i64 (n20 + 1)) w54 < I18 l19 n20 w21))))))) ∧
 ((!b41) = false →
 (I17 (Sl.mk l19.1 l19.2 l19.3) (IntKind.wrap IntKind.i64 (n20 + 1)) w43 ∧
 I18 (Sl.mk l19.1 l19.2 l19.3) (IntKind.wrap IntKind.i64 (n20 + 1)) w43 < I18 l19 n20 w21))))))))))))))))))) ∧
 (decide (n20 < (↑l14.2 : Int)) = false →
 ((0 ≤ IntKind.wrap IntKind.i64 ((↑(ByteArray.size s10) : Int) - 20) ∧
 IntKind.wrap IntKind.i64 ((↑(ByteArray.size s10) : Int) - 20) ≤ (↑(ByteArray.size s10) : Int)) ∧
 Calls Tryz.prog (9 : Nat) (Array.mk [Value.string (ByteArray.extract s10 (Int.toNat (IntKind.wrap IntKind.i64 ((↑(ByteArray.size s10) : Int) - 20))) (ByteArray.size s10))]) (w21) (fun e56 w57 =>
 ∃ s58 : ByteArray, (e56 = Ending.returned (Value.string s58) ∧
 Calls Tryz.prog (8 : Nat) (Array.mk [Value.slice l19.1 l19.2 l19.3, Value.string s58, Value.int IntKind.i64 2147483648]) (w57) (fun e59 w60 =>
 ∃ s61 : ByteArray, ∃ n62 : Int, (e59 = Ending.returned (Value.tuple (Array.mk [Value.string s61, Value.int IntKind.i64 n62])) ∧
 Calls Tryz.prog (10 : Nat) (Array.mk [Value.string s61]) (w60) (fun e63 w64 =>
 ∃ p65 : Option Addr, ∃ n66 : Int, (e63 = Ending.returned (Value.tuple (Array.mk [Value.pointer p65, Value.int IntKind.i64 n66])) ∧
 ∀ w67 : World,
 (Drew w64 w67 →
 ∃ I68 : World → Prop, (I68 w67 ∧
 ((((n62 != 0) = true →
 (I68 w67 ∧
 (I68 w67 ∧
 (I68 w67 ∧
 R (Value.bool false) w67))))) ∧
 ((n62 != 0) = false →
 ((((n66 != 0) = true →
 (I68 w67 ∧
 (I68 w67 ∧
 (I68 w67 ∧
 R (Value.bool false) w67))))) ∧
 ((n66 != 0) = false →
 (((Option.isNone p65 = true →
 (I68 w67 ∧
 (I68 w67 ∧
 (I68 w67 ∧
 R (Value.bool false) w67))))) ∧
 (Option.isNone p65 = false →
 Calls Tryz.prog (11 : Nat) (Array.mk [Value.pointer p65]) (w67) (fun e69 w70 =>
 ∃ n71 : Int, (e69 = Ending.returned (Value.int IntKind.i64 n71) ∧
 (I68 w70 ∧
 ((((n71 != (↑l19.2 : Int)) = true →
 (I68 w70 ∧
 (I68 w70 ∧
 R (Value.bool false) w70)))) ∧
 ((n71 != (↑l19.2 : Int)) = false →
 ((0 ≤ IntKind.wrap IntKind.i64 ((↑(ByteArray.size s10) : Int) - 20) ∧
 IntKind.wrap IntKind.i64 ((↑(ByteArray.size s10) : Int) - 20) ≤ (↑(ByteArray.size s10) : Int)) ∧
 Calls Tryz.prog (12 : Nat) (Array.mk [Value.pointer p65]) (w70) (fun e72 w73 =>
 ∃ s74 : ByteArray, (e72 = Ending.returned (Value.string s74) ∧
 (I68 w73 ∧
 Calls Tryz.prog (9 : Nat) (Array.mk [Value.string (ByteArray.extract s10 (Int.toNat (IntKind.wrap IntKind.i64 ((↑(ByteArray.size s10) : Int) - 20))) (ByteArray.size s10))]) (w73) (fun e75 w76 =>
 ∃ s77 : ByteArray, (e75 = Ending.returned (Value.string s77) ∧
 (I68 w76 ∧
 ((((!ByteArray.toList s74 == ByteArray.toList s77) = true →
 R (Value.bool false) w76)) ∧
 ((!ByteArray.toList s74 == ByteArray.toList s77) = false →
 ∃ I78 : Int → World → Prop, ∃ I79 : Int → World → Nat, (I78 0 w76 ∧
 ∀ n80 : Int,
 ∀ w81 : World,
 (I78 n80 w81 →
 (((decide (n80 < (↑l19.2 : Int)) = true →
 ((0 ≤ n80 ∧
 n80 < (↑l19.2 : Int)) ∧
 ∃ a82 : Addr, (l19.1 = some a82 ∧
 ∃ s83 : ByteArray, ∃ n84 : Int, ∃ n85 : Int, (Sem.run Tryz.prog (loadVar 40 (Addr.add a82 (Int.toNat n80 * 3))) w81 = Result.ok (Value.agg (Array.mk [Value.string s83, Value.int IntKind.i64 n84, Value.int IntKind.u32 n85])) w81 ∧
 ∀ w86 : World,
 (w86 = World.alloc w81 (Obj.cells (Array.mk [Value.string (ByteArray.mk (Array.mk [])), Value.int IntKind.i64 0, Value.int IntKind.u32 0]) 40) →
 ∃ w87 : World, (Sem.run Tryz.prog (storeVar 40 (Addr.mk (Array.size (World.heap w81)) 0 none) (Value.agg (Array.mk [Value.string s83, Value.int IntKind.i64 n84, Value.int IntKind.u32 n85]))) w86 = Result.ok PUnit.unit w87 ∧
 ∃ s88 : ByteArray, (World.cell? w87 (Addr.mk (Array.size (World.heap w81)) 0 none) = some (Value.string s88) ∧
 Calls Tryz.prog (13 : Nat) (Array.mk [Value.pointer p65, Value.string s88]) (w87) (fun e89 w90 =>
 ∃ s91 : ByteArray, ∃ n92 : Int, ∃ n93 : Int, ∃ n94 : Int, (e89 = Ending.returned (Value.tuple (Array.mk [Value.agg (Array.mk [Value.string s91, Value.int IntKind.i64 n92, Value.int IntKind.u32 n93]), Value.int IntKind.i64 n94])) ∧
 ∀ w95 : World,
 (w95 = World.alloc w90 (Obj.cells (Array.mk [Value.string (ByteArray.mk (Array.mk [])), Value.int IntKind.i64 0, Value.int IntKind.u32 0]) 40) →
 ∃ w96 : World, (Sem.run Tryz.prog (storeVar 40 (Addr.mk (Array.size (World.heap w90)) 0 none) (Value.agg (Array.mk [Value.string s91, Value.int IntKind.i64 n92, Value.int IntKind.u32 n93]))) w95 = Result.ok PUnit.unit w96 ∧
 ∃ n97 : Int, (World.cell? w96 (Addr.mk (Array.size (World.heap w90)) 1 none) = some (Value.int IntKind.i64 n97) ∧
 Calls Tryz.prog (14 : Nat) (Array.mk [Value.string s10, Value.int IntKind.i64 n97]) (w96) (fun e98 w99 =>
 ∃ n100 : Int, ∃ n101 : Int, ∃ n102 : Int, ∃ s103 : ByteArray, ∃ n104 : Int, ∃ s105 : ByteArray, ∃ n106 : Int, ∃ n107 : Int, (e98 = Ending.returned (Value.tuple (Array.mk [Value.agg (Array.mk [Value.int IntKind.i64 n100, Value.int IntKind.i64 n101, Value.int IntKind.i64 n102, Value.string s103, Value.int IntKind.i64 n104, Value.string s105, Value.int IntKind.u32 n106]), Value.int IntKind.i64 n107])) ∧
 ∀ w108 : World,
 (w108 = World.alloc w99 (Obj.cells (Array.mk [Value.int IntKind.i64 0, Value.int IntKind.i64 0, Value.int IntKind.i64 0, Value.string (ByteArray.mk (Array.mk [])), Value.int IntKind.i64 0, Value.string (ByteArray.mk (Array.mk [])), Value.int IntKind.u32 0]) 33) →
 ∃ w109 : World, (Sem.run Tryz.prog (storeVar 33 (Addr.mk (Array.size (World.heap w99)) 0 none) (Value.agg (Array.mk [Value.int IntKind.i64 n100, Value.int IntKind.i64 n101, Value.int IntKind.i64 n102, Value.string s103, Value.int IntKind.i64 n104, Value.string s105, Value.int IntKind.u32 n106]))) w108 = Result.ok PUnit.unit w109 ∧
 ∃ s110 : ByteArray, (World.cell? w109 (Addr.mk (Array.size (World.heap w81)) 0 none) = some (Value.string s110) ∧
 (((0 : Int) ≤ (6 : Int) ∧
 6 ≤ (↑(ByteArray.size s110) : Int)) ∧
 Calls Tryz.prog (15 : Nat) (Array.mk [Value.pointer p65, Value.string (ByteArray.extract s110 0 (Int.toNat 6))]) (w109) (fun e111 w112 =>
 ∃ l113 : Sl, (e111 = Ending.returned (Value.slice l113.1 l113.2 l113.3) ∧
 ∃ I114 : Bool → Int → World → Prop, ∃ I115 : Bool → Int → World → Nat, (I114 false 0 w112 ∧
 ∀ b116 : Bool,
 ∀ n117 : Int,
 ∀ w118 : World,
 (I114 b116 n117 w118 →
 (((decide (n117 < (↑l113.2 : Int)) = true →
 ((0 ≤ n117 ∧
 n117 < (↑l113.2 : Int)) ∧
 ∃ a119 : Addr, (l113.1 = some a119 ∧
 ∃ s120 : ByteArray, (World.cell? w118 (Addr.add a119 (Int.toNat n117 * 1)) = some (Value.string s120) ∧
 (((b116 = true →
 (I114 true (IntKind.wrap IntKind.i64 (n117 + 1)) w118 ∧
 I115 true (IntKind.wrap IntKind.i64 (n117 + 1)) w118 < I115 b116 n117 w118))) ∧
 (b116 = false →
 ∃ s121 : ByteArray, (World.cell? w118 (Addr.mk (Array.size (World.heap w81)) 0 none) = some (Value.string s121) ∧
 (I114 (ByteArray.toList s120 == ByteArray.toList s121) (IntKind.wrap IntKind.i64 (n117 + 1)) w118 ∧
 I115 (ByteArray.toList s120 == ByteArray.toList s121) (IntKind.wrap IntKind.i64 (n117 + 1)) w118 < I115 b116 n117 w118))))))))) ∧
 (decide (n117 < (↑l113.2 : Int)) = false →
 ∀ w122 : World,
 (Drew w118 w122 →
 ∃ I123 : World → Prop, (I123 w122 ∧
 ((((n94 != 0) = true →
 (I123 w122 ∧
 R (Value.bool false) w122))) ∧
 ((n94 != 0) = false →
 ((((n107 != 0) = true →
 (I123 w122 ∧
 R (Value.bool false) w122))) ∧
 ((n107 != 0) = false →
 ∃ s124 : ByteArray, ∃ n125 : Int, ∃ n126 : Int, ((∀ w127 : World,
 (I123 w127 →
 Sem.run Tryz.prog (loadVar 40 (Addr.mk (Array.size (World.heap w90)) 0 none)) w127 = Result.ok (Value.agg (Array.mk [Value.string s124, Value.int IntKind.i64 n125, Value.int IntKind.u32 n126])) w127)) ∧
 ∃ s128 : ByteArray, ∃ n129 : Int, ∃ n130 : Int, ((∀ w131 : World,
 (I123 w131 →
 Sem.run Tryz.prog (loadVar 40 (Addr.mk (Array.size (World.heap w81)) 0 none)) w131 = Result.ok (Value.agg (Array.mk [Value.string s128, Value.int IntKind.i64 n129, Value.int IntKind.u32 n130])) w131)) ∧
 ((((!(ByteArray.toList s124 == ByteArray.toList s128 && (n125 == n129 && n126 == n130))) = true →
 (I123 w122 ∧
 R (Value.bool false) w122))) ∧
 ((!(ByteArray.toList s124 == ByteArray.toList s128 && (n125 == n129 && n126 == n130))) = false →
 ∃ n132 : Int, ((∀ w133 : World,
 (I123 w133 →
 World.cell? w133 (Addr.mk (Array.size (World.heap w99)) 6 none) = some (Value.int IntKind.u32 n132))) ∧
 ∃ n134 : Int, ((∀ w135 : World,
 (I123 w135 →
 World.cell? w135 (Addr.mk (Array.size (World.heap w81)) 2 none) = some (Value.int IntKind.u32 n134))) ∧
 ((((n132 != n134) = true →
 (I123 w122 ∧
 R (Value.bool false) w122))) ∧
 ((n132 != n134) = false →
 ∃ n136 : Int, ((∀ w137 : World,
 (I123 w137 →
 World.cell? w137 (Addr.mk (Array.size (World.heap w99)) 0 none) = some (Value.int IntKind.i64 n136))) ∧
 ∃ n138 : Int, ((∀ w139 : World,
 (I123 w139 →
 World.cell? w139 (Addr.mk (Array.size (World.heap w99)) 1 none) = some (Value.int IntKind.i64 n138))) ∧
 ((0 ≤ n136 ∧
 (n136 ≤ n138 ∧
 n138 ≤ (↑(ByteArray.size s10) : Int))) ∧
 ∃ n140 : Int, ((∀ w141 : World,
 (I123 w141 →
 World.cell? w141 (Addr.mk (Array.size (World.heap w81)) 2 none) = some (Value.int IntKind.u32 n140))) ∧
 Calls Tryz.prog (16 : Nat) (Array.mk [Value.string (ByteArray.extract s10 (Int.toNat n136) (Int.toNat n138))]) (w122) (fun e142 w143 =>
 ∃ n144 : Int, (e142 = Ending.returned (Value.int IntKind.u32 n144) ∧
 (I123 w143 ∧
 ((((n144 != n140) = true →
 R (Value.bool false) w143)) ∧
 ((n144 != n140) = false →
 ((((!b116) = true →
 R (Value.bool false) w143)) ∧
 ((!b116) = false →
 (I78 (IntKind.wrap IntKind.i64 (n80 + 1)) w143 ∧
 I79 (IntKind.wrap IntKind.i64 (n80 + 1)) w143 < I79 n80 w81))))))))))))))))))))))))))))))))))))))))))))))))))) ∧
 (decide (n80 < (↑l19.2 : Int)) = false →
 R (Value.bool true) w81))))))))))))))))))))))))))))))))))))))))))))))))))))))))
theorem vc_cartularytop_CartularyPacks_ok {x0a : Option Addr} {x0n : Nat} {x0c : Nat} {w : World} {R : Value → World → Prop} {R' : Ending → World → Prop} (h : vc_cartularytop_CartularyPacks x0a x0n x0c w R) (hR : ∀ v w', R v w' → R' (.returned v) w') :
    Calls Tryz.prog 3 #[.slice x0a x0n x0c] w R' :=
  calls_of_body (vs := [(.slice x0a x0n x0c, false)]) (ty := ty) (ann := ⟨[], [(13, [(9, .slice), (68, .int .i64)]), (18, [(14, .bool), (84, .int .i64)]), (30, [(154, .int .i64)]), (37, [(28, .bool), (179, .int .i64)])], [(27, .held [(0, true), (1, true), (2, true), (3, true), (4, true), (5, true), (6, true), (7, true), (8, true), (9, true), (10, true), (11, true), (13, true), (14, true), (12, false), (15, true), (16, true), (17, true), (18, true), (20, true), (21, true), (22, true), (23, true), (24, true), (19, false), (25, false), (26, true), (27, true)]), (41, .held [(0, true), (1, true), (2, true), (3, true), (4, true), (5, true), (6, true), (7, true), (8, true), (9, true), (10, true), (11, true), (12, true), (13, true), (14, true), (15, true), (16, true), (17, true), (18, true), (19, true), (20, true), (21, true), (22, true), (23, true), (24, true), (26, true), (27, true), (25, false), (28, true), (29, true), (30, true), (31, true), (32, true), (33, true)])], []⟩) (c := Tryz.f3.body.getD .skip) (by kernel_rfl) Tryz.func3 (by kernel_rfl) (by kernel_rfl) (Eq.mp (by kernel_rfl) h) hR
end Go.Proofs.YtaaimcbicpgjoaaGreatDoor

/- The law CartularyPacks walked. Condition: Itoa's table is as laid. -/
set_option linter.unusedVariables false
namespace Go.Proofs.YtaaimcbicpgjoaaGreatDoor
open Go Vc HexM SumM ShaM Go.Proofs

theorem idP (k : Int) (d : ByteArray) : isId (idS k d).data.toList = true := by
  unfold idS
  rw [bs_mk]
  unfold isId
  rw [unhex_hex, hexL_length, dig1_len]; rfl
theorem idP_len (k : Int) (d : ByteArray) : (idS k d).size = 40 := by
  unfold idS
  rw [bs_mksize, hexL_length, dig1_len]
/-- Each row is one of the pack's entries. -/
def RowOf (xs : List ItP) (es : List EnP) (r : PRow) : Prop := ∃ (i : Nat) (e : EnP) (x : ItP), es[i]? = some e ∧ xs[i]? = some x ∧ r = (idS x.k x.d, ((posAt es i : Nat) : Int), ((crcP e : Nat) : Int))
theorem findP_mem {rs : List PRow} (hd : rs.Pairwise fun x y => x.1 ≠ y.1) {r : PRow} (hr : r ∈ rs) : findP rs r.1 = some r := by
  unfold findP
  induction rs with
  | nil => simp at hr
  | cons x l ih =>
    rw [List.pairwise_cons] at hd
    rcases List.mem_cons.1 hr with rfl | hr
    · rw [List.find?_cons_of_pos (by simp)]
    · rw [List.find?_cons_of_neg (by simpa using hd.1 r hr)]
      exact ih hd.2 hr
set_option maxHeartbeats 3200000 in
theorem packs_walk {a : Option Addr} {n c : Nat} {W : World} {xs0 : List ItP} (hr : ReadsK encIt 5 W a xs0) (hn : xs0.length = n) (ht : Tab10 W) :
    Calls Tryz.prog F_cartularytop_CartularyPacks #[.slice a n c] W fun e w' => e = .returned (.bool true) ∧ RowKit.Below W.heap.size W w' := by
  refine vc_cartularytop_CartularyPacks_ok (R := fun v w' => v = .bool true ∧ Fr (fun _ => False) W w') ?_ (fun v w' h => ⟨by rw [h.1], (h.2.mono fun _ _ h => h.elim : Fr (fun k => W.heap.size ≤ k) W w').below (Nat.le_refl _)⟩)
  refine (pbuild_spec (xs := []) (n := 0) (ReadsK.nil _ _) rfl (by decide) (by simp) ht).mono ?_
  rintro e w2 ⟨f2, ⟨k, hk, h0, rfl⟩ | ⟨es0, h1, _, _, rfl⟩⟩
  · omega
  have h32 : (⟨(packL 0 es0 ++ shaL (packL 0 es0)).toArray⟩ : ByteArray).size = 32 := by
    have he0 : es0 = [] := List.eq_nil_of_length_eq_zero h1
    subst he0
    rw [bs_mksize, List.length_append, shaL_len]
    unfold packL
    rw [List.length_append, hdrP_len]; rfl
  refine ⟨_, _, rfl, fun h => (by cases h), fun _ => ⟨fun h => ?_, fun _ => (short11_spec (hr.keep f2 (by simp)) hn).mono ?_⟩⟩
  · rw [h32] at h; cases h
  rintro e w6 ⟨l7, rfl, o7, f6⟩
  have hxd : ∀ x ∈ (xs0.take 12).map cutI, x.d.size ≤ 400 := fun x hx => by
    obtain ⟨y, _, rfl⟩ := List.mem_map.1 hx
    exact fewS_len y.d 400
  have hxl : ((xs0.take 12).map cutI).length ≤ 12 := by rw [List.length_map, List.length_take]; omega
  generalize (xs0.take 12).map cutI = xs at o7 hxd hxl
  have hl7 : l7.len = xs.length := o7.len
  have g6 := f2.trans' f6
  refine ⟨l7, rfl, (pbuild_spec (o7.reads elIt.len) o7.1 (by omega) hxd (ht.keep g6)).mono ?_⟩
  rintro e w9 ⟨f9, ⟨k, hk, _, rfl⟩ | ⟨es, hel, hok, hkinds, rfl⟩⟩
  · exact ⟨_, _, rfl, fun _ => ⟨rfl, g6.trans' f9⟩, fun h => absurd (by simpa using h) hk⟩
  obtain ⟨s, hs⟩ : ∃ s : ByteArray, ⟨(packL l7.len es ++ shaL (packL l7.len es)).toArray⟩ = s := ⟨_, rfl⟩
  have hsl : s.data.toList = packL l7.len es ++ shaL (packL l7.len es) := by rw [← hs, bs_mk]
  rw [hs]
  clear hs
  have htot := okEs_len 12 es hok
  have hss : s.size = 12 + (es.flatMap bytesP).length + 20 := by
    rw [← bs_len, hsl, List.length_append, shaL_len]
    unfold packL
    rw [List.length_append, hdrP_len]
  have g9 := g6.trans' f9
  refine ⟨_, _, rfl, fun h => (by cases h), fun _ => (pall_spec hsl hok hel (by omega) w9).mono ?_⟩
  rintro e w13 ⟨l14, vs, rfl, o14, hvl, hvs, f13⟩
  have hl14 : l14.len = vs.length := o14.len
  have g13 := g9.trans' f13
  have o7_13 := (o7.keep f9 (by simp)).keep f13 (by simp)
  refine ⟨l14, 0, rfl, fun h => (by cases h), fun _ => ⟨fun h => ?_, fun _ w16 h16 => ?_⟩⟩
  · rw [hl14, hvl] at h
    simp at h
  have f16 : Fr (fun _ => False) w13 w16 := by rw [h16]; exact .alloc _ _ _
  have o16 : OwnK encP 3 w16 w13.heap.size T_packidx_Row ⟨some ⟨w13.heap.size, 0, none⟩, 0, 0⟩ [] := by rw [h16]; exact OwnK.empty w13 _
  clear h16
  refine ⟨fun l m w' => ∃ (i : Nat) (rs : List PRow), m = i ∧ i ≤ vs.length ∧ rs.length ≤ i ∧ OwnK encP 3 w' w13.heap.size T_packidx_Row l rs ∧ (∀ r ∈ rs, RowOf xs es r) ∧ (rs.Pairwise fun x y => x.1 ≠ y.1) ∧ Fr (fun _ => False) w13 w', fun _ m _ => vs.length - m.toNat,
    ⟨0, [], rfl, Nat.zero_le _, Nat.zero_le _, o16, by simp, List.Pairwise.nil, f16⟩, ?_⟩
  clear o16 f16
  rintro l19 m w21 ⟨i, rs, rfl, hi, hrl, o21, hro, hpw, f21⟩
  have hl19 : l19.len = rs.length := o21.len
  have g21 := g13.trans' f21
  refine ⟨fun hlt => ?_, fun hge => ?_⟩
  · have hlt := of_decide_eq_true hlt
    have hil : i < vs.length := by omega
    have hv : vs[i]? = some vs[i] := List.getElem?_eq_getElem hil
    generalize vs[i] = v at hv
    obtain ⟨e, hee, hva, _, hvc⟩ := hvs i v hv
    have hxi : xs[i]? = some xs[i] := List.getElem?_eq_getElem (by omega)
    have hkx := hkinds _ (List.getElem_mem (by omega : i < xs.length))
    have hdx := hxd _ (List.getElem_mem (by omega : i < xs.length))
    generalize xs[i] = x at hxi hkx hdx
    have e1 : IntKind.i64.wrap ((i : Int) + 1) = ((i + 1 : Nat) : Int) := by rw [wrap_i64 (by omega) (by omega)]; omega
    obtain ⟨ad, had, hld⟩ := ((o14.keep f21 (by simp)).reads elV.len).load elV hv
    rw [e1, Int.toNat_natCast]
    refine ⟨⟨by omega, by omega⟩, ad, had, v.at_, v.next, v.kd, v.d, v.base, v.id, v.crc, hld, fun w30 h30 => ?_⟩
    have f30 : Fr (fun _ => False) w21 w30 := by rw [h30]; exact .alloc _ _ _
    have hb30 : w30.heap[w21.heap.size]? = some (.cells #[.int .i64 0, .int .i64 0, .int .i64 0, .string ⟨#[]⟩, .int .i64 0, .string ⟨#[]⟩, .int .u32 0] T_pack_Entry (0, 0)) := by rw [h30]; exact alloc_new _ _
    clear h30
    obtain ⟨w31, hr31, hb31, f31⟩ := boxV_store hb30 rfl v
    have f21_31 : Fr (fun _ => False) w21 w31 := f30.trans f31 fun q hq e => by omega
    obtain ⟨ad2, had2, hcx⟩ := ((o7_13.keep (f21.trans' f21_31) (by simp)).reads elIt.len) i x hxi
    have hldx : (loadVar T_api_Object (ad2.add (i * 5))).run Tryz.prog w31 = .ok (.agg #[.int .i64 x.k, .string x.d]) w31 :=
      load_agg (vs := [.int .i64 x.k, .string x.d]) (agg_of (by kernel_rfl)) (by kernel_rfl) fun k v hv => by
        match k, hv with
        | 0, hv => exact hcx 0 v (by simpa [encIt] using hv)
        | 1, hv => exact hcx 1 v (by simpa [encIt] using hv)
        | k + 2, hv => simp at hv
    refine ⟨w31, hr31, ⟨by omega, by omega⟩, ad2, had2, x.k, x.d, hldx, (oid_spec x.k x.d (by omega) (ht.keep (g21.trans' f21_31))).mono ?_⟩
    rintro en w36 ⟨⟨_, rfl⟩ | ⟨hno, rfl⟩, f36⟩
    rotate_left
    · exact absurd hkx hno
    have f21_36 := f21_31.trans' f36
    have hb36 := f36.keep hb31 (by simp)
    refine ⟨_, _, rfl, fun b m w' => ∃ j : Nat, m = j ∧ j ≤ rs.length ∧ (b = false → ∀ r ∈ rs.take j, r.1 ≠ idS x.k x.d) ∧ Fr (fun _ => False) w36 w', fun _ m _ => rs.length - m.toNat, ⟨0, rfl, Nat.zero_le _, fun _ r h => by simp at h, .refl _ _⟩, ?_⟩
    rintro b m w43 ⟨j, rfl, hj, hbf, f43⟩
    have f21_43 := f21_36.trans' f43
    have g43 := g21.trans' f21_43
    refine ⟨fun hlt2 => ?_, fun hge2 => ⟨fun hb => ?_, fun hb => ⟨⟨i + 1, rs, rfl, by omega, by omega, o21.keep f21_43 (by simp), hro, hpw, f21.trans' f21_43⟩, by dsimp only; omega⟩⟩⟩
    · have hlt2 := of_decide_eq_true hlt2
      have hjl : j < rs.length := by omega
      have hrj : rs[j]? = some rs[j] := List.getElem?_eq_getElem hjl
      have htk : rs.take (j + 1) = rs.take j ++ [rs[j]] := (List.take_append_getElem hjl).symm
      generalize rs[j] = r at hrj htk
      obtain ⟨ad3, had3, hld3⟩ := ((o21.keep f21_43 (by simp)).reads elP.len).load elP hrj
      have e2 : IntKind.i64.wrap ((j : Int) + 1) = ((j + 1 : Nat) : Int) := by rw [wrap_i64 (by omega) (by omega)]; omega
      rw [e2, Int.toNat_natCast]
      refine ⟨⟨by omega, by omega⟩, ad3, had3, r.1, r.2.1, r.2.2, hld3, fun w48 h48 => ?_⟩
      have f48 : Fr (fun _ => False) w43 w48 := by rw [h48]; exact .alloc _ _ _
      have hb48 : w48.heap[w43.heap.size]? = some (.cells #[.string ⟨#[]⟩, .int .i64 0, .int .u32 0] T_packidx_Row (0, 0)) := by rw [h48]; exact alloc_new _ _
      clear h48
      obtain ⟨w49, hr49, hb49, f49⟩ := boxP_store hb48 rfl r
      have f43_49 : Fr (fun _ => False) w43 w49 := f48.trans f49 fun q hq e => by omega
      refine ⟨w49, hr49, fun hb => ⟨⟨j + 1, rfl, by omega, fun h => (by cases h), f43.trans' f43_49⟩, by dsimp only; omega⟩, fun hb => ⟨r.1, by rw [cell_blk hb49]; rfl, ⟨j + 1, rfl, by omega, fun hne q hq => ?_, f43.trans' f43_49⟩, by dsimp only; omega⟩⟩
      rw [bs_eq] at hne
      rw [htk] at hq
      rcases List.mem_append.1 hq with hq | hq
      · exact hbf hb q hq
      · rw [List.mem_singleton] at hq
        rw [hq]
        exact of_decide_eq_false hne
    · have hge2 := of_decide_eq_false hge2
      have hbF : b = false := by simpa using hb
      have hall : ∀ r ∈ rs, r.1 ≠ idS x.k x.d := fun r hr => hbf hbF r (by rw [List.take_of_length_le (by omega)]; exact hr)
      have hb43 := f43.keep hb36 (by simp)
      refine ⟨v.at_, by rw [cell_blk hb43]; rfl, v.crc, by rw [cell_blk hb43]; rfl, fun w53 h53 => ?_⟩
      obtain ⟨w54, l55, hr54, o54, f54, _⟩ := append_oneK (w2 := w53) elP (o21.keep f21_43 (by simp)) (x := (idS x.k x.d, v.at_, v.crc)) (by unfold maxLen; omega) (by omega) (f21.trans' f21_43).size h53
      refine ⟨w54, l55, hr54, ⟨i + 1, rs ++ [(idS x.k x.d, v.at_, v.crc)], rfl, by omega, by rw [List.length_append, List.length_cons, List.length_nil]; omega, o54, fun r hr => ?_, ?_, (f21.trans' f21_43).trans f54 fun q hq ⟨y, hy, e⟩ => by have := (o21.blk hy).1; omega⟩, by dsimp only; omega⟩
      · rcases List.mem_append.1 hr with hr | hr
        · exact hro r hr
        · rw [List.mem_singleton] at hr
          rw [hr]
          exact ⟨i, e, x, hee, hxi, by rw [hva, hvc]⟩
      · rw [List.pairwise_append]
        refine ⟨hpw, List.pairwise_singleton _ _, fun r hr q hq => ?_⟩
        rw [List.mem_singleton] at hq
        rw [hq]
        exact hall r hr
  have hge := of_decide_eq_false hge
  clear hge
  have hrl12 : rs.length ≤ 12 := by omega
  have e20 : IntKind.i64.wrap ((s.size : Int) - 20) = ((s.size - 20 : Nat) : Int) := by rw [wrap_i64 (by omega) (by omega)]; omega
  rw [e20, Int.toNat_natCast]
  obtain ⟨sum, hsum⟩ : ∃ sum : ByteArray, ⟨(hexL (s.extract (s.size - 20) s.size).data.toList).toArray⟩ = sum := ⟨_, rfl⟩
  have hsumid : isId sum.data.toList = true := by
    rw [← hsum, bs_mk]
    unfold isId
    rw [unhex_hex, hexL_length, bs_tail, List.length_drop, bs_len, show s.size - (s.size - 20) = 20 by omega]; rfl
  have hsumsz : sum.size = 40 := by
    rw [← hsum, bs_mksize, hexL_length, bs_tail, List.length_drop, bs_len]; omega
  have hxsz : (s.extract (s.size - 20) s.size).size ≤ 1000000000 := by rw [ByteArray.size_extract]; omega
  refine ⟨⟨by omega, by omega⟩, (hex_spec _ hxsz w21).mono ?_⟩
  rintro e w57 ⟨rfl, f57⟩
  rw [hsum]
  have posb : ∀ i, posAt es i ≤ 12 + (es.flatMap bytesP).length := fun i => by
    unfold posAt
    have : es.flatMap bytesP = (es.take i).flatMap bytesP ++ (es.drop i).flatMap bytesP := by rw [← List.flatMap_append, List.take_append_drop]
    rw [this, List.length_append]; omega
  have hck : CheckP rs := ⟨fun r hr => by
    obtain ⟨i, e, x, _, _, rfl⟩ := hro r hr
    have := posb i
    exact ⟨idP _ _, by dsimp only; omega, by dsimp only; omega⟩, hpw⟩
  have hfit : ∀ r ∈ rs, Fits r := fun r hr => by
    obtain ⟨i, e, x, _, _, rfl⟩ := hro r hr
    have := (crcW (bytesP e)).isLt
    unfold Fits crcP
    dsimp only
    omega
  have o57 := o21.keep f57 (by simp)
  refine ⟨_, rfl, (build_spec (o57.reads elP.len) o57.1 (fun r hr => ?_) hfit sum (by omega) 2147483648).mono ?_⟩
  · obtain ⟨i, e, x, _, _, rfl⟩ := hro r hr
    dsimp only
    rw [idP_len]; decide
  rintro e w60 ⟨v, rfl, f60, hB⟩
  rcases hB with ⟨_, hbig⟩ | ⟨_, ⟨_, hno⟩ | ⟨rfl, _, _⟩⟩
  · omega
  · exact absurd ⟨hck, hsumid⟩ hno
  refine ⟨_, _, rfl, (parse_build hck hfit hsumid (by omega) 2147483648 w60).mono ?_⟩
  rintro e w64 ⟨b, rfl, hI, f64⟩
  have hperm := sortP_perm rs
  have hpws := pw_perm hperm.symm hpw
  have hrise : RiseP (sortP rs) := near_rise (sortP_near rs) hpws
  have hsl2 : (sortP rs).length = rs.length := hperm.length_eq
  refine ⟨_, _, rfl, fun w67 d67 => ⟨fun _ => True, trivial, fun h => (by cases h), fun _ => ⟨fun h => (by cases h), fun _ => ⟨fun h => (by cases h), fun _ => ?_⟩⟩⟩⟩
  have f67 : Fr (fun _ => False) w64 w67 := .drew _ d67
  have hI67 := hI.keep f67
  refine (len_spec hI67).mono ?_
  rintro e w70 ⟨rfl, hw⟩
  replace hw := hw.symm
  subst hw
  refine ⟨_, rfl, trivial, fun h => ?_, fun _ => ⟨⟨by omega, by omega⟩, (sumP_spec hI67).mono ?_⟩⟩
  · rw [hsl2, hl19] at h
    simp at h
  rintro e w73 ⟨rfl, hw⟩
  replace hw := hw.symm
  subst hw
  refine ⟨_, rfl, trivial, (hex_spec _ hxsz w67).mono ?_⟩
  rintro e w76 ⟨rfl, f76⟩
  rw [hsum]
  have f21_76 := (((f57.trans' f60).trans' f64).trans' f67).trans' f76
  have g76 := g21.trans' f21_76
  have hI76 := hI67.keep f76
  refine ⟨_, rfl, trivial, fun h => ?_, fun _ => ⟨fun m w' => ∃ i : Nat, m = i ∧ i ≤ rs.length ∧ Fr (fun _ => False) w76 w', fun m _ => rs.length - m.toNat, ⟨0, rfl, Nat.zero_le _, .refl _ _⟩, ?_⟩⟩
  · simp at h
  rintro m w81 ⟨q, rfl, hq, f81⟩
  refine ⟨fun hlt => ?_, fun _ => ⟨rfl, g76.trans' f81⟩⟩
  have hlt := of_decide_eq_true hlt
  have hql : q < rs.length := by omega
  have hrq : rs[q]? = some rs[q] := List.getElem?_eq_getElem hql
  have hrmem := List.getElem_mem hql
  generalize rs[q] = r at hrq hrmem
  obtain ⟨i0, e0, x0, he0, hx0, hr0⟩ := hro r hrmem
  have hr1 : r.1 = idS x0.k x0.d := by rw [hr0]
  have hr2 : r.2.1 = ((posAt es i0 : Nat) : Int) := by rw [hr0]
  have hr3 : r.2.2 = ((crcP e0 : Nat) : Int) := by rw [hr0]
  have h40 : r.1.size = 40 := by rw [hr1]; exact idP_len _ _
  obtain ⟨ad, had, hld⟩ := ((o21.keep (f21_76.trans' f81) (by simp)).reads elP.len).load elP hrq
  have e1 : IntKind.i64.wrap ((q : Int) + 1) = ((q + 1 : Nat) : Int) := by rw [wrap_i64 (by omega) (by omega)]; omega
  rw [e1, Int.toNat_natCast]
  refine ⟨⟨by omega, by omega⟩, ad, had, r.1, r.2.1, r.2.2, hld, fun w86 h86 => ?_⟩
  have f86 : Fr (fun _ => False) w81 w86 := by rw [h86]; exact .alloc _ _ _
  have hb86 : w86.heap[w81.heap.size]? = some (.cells #[.string ⟨#[]⟩, .int .i64 0, .int .u32 0] T_packidx_Row (0, 0)) := by rw [h86]; exact alloc_new _ _
  clear h86
  obtain ⟨w87, hr87, hb87, f87⟩ := boxP_store hb86 rfl r
  generalize hA : w81.heap.size = A at hb86 hb87 f87 hr87 ⊢
  have f81_87 : Fr (fun _ => False) w81 w87 := f86.trans f87 fun q hq e => by omega
  have hI87 := (hI76.keep f81).keep f81_87
  refine ⟨w87, hr87, r.1, by rw [cell_blk hb87]; rfl, (findP_spec hI87 (by omega) hrise r.1).mono ?_⟩
  rintro e w90 ⟨rfl, f90⟩
  rw [findP_mem hpws (hperm.symm.subset hrmem)]
  refine ⟨r.1, r.2.1, r.2.2, 0, rfl, fun w95 h95 => ?_⟩
  have f95 : Fr (fun _ => False) w90 w95 := by rw [h95]; exact .alloc _ _ _
  have hb95 : w95.heap[w90.heap.size]? = some (.cells #[.string ⟨#[]⟩, .int .i64 0, .int .u32 0] T_packidx_Row (0, 0)) := by rw [h95]; exact alloc_new _ _
  clear h95
  obtain ⟨w96, hr96, hb96, f96⟩ := boxP_store hb95 rfl r
  have hAlt : A < w87.heap.size := lt_blk hb87
  have hA90 : A < w90.heap.size := by have := f90.size; omega
  generalize hC : w90.heap.size = C at hb95 hb96 f96 hr96 hA90 ⊢
  have f90_96 : Fr (fun _ => False) w90 w96 := f95.trans f96 fun q hq e => by omega
  refine ⟨w96, hr96, r.2.1, by rw [cell_blk hb96]; rfl, ?_⟩
  rw [hr2]
  refine (pread_at hsl hok (by omega) he0 w96).mono ?_
  rintro en w99 ⟨⟨base, id, rfl⟩, f99⟩
  obtain ⟨v, hv⟩ : ∃ v : EnV, v = ⟨((posAt es i0 : Nat) : Int), ((posAt es i0 + (bytesP e0).length : Nat) : Int), (e0.kd : Int), e0.D, base, id, ((crcP e0 : Nat) : Int)⟩ := ⟨_, rfl⟩
  refine ⟨v.at_, v.next, v.kd, v.d, v.base, v.id, v.crc, 0, by rw [hv], fun w108 h108 => ?_⟩
  have f108 : Fr (fun _ => False) w99 w108 := by rw [h108]; exact .alloc _ _ _
  have hb108 : w108.heap[w99.heap.size]? = some (.cells #[.int .i64 0, .int .i64 0, .int .i64 0, .string ⟨#[]⟩, .int .i64 0, .string ⟨#[]⟩, .int .u32 0] T_pack_Entry (0, 0)) := by rw [h108]; exact alloc_new _ _
  clear h108
  obtain ⟨w109, hr109, hb109, f109⟩ := boxV_store hb108 rfl v
  have f99_109 : Fr (fun _ => False) w99 w109 := f108.trans f109 fun q hq e => by omega
  have f87_109 := ((f90.trans' f90_96).trans' f99).trans' f99_109
  have hbA109 := f87_109.keep hb87 (by simp)
  have hbC109 := (f99.trans' f99_109).keep hb96 (by simp)
  have hI109 := hI87.keep f87_109
  refine ⟨w109, hr109, r.1, by rw [cell_blk hbA109]; rfl, ⟨by decide, by omega⟩, (matchP_spec hI109 (by omega) hrise (r.1.extract 0 6)).mono ?_⟩
  rintro e w112 ⟨o113, rfl, o112, f112⟩
  have hmm : r.1 ∈ matchP (sortP rs) (r.1.extract 0 6) := match_mem (hperm.symm.subset hrmem) (by
    unfold begB
    refine decide_eq_true ?_
    rw [bs_head]
    exact List.take_prefix _ _)
  have hml12 : (matchP (sortP rs) (r.1.extract 0 6)).length ≤ 12 := by
    unfold matchP
    rw [List.length_map]
    exact Nat.le_trans (List.length_filter_le _ _) (by omega)
  generalize matchP (sortP rs) (r.1.extract 0 6) = ms at o112 hmm hml12
  have hlm : o113.len = ms.length := by have := o112.len; simpa [strV] using this
  refine ⟨o113, rfl, fun b m w' => ∃ j : Nat, m = j ∧ j ≤ ms.length ∧ (r.1 ∈ ms.take j → b = true) ∧ Fr (fun _ => False) w112 w', fun _ m _ => ms.length - m.toNat, ⟨0, rfl, Nat.zero_le _, fun h => by simp at h, .refl _ _⟩, ?_⟩
  rintro b m w118 ⟨j, rfl, hj, hbt, f118⟩
  have hbA118 := (f112.trans' f118).keep hbA109 (by simp)
  refine ⟨fun hlt2 => ?_, fun hge2 w122 d122 => ?_⟩
  · have hlt2 := of_decide_eq_true hlt2
    have hml : j < ms.length := by have := (by omega : j < ms.length); exact this
    have hmj : ms[j]? = some ms[j] := List.getElem?_eq_getElem hml
    have htk : ms.take (j + 1) = ms.take j ++ [ms[j]] := (List.take_append_getElem hml).symm
    generalize ms[j] = mm at hmj htk
    obtain ⟨ad4, had4, hc4⟩ := (o112.keep f118 (by simp)).reads j (.string mm) (by simp [strV, hmj])
    have e2 : IntKind.i64.wrap ((j : Int) + 1) = ((j + 1 : Nat) : Int) := by rw [wrap_i64 (by omega) (by omega)]; omega
    rw [e2, Int.toNat_natCast, Nat.mul_one]
    refine ⟨⟨by omega, by omega⟩, ad4, had4, mm, hc4, fun hb => ⟨⟨j + 1, rfl, by omega, fun _ => rfl, f118⟩, by dsimp only; omega⟩, fun hb => ⟨r.1, by rw [cell_blk hbA118]; rfl, ⟨j + 1, rfl, by omega, fun hm => ?_, f118⟩, by dsimp only; omega⟩⟩
    rw [bs_eq]
    rw [htk] at hm
    rcases List.mem_append.1 hm with hm | hm
    · have := hbt hm
      rw [hb] at this
      cases this
    · rw [List.mem_singleton] at hm
      rw [decide_eq_true hm.symm]
  · have hge2 := of_decide_eq_false hge2
    have hbT : b = true := hbt (by rw [List.take_of_length_le (by omega)]; exact hmm)
    subst hbT
    have f122 : Fr (fun _ => False) w118 w122 := .drew _ d122
    have f109_122 := (f112.trans' f118).trans' f122
    have hbA122 := f109_122.keep hbA109 (by simp)
    have hbC122 := f109_122.keep hbC109 (by simp)
    have hbV122 := f109_122.keep hb109 (by simp)
    have hcrc : v.crc = r.2.2 := by rw [hv, hr3]
    have hva : v.at_ = ((posAt es i0 : Nat) : Int) := by rw [hv]
    have hvn : v.next = ((posAt es i0 + (bytesP e0).length : Nat) : Int) := by rw [hv]
    have hpb := posb (i0 + 1)
    rw [posAt_succ he0] at hpb
    refine ⟨fun w' => Fr (fun _ => False) w122 w', .refl _ _, fun h => (by cases h), fun _ => ⟨fun h => (by cases h), fun _ => ⟨_, _, _, fun w127 h => boxP_load (h.keep hbC122 (by simp)), _, _, _, fun w131 h => boxP_load (h.keep hbA122 (by simp)), fun hne => ?_, fun _ =>
      ⟨v.crc, fun w133 h => by rw [cell_blk (h.keep hbV122 (by simp))]; rfl, r.2.2, fun w135 h => by rw [cell_blk (h.keep hbA122 (by simp))]; rfl, fun hne => ?_, fun _ => ⟨v.at_, fun w137 h => by rw [cell_blk (h.keep hbV122 (by simp))]; rfl, v.next, fun w139 h => by rw [cell_blk (h.keep hbV122 (by simp))]; rfl, ?_⟩⟩⟩⟩⟩
    · simp at hne
    · rw [hcrc] at hne
      simp at hne
    rw [hva, hvn]
    refine ⟨⟨by omega, by omega, by omega⟩, r.2.2, fun w141 h => by rw [cell_blk (h.keep hbA122 (by simp))]; rfl, ?_⟩
    rw [Int.toNat_natCast, Int.toNat_natCast]
    refine (crc32_spec _ (by rw [ByteArray.size_extract]; omega) w122).mono ?_
    rintro e w143 ⟨rfl, f143⟩
    have hbytes : (s.extract (posAt es i0) (posAt es i0 + (bytesP e0).length)).data.toList = bytesP e0 := by
      rw [bs_extract, hsl]
      have hi := (List.getElem?_eq_some_iff.1 he0).1
      have hsp : es = es.take i0 ++ (e0 :: es.drop (i0 + 1)) := by
        have := List.drop_eq_getElem_cons hi
        rw [(List.getElem?_eq_some_iff.1 he0).2] at this
        rw [← this, List.take_append_drop]
      have hfl : es.flatMap bytesP = (es.take i0).flatMap bytesP ++ (bytesP e0 ++ (es.drop (i0 + 1)).flatMap bytesP) := by
        conv => lhs; rw [hsp]
        rw [List.flatMap_append, List.flatMap_cons]
      have hF : (hdrP l7.len ++ (es.take i0).flatMap bytesP).length = posAt es i0 := by rw [List.length_append, hdrP_len]; rfl
      have hpk : packL l7.len es ++ shaL (packL l7.len es) = (hdrP l7.len ++ (es.take i0).flatMap bytesP) ++ (bytesP e0 ++ ((es.drop (i0 + 1)).flatMap bytesP ++ shaL (packL l7.len es))) := by
        conv => lhs; lhs; unfold packL
        rw [hfl]
        simp only [List.append_assoc]
      rw [hpk, List.drop_left' hF, show posAt es i0 + (bytesP e0).length - posAt es i0 = (bytesP e0).length by omega, List.take_left]
    rw [hbytes]
    refine ⟨_, rfl, f143, fun hne => ?_, fun _ => ⟨fun h => (by cases h), fun _ => ⟨⟨q + 1, rfl, by omega, ?_⟩, by dsimp only; omega⟩⟩⟩
    · rw [hr3] at hne
      unfold crcP at hne
      simp at hne
    · exact ((((f81.trans' f81_87).trans' f87_109).trans' f109_122).trans' f143)
end Go.Proofs.YtaaimcbicpgjoaaGreatDoor

/- Slices of structs that came in, opened to cells. No condition: for all programs. -/
set_option linter.unusedVariables false
namespace Vc
open Go Go.ChangeShapes Go.WideShapes Go.Deep
section
variable {H : Type} {enc : TypeId × Value → H} {P : Program} {w : World} {base : Nat} {spare : Nat → Bool} {held : Bool}
/-- What the fields of an element say, its cells say. -/
def FieldsSay (enc : TypeId × Value → H) (P : Program) (w : World) (base : Nat) (spare : Nat → Bool) (held : Bool) (fs : Array Field) (Q : List Value → Prop) : Prop :=
  ∀ n (cs : List Value), cs.length = fs.size → (∀ (j : Nat) (f : Field) (v : Value), fs[j]? = some f → cs[j]? = some v → ∃ y, DataW.trod enc P w base spare held n f.type [v] = some y) → Q cs
theorem open_rows {t e : TypeId} {fs : Array Field} {fuel : Nat} {a : Option Addr} {len cap : Nat} {x : DataW H × List MemPlace} {Q : List Value → Prop} (ht : P.underlying t = some (.slice e)) (he : P.underlying e = some (.struct fs))
    (hone : oneCellFields P fs = true) (hC : P.cellsOf e = fs.size) (hQ : FieldsSay enc P w base spare held fs Q) (h : DataW.trod enc P w base spare held fuel t [.slice a len cap] = some x) : IsRows fs.size Q w a len := by
  intro i hi
  rcases open_slice ht h with ⟨h0, _⟩ | ⟨b, l, c, m, n, D, Pl, hcs, hb, hl, hm, hmm, hx, hi'⟩
  · simp only [List.cons.injEq, Value.slice.injEq] at h0; omega
  · simp only [List.cons.injEq, Value.slice.injEq, and_true] at hcs
    obtain ⟨rfl, rfl, rfl⟩ := hcs
    obtain ⟨cs, hc, htr⟩ := hi' i (by rw [hmm]; split <;> omega)
    obtain ⟨ys, n', _, _, hlen, hyl, hf⟩ := DataW.trod_struct he htr
    obtain ⟨_, hcl, hat⟩ := World.cells?_some hc
    rw [hC] at hcl hat
    refine ⟨b, cs, rfl, hcl, hQ n' cs hcl ?_, ?_⟩
    · intro j f v hj hv
      obtain ⟨ho, hk⟩ := hone_of hone j f hj
      have hjl : j < fs.size := (Array.getElem?_eq_some_iff.1 hj).1
      have h1 := hf j f hj
      have h2 : (cs.drop j).take 1 = [v] := by
        obtain ⟨hjl', hv'⟩ := List.getElem?_eq_some_iff.1 hv
        rw [List.drop_eq_getElem_cons hjl', hv']; rfl
      rw [ho, hk, h2, List.getElem?_eq_getElem (show j < ys.length by omega)] at h1
      exact ⟨_, h1⟩
    · intro j v hv
      have hjl := (List.getElem?_eq_some_iff.1 hv).1
      rw [← hv, ← hat j (by omega), add_add]
/-- As above, and what was read takes no more bytes than memory has. -/
def FieldsSayW (enc : TypeId × Value → H) (P : Program) (w : World) (base : Nat) (spare : Nat → Bool) (held : Bool) (fs : Array Field) (Q : List Value → Prop) : Prop :=
  ∀ n (cs : List Value), cs.length = fs.size → (∀ (j : Nat) (f : Field) (v : Value), fs[j]? = some f → cs[j]? = some v → ∃ y, DataW.trod enc P w base spare held n f.type [v] = some y ∧ (y.1.weights P f.type).all (· ≤ reachBytes) = true) → Q cs
theorem weightsAll_mem {e : TypeId} : ∀ {ds : List (DataW H)} {d : DataW H}, d ∈ ds → ∀ n ∈ d.weights P e, n ∈ DataW.weightsAll P e ds
  | d0 :: ds, d, h, n, hn => by
    simp only [DataW.weightsAll, List.mem_append]
    rcases List.mem_cons.1 h with rfl | h
    · exact .inl hn
    · exact .inr (weightsAll_mem h n hn)
theorem open_rowsW {t e : TypeId} {fs : Array Field} {fuel : Nat} {a : Option Addr} {len cap : Nat} {x : DataW H × List MemPlace} {Q : List Value → Prop} (ht : P.underlying t = some (.slice e)) (he : P.underlying e = some (.struct fs))
    (hone : oneCellFields P fs = true) (hC : P.cellsOf e = fs.size) (hsz : (x.1.weights P t).all (· ≤ reachBytes) = true) (hQ : FieldsSayW enc P w base spare held fs Q) (h : DataW.trod enc P w base spare held fuel t [.slice a len cap] = some x) : IsRows fs.size Q w a len ∧ len ≤ cap := by
  rcases open_slice ht h with ⟨h0, _⟩ | ⟨b, l, c, m, n, D, Pl, hcs, hb, hl, hm, hmm, hx, hi'⟩
  · simp only [List.cons.injEq, Value.slice.injEq, and_true] at h0
    exact ⟨fun i hi => by omega, by omega⟩
  · simp only [List.cons.injEq, Value.slice.injEq, and_true] at hcs
    obtain ⟨rfl, rfl, rfl⟩ := hcs
    refine ⟨fun i hi => ?_, hl⟩
    obtain ⟨cs, hc, htr⟩ := hi' i (by rw [hmm]; split <;> omega)
    have hwD : ((D i).weights P e).all (· ≤ reachBytes) = true := by
      rw [List.all_eq_true] at hsz ⊢
      intro q hq
      refine hsz q ?_
      rw [hx]
      simp only [DataW.weights, ht, List.mem_cons, List.mem_append]
      exact .inr (.inl (weightsAll_mem (List.mem_map.2 ⟨i, List.mem_range.2 hi, rfl⟩) q hq))
    obtain ⟨ys, n', _, hxe, hlen, hyl, hf⟩ := DataW.trod_struct he htr
    obtain ⟨_, hcl, hat⟩ := World.cells?_some hc
    rw [hC] at hcl hat
    refine ⟨b, cs, rfl, hcl, hQ n' cs hcl ?_, ?_⟩
    · intro j f v hj hv
      obtain ⟨ho, hk⟩ := hone_of hone j f hj
      have hjl : j < fs.size := (Array.getElem?_eq_some_iff.1 hj).1
      have h1 := hf j f hj
      have h2 : (cs.drop j).take 1 = [v] := by
        obtain ⟨hjl', hv'⟩ := List.getElem?_eq_some_iff.1 hv
        rw [List.drop_eq_getElem_cons hjl', hv']; rfl
      rw [ho, hk, h2, List.getElem?_eq_getElem (show j < ys.length by omega)] at h1
      refine ⟨_, h1, ?_⟩
      have hDe : D i = .agg (ys.map (·.1)) := by
        have := congrArg Prod.fst hxe
        simpa using this
      rw [hDe] at hwD
      simp only [DataW.weights, he] at hwD
      rw [List.all_eq_true] at hwD ⊢
      intro q hq
      refine hwD q (DataW.weights_mem_each (j := j) (t := f.type) (d := (ys[j]'(by omega)).1) ?_ ?_ q hq)
      · rw [List.getElem?_map, Array.getElem?_toList, hj]; rfl
      · rw [List.getElem?_map, List.getElem?_eq_getElem (show j < ys.length by omega)]; rfl
    · intro j v hv
      have hjl := (List.getElem?_eq_some_iff.1 hv).1
      rw [← hv, ← hat j (by omega), add_add]
/-- A slice of one-celled elements: what an element says, its cell says. -/
theorem open_cells {t e : TypeId} {fuel : Nat} {a : Option Addr} {len cap : Nat} {x : DataW H × List MemPlace} {Q : List Value → Prop} (ht : P.underlying t = some (.slice e)) (hC : P.cellsOf e = 1)
    (hQ : ∀ n v y, DataW.trod enc P w base spare held n e [v] = some y → Q [v]) (h : DataW.trod enc P w base spare held fuel t [.slice a len cap] = some x) : IsRows 1 Q w a len := by
  intro i hi
  rcases open_slice ht h with ⟨h0, _⟩ | ⟨b, l, c, m, n, D, Pl, hcs, hb, hl, hm, hmm, hx, hi'⟩
  · simp only [List.cons.injEq, Value.slice.injEq] at h0; omega
  · simp only [List.cons.injEq, Value.slice.injEq, and_true] at hcs
    obtain ⟨rfl, rfl, rfl⟩ := hcs
    obtain ⟨cs, hc, htr⟩ := hi' i (by rw [hmm]; split <;> omega)
    obtain ⟨_, hcl, hat⟩ := World.cells?_some hc
    rw [hC] at hcl hat
    obtain ⟨v, rfl⟩ : ∃ v, cs = [v] := List.length_eq_one_iff.1 hcl
    refine ⟨b, [v], rfl, rfl, hQ _ v _ htr, ?_⟩
    intro j u hu
    have hjl := (List.getElem?_eq_some_iff.1 hu).1
    rw [← hu, ← hat j hjl, add_add]
end
end Vc

/- CartularyPacks: what the row's condition on the listed tables gives: Itoa's table; the items that came in, opened (a struct inside a struct), as a list. No condition. -/
set_option linter.unusedVariables false
namespace Vc
open Go Go.ChangeShapes Go.WideShapes Go.Deep
section
variable {H : Type} {enc : TypeId × Value → H} {P : Program} {w : World} {base : Nat} {spare : Nat → Bool} {held : Bool}
/-- A slice of elements of k cells: what an element says, its cells say. -/
theorem open_rowsG {t e : TypeId} {k fuel : Nat} {a : Option Addr} {len cap : Nat} {x : DataW H × List MemPlace} {Q : List Value → Prop} (ht : P.underlying t = some (.slice e)) (hC : P.cellsOf e = k)
    (hQ : ∀ n cs y, cs.length = k → DataW.trod enc P w base spare held n e cs = some y → Q cs) (h : DataW.trod enc P w base spare held fuel t [.slice a len cap] = some x) : IsRows k Q w a len := by
  intro i hi
  rcases open_slice ht h with ⟨h0, _⟩ | ⟨b, l, c, m, n, D, Pl, hcs, hb, hl, hm, hmm, hx, hi'⟩
  · simp only [List.cons.injEq, Value.slice.injEq] at h0; omega
  · simp only [List.cons.injEq, Value.slice.injEq, and_true] at hcs
    obtain ⟨rfl, rfl, rfl⟩ := hcs
    obtain ⟨cs, hc, htr⟩ := hi' i (by rw [hmm]; split <;> omega)
    obtain ⟨_, hcl, hat⟩ := World.cells?_some hc
    rw [hC] at hcl hat
    refine ⟨b, cs, rfl, hcl, hQ n cs _ hcl htr, ?_⟩
    intro j u hu
    have hjl := (List.getElem?_eq_some_iff.1 hu).1
    rw [← hu, ← hat j (by omega), add_add]
/-- A field of a struct that was read. -/
theorem field_of {t : TypeId} {fs : Array Field} {n : Nat} {cs : List Value} {y : DataW H × List MemPlace} (ht : P.underlying t = some (.struct fs)) (h : DataW.trod enc P w base spare held n t cs = some y) (i : Nat) (f : Field) (hf : fs[i]? = some f) :
    ∃ m z, DataW.trod enc P w base spare held m f.type ((cs.drop f.offset).take (P.cellsOf f.type)) = some z := by
  obtain ⟨ys, m, _, _, _, hyl, hall⟩ := DataW.trod_struct ht h
  have h1 := hall i f hf
  have hi := (Array.getElem?_eq_some_iff.1 hf).1
  rw [List.getElem?_eq_getElem (show i < ys.length by omega)] at h1
  exact ⟨m, _, h1⟩
theorem leaf_string {t : TypeId} {n o : Nat} {cs : List Value} {v : Value} {y : DataW H × List MemPlace} (ht : P.underlying t = some .string) (hC : P.cellsOf t = 1) (hv : cs[o]? = some v) (h : DataW.trod enc P w base spare held n t ((cs.drop o).take (P.cellsOf t)) = some y) : ∃ x, v = .string x := by
  rw [hC] at h
  obtain ⟨hl, hv⟩ := List.getElem?_eq_some_iff.1 hv
  rw [List.drop_eq_getElem_cons hl, hv] at h
  obtain ⟨x, e, _⟩ := DataW.trod_string ht h
  exact ⟨x, (List.cons.inj e).1⟩
theorem leaf_bool {t : TypeId} {n o : Nat} {cs : List Value} {v : Value} {y : DataW H × List MemPlace} (ht : P.underlying t = some .bool) (hC : P.cellsOf t = 1) (hv : cs[o]? = some v) (h : DataW.trod enc P w base spare held n t ((cs.drop o).take (P.cellsOf t)) = some y) : ∃ x, v = .bool x := by
  rw [hC] at h
  obtain ⟨hl, hv⟩ := List.getElem?_eq_some_iff.1 hv
  rw [List.drop_eq_getElem_cons hl, hv] at h
  obtain ⟨x, e, _⟩ := DataW.trod_bool ht h
  exact ⟨x, (List.cons.inj e).1⟩
theorem leaf_int {t : TypeId} {k : IntKind} {n o : Nat} {cs : List Value} {v : Value} {y : DataW H × List MemPlace} (ht : P.underlying t = some (.int k)) (hC : P.cellsOf t = 1) (hv : cs[o]? = some v) (h : DataW.trod enc P w base spare held n t ((cs.drop o).take (P.cellsOf t)) = some y) : ∃ x, v = .int k x ∧ (Lit.int k x).wf = true := by
  rw [hC] at h
  obtain ⟨hl, hv⟩ := List.getElem?_eq_some_iff.1 hv
  rw [List.drop_eq_getElem_cons hl, hv] at h
  obtain ⟨x, e, _, hw⟩ := DataW.trod_int ht h
  exact ⟨x, (List.cons.inj e).1, hw⟩
theorem shift_cells {cs : List Value} {o k i : Nat} {v : Value} (hv : cs[o + i]? = some v) (hi : i < k) : ((cs.drop o).take k)[i]? = some v := by
  rw [List.getElem?_take_of_lt hi, List.getElem?_drop, hv]
end
end Vc
namespace Go.Proofs.YtaaimcbicpgjoaaGreatDoor
open Go Vc HexM Go.Proofs Go.ChangeShapes Go.WideShapes Go.ChangeAt Go.RowKit

theorem open_items {H : Type} {enc : TypeId × Value → H} {P : Program} {w : World} {base : Nat} {spare : Nat → Bool} {held : Bool} {t e : TypeId}
    {fuel : Nat} {a : Option Addr} {len cap : Nat} {x : DataW H × List MemPlace} {f0 f1 f2 f3 g0 g1 : Field}
    (ht : P.underlying t = some (.slice e)) (he : P.underlying e = some (.struct #[f0, f1, f2, f3])) (hu : P.underlying f0.type = some (.struct #[g0, g1]))
    (hi : P.underlying g0.type = some (.int .i64)) (hs : P.underlying g1.type = some .string) (hb : P.underlying f1.type = some .bool) (hi2 : P.underlying f2.type = some (.int .i64)) (hb3 : P.underlying f3.type = some .bool)
    (ho : (f0.offset, f1.offset, f2.offset, f3.offset, g0.offset, g1.offset) = (0, 2, 3, 4, 0, 1))
    (hC : (P.cellsOf e, P.cellsOf f0.type, P.cellsOf f1.type, P.cellsOf f2.type, P.cellsOf f3.type, P.cellsOf g0.type, P.cellsOf g1.type) = (5, 2, 1, 1, 1, 1, 1))
    (h : DataW.trod enc P w base spare held fuel t [.slice a len cap] = some x) : IsRows 5 (fun vs => ∃ k d b base nm, vs = [.int .i64 k, .string d, .bool b, .int .i64 base, .bool nm]) w a len := by
  simp only [Prod.mk.injEq] at ho hC
  obtain ⟨o0, o1, o2, o3, p0, p1⟩ := ho
  obtain ⟨ce, c0, c1, c2, c3, d0, d1⟩ := hC
  refine open_rowsG ht ce ?_ h
  intro n cs y hcl g
  match cs, hcl with
  | [v0, v1, v2, v3, v4], _ =>
    obtain ⟨q0, z0, r0⟩ := field_of he g 0 f0 rfl
    obtain ⟨q1, z1, r1⟩ := field_of he g 1 f1 rfl
    obtain ⟨q2, z2, r2⟩ := field_of he g 2 f2 rfl
    obtain ⟨q3, z3, r3⟩ := field_of he g 3 f3 rfl
    obtain ⟨q4, z4, r4⟩ := field_of hu r0 0 g0 rfl
    obtain ⟨q5, z5, r5⟩ := field_of hu r0 1 g1 rfl
    rw [o0, c0] at r4 r5
    obtain ⟨x0, rfl, _⟩ := leaf_int hi d0 (v := v0) (by rw [p0]; rfl) r4
    obtain ⟨x1, rfl⟩ := leaf_string hs d1 (v := v1) (by rw [p1]; rfl) r5
    obtain ⟨x2, rfl⟩ := leaf_bool hb c1 (v := v2) (by rw [o1]; rfl) r1
    obtain ⟨x3, rfl, _⟩ := leaf_int hi2 c2 (v := v3) (by rw [o2]; rfl) r2
    obtain ⟨x4, rfl⟩ := leaf_bool hb3 c3 (v := v4) (by rw [o3]; rfl) r3
    exact ⟨x0, x1, x2, x3, x4, rfl⟩
theorem items_of {W : World} {a : Option Addr} : ∀ (n : Nat), IsRows 5 (fun vs => ∃ k d b base nm, vs = [.int .i64 k, .string d, .bool b, .int .i64 base, .bool nm]) W a n → ∃ xs : List ItP, xs.length = n ∧ ReadsK encIt 5 W a xs
  | 0, _ => ⟨[], rfl, .nil _ _⟩
  | n + 1, h => by
    obtain ⟨xs, hE, hR⟩ := items_of n fun i hi => h i (by omega)
    obtain ⟨ad, vs, had, hl, ⟨k, d, b, base, nm, rfl⟩, hc⟩ := h n (by omega)
    refine ⟨xs ++ [⟨k, d, b, base, nm⟩], by rw [List.length_append, hE]; rfl, fun i x hx => ?_⟩
    by_cases hi : i < xs.length
    · rw [List.getElem?_append_left hi] at hx
      exact hR i x hx
    · rw [List.getElem?_append_right (by omega)] at hx
      have hi0 : i - xs.length = 0 := by
        by_cases h : i - xs.length = 0
        · exact h
        · rw [List.getElem?_eq_none (by simp; omega)] at hx; cases hx
      rw [hi0] at hx
      simp only [List.getElem?_cons_zero, Option.some.injEq] at hx
      subst hx
      refine ⟨ad, had, fun j v hv => ?_⟩
      have := hc j v hv
      rw [add_add, show i = n by omega]
      exact this
theorem tab10_reads {W : World} (h : Lib.VarReads Tryz.prog W "internal/strconv.uint64pow10" Rows.laid_internal_strconv_uint64pow10) : Tab10 W := by
  obtain ⟨g, t, cs, fuel, p, hg, ht, hv, hdd⟩ := h
  obtain rfl := Option.some.inj ((show Tryz.prog.globalNamed "internal/strconv.uint64pow10" = some G_strconv_uint64pow10 by kernel_rfl).symm.trans hg)
  have hu : ∀ n, (Tryz.prog.globals[G_strconv_uint64pow10]?).map (·.type) = some n → Tryz.prog.underlying n = some (.array 20 T_uint64) ∧ Tryz.prog.cellsOf n = 20 := fun n hn => by
    obtain rfl := Option.some.inj ((show (Tryz.prog.globals[G_strconv_uint64pow10]?).map (·.type) = some T_20_uint64 by kernel_rfl).symm.trans hn)
    exact ⟨by kernel_rfl, by kernel_rfl⟩
  have := Lib.cells_of_tab (k := .u64) (zs := Lib.pow10Tab) (hu t ht).1 (by kernel_rfl) (by kernel_rfl) (hu t ht).2 hdd
  unfold Tab10 Lib.TabIs
  rw [hv, ← this]
theorem tab10_of {W : World} (h : laidMetH Tryz.prog Rows.cartularyPacksRow.laid W) : Tab10 W := by
  rw [MakeChecks.laidMetH_plain _ _ _ (by kernel_rfl)] at h
  exact tab10_reads (Lib.laidMet.reads h (n := _) (d := Rows.laid_internal_strconv_uint64pow10) (.tail _ (.tail _ (.head _))))
end Go.Proofs.YtaaimcbicpgjoaaGreatDoor

/- The statement CartularyPacksSaid of this seat: for every input the law returns true and its arguments read as they did. No condition. -/
namespace Go.Proofs.YtaaimcbicpgjoaaGreatDoor.cartularyPacks
open Go.ChangeShapes Go.WideShapes Go.ChangeAt Go.RowKit
open Go.ChangeMaps (open_string shut_string)
set_option linter.unusedVariables false

theorem own : ownKnob Tryz.prog.godebug = none := by kernel_rfl
theorem laidOut : laidOutB Tryz.prog = true := by kernel_rfl

set_option maxRecDepth 100000 in
theorem lifted (os : Os) (started : os.Started) (H : Type) (enc : TypeId × Value → H) :
    ReturnsInHanded {} Tryz.checked os 3 .any (fun w args => (Rows.cartularyPacksSpec.pre enc Tryz.prog Tryz.f3 [] false w args ∧ laidMetH Tryz.prog Rows.cartularyPacksRow.laid w) ∧ sizedMet enc Tryz.prog Tryz.f3 (OpenSpec.ofChange Rows.cartularyPacksSpec) false w args)
      (Rows.cartularyPacksSpec.post enc Tryz.prog Tryz.f3 false true false false) := by
  refine returnsInHanded_of_change_and (C := Tryz.checked) (X := fun w _ => laidMetH Tryz.prog Rows.cartularyPacksRow.laid w) (fun _ _ _ hh h => h.of_heap hh) own started (by kernel_rfl) Tryz.func3
    (ChangeSpec.witness_shaped (enc := enc) (C := Tryz.checked) (os := os) (X := fun w _ => laidMetH Tryz.prog Rows.cartularyPacksRow.laid w) false (World.laidAll Tryz.prog os Rows.cartularyPacksRow.laid) #[.slice none 0 0] 8 (World.laidAll_os _ _ _)
      (World.shaped_of_ZipB (by kernel_rfl) (by kernel_rfl)) (by kernel_rfl) (by kernel_rfl) (by kernel_rfl)
      (by rw [MakeChecks.laidMetH_plain _ _ _ (by kernel_rfl)]; exact laidMet_laidAll _ (by kernel_rfl) (by kernel_rfl))) ?_
  intro W base args ds gs before hval0 hW _ hsz hL _
  have hval : ∀ (j : Nat) t v, Tryz.f3.params[j]? = some t → args[j]? = some v → Value.okWide Tryz.prog W .any base t v := hval0
  have hW' := hW
  obtain ⟨p, q, hA0, hV, rfl, hfz, hnd⟩ := hW
  have hA : DataW.TrodAll enc Tryz.prog W 0 (fun _ => true) true Tryz.f3.params.toList args.toList ds p := hA0
  rw [Tryz.params3] at hA hval
  obtain ⟨v0, vs0, d0, ds0, p0, q0, hargs, rfl, rfl, h0, r0⟩ := trodAll_cons hA
  obtain ⟨rfl, rfl, rfl⟩ := trodAll_nil r0
  obtain rfl : args = #[v0] := by cases args; simp_all
  obtain ⟨rfl, rfl⟩ := trodVars_none hV
  obtain ⟨a0, len0, cap0, rfl⟩ := okWide_slice Tryz.underlying22 (hval 0 22 v0 rfl rfl)
  have k0 := h0
  have lt0 : ∀ x ∈ p0, x.block < W.heap.size := by obtain ⟨m, hm⟩ := k0; exact DataW.trod_lt m _ _ _ hm
  obtain ⟨fuel0, hf0⟩ := h0
  have w0 := open_items Tryz.underlying22 Tryz.underlying38 Tryz.underlying36 Tryz.underlying3 Tryz.underlying9 Tryz.underlying4 Tryz.underlying3 Tryz.underlying4 rfl (by kernel_rfl) hf0
  clear hA0 hval0
  refine ((items_of len0 w0).elim fun xs h => packs_walk h.2 h.1 (tab10_of hL)).mono fun e W' ⟨he, bel⟩ => ?_
  subst he
  exact ⟨_, rfl, _, _, _, [], _, [], hW', trodAll_mk1 (shut_bool Tryz.underlying4 _), (trodAll_cons_mk (Below.trod laidOut (by kernel_rfl) (of_decide_eq_true (by kernel_rfl)) k0 bel lt0) trodAll_mk0), rfl, bel.frame _, fun h => by cases h⟩

theorem over : Rows.cartularyPacksRow.holds Tryz.pinned (OpenSpec.ofChange Rows.cartularyPacksSpec) :=
  OpenClaim.holds_of_wide 3 Tryz.f3 rfl rfl rfl rfl rfl rfl rfl ⟨rfl, rfl, rfl, rfl, rfl⟩ rfl rfl rfl rfl rfl (by kernel_rfl) Tryz.func3 (by kernel_rfl)
    (of_decide_eq_true (by kernel_rfl)) (by unfold Func.isWrapper; first | (rw [if_pos (by decide +kernel)]; kernel_rfl) | (rw [if_neg (by decide +kernel)]; exact ⟨rfl, rfl⟩))
    (fun os started H enc _ => lifted os started H enc)

/-- The statement. -/
theorem proved : Rows.CartularyPacksCardSaid :=
  Claim7.holds_tied_plain_at .later [] [.data, .data, .data] true (true, "1fc9396254ab947761bb601f2c217d1123b78a85786e53a52af55e1114cf552c") true over (fun _ h => by cases h) (by kernel_rfl) (fun _ h => by cases h) cartularyPacks_row_tie rfl ⟨rfl, rfl⟩ (by kernel_rfl) rfl
    (fun f fn hf hfn => by
      obtain rfl : f = 3 := Option.some.inj ((show Tryz.prog.funcNamed "cartulary/cartularytop.CartularyPacks" = some 3 by kernel_rfl).symm.trans hf) |>.symm
      obtain rfl : fn = Tryz.f3 := (Option.some.inj (Tryz.func3.symm.trans hfn)).symm
      exact ⟨by kernel_rfl, fun j t ht => by
        rw [Tryz.params3] at ht
        have hm : t ∈ [22] := by simpa using Array.mem_of_getElem? ht
        have hall : ([22].all fun u => !Tryz.prog.wantsStandIn u) = true := by kernel_rfl
        exact (show Tryz.prog.wantsStandIn t = false by simpa using List.all_eq_true.1 hall t hm)⟩)
    (by kernel_rfl)
#print axioms proved
end Go.Proofs.YtaaimcbicpgjoaaGreatDoor.cartularyPacks

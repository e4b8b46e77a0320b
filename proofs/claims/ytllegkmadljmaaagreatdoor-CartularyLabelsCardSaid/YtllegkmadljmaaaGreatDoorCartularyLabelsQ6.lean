/- Texts of this seat in one: made by a program of ours. -/
import Derived.Test.YtllegkmadljmaaaGreatDoorCartularyLabelsQ0
import Derived.Test.YtllegkmadljmaaaGreatDoorCartularyLabelsQ1
import Derived.Test.YtllegkmadljmaaaGreatDoorCartularyLabelsQ2
import Derived.Test.YtllegkmadljmaaaGreatDoorCartularyLabelsQ5
import Derived.Test.YtllegkmadljmaaaGreatDoorProg
import Derived.Deep.MidRow
import Derived.Shelf.SlSortCmp.NoneTotal
import Derived.Deep.Slices
import Derived.Deep.Fields
import Derived.ChangeSame
import Derived.SizedLaws
import Derived.Test.YtllegkmadljmaaaGreatDoorRows
import Derived.Lib.LaidU8
import Derived.ProofKit
import Derived.OpenShut
import Derived.LaidMore
import Derived.Lay
import Derived.Test.YtllegkmadljmaaaGreatDoorCards
import Derived.Test.YtllegkmadljmaaaGreatDoorTie
import Derived.WalkKit
import Derived.ShutString
import Derived.ChangeOld
import Derived.Below
import Derived.SevenTiedAt
import Derived.LaidOnce
/- Formulas of 4 Go functions of this seat (written by a program of the author's, vcgen.py), and that each is enough for the call. No condition. -/
set_option linter.unusedVariables false
namespace Go.Proofs.YtllegkmadljmaaaGreatDoor
open Go Vc Go.Proofs
set_option maxRecDepth 100000
def vc_commit_parse (x0 : ByteArray) (w : World) (R : Value → World → Prop) : Prop :=
 ∀ w1 : World,
 (w1 = World.alloc w (Obj.cells (Array.mk [Value.string (ByteArray.mk (Array.mk [])), Value.slice none 0 0, Value.string (ByteArray.mk (Array.mk [])), Value.int .i64 0, Value.int .i64 0, Value.string (ByteArray.mk (Array.mk [])), Value.int .i64 0, Value.int .i64 0, Value.string (ByteArray.mk (Array.mk []))]) 26) →
 ∀ w2 : World,
 (w2 = World.alloc w1 (Obj.cells (Array.mk [Value.int .i64 0]) 27) →
 ∀ w3 : World,
 (w3 = World.alloc w2 (Obj.cells (Array.mk [Value.string x0]) 138) →
 Calls Tryz.prog (84 : Nat) (Array.mk [Value.pointer (some (Addr.mk (Array.size (World.heap w2)) 0 none)), Value.string (ByteArray.mk (Array.mk [116, 114, 101, 101]))]) (w3) (fun e4 w5 =>
 ∃ s6 : ByteArray, (e4 = Ending.returned (Value.string s6) ∧
 (Wr w5 (Addr.mk (Array.size (World.heap w)) 0 none) ∧
 ∀ w7 : World,
 (w7 = World.setCell w5 (Addr.mk (Array.size (World.heap w)) 0 none) (Value.string s6) →
 ∃ I8 : World → Prop, ∃ I9 : World → Nat, (I8 w7 ∧
 ∀ w10 : World,
 (I8 w10 →
 ∃ s11 : ByteArray, (World.cell? w10 (Addr.mk (Array.size (World.heap w2)) 0 none) = some (Value.string s11) ∧
 Calls Tryz.prog (22 : Nat) (Array.mk [Value.string s11, Value.string (ByteArray.mk (Array.mk [112, 97, 114, 101, 110, 116, 32]))]) (w10) (fun e12 w13 =>
 ∃ b14 : Bool, (e12 = Ending.returned (Value.bool b14) ∧
 (((b14 = true →
 ∀ w15 : World,
 (Drew w13 w15 →
 ∃ I16 : World → Prop, (I16 w15 ∧
 ∃ l17 : Sl, ((∀ w18 : World,
 (I16 w18 →
 World.cell? w18 (Addr.mk (Array.size (World.heap w)) 1 none) = some (Value.slice l17.1 l17.2 l17.3))) ∧
 Calls Tryz.prog (84 : Nat) (Array.mk [Value.pointer (some (Addr.mk (Array.size (World.heap w2)) 0 none)), Value.string (ByteArray.mk (Array.mk [112, 97, 114, 101, 110, 116]))]) (w15) (fun e19 w20 =>
 ∃ s21 : ByteArray, (e19 = Ending.returned (Value.string s21) ∧
 (I16 w20 ∧
 ∀ w22 : World,
 (w22 = World.alloc w20 (Obj.cells (Array.mk [Value.string s21]) 9) →
 (I16 w22 ∧
 ∃ w23 : World, ∃ l24 : Sl, (Sem.run Tryz.prog (Builtin.append_ (Array.mk [22, 22]) 22 (Array.mk [Value.slice l17.1 l17.2 l17.3, Value.slice (some (Addr.mk (Array.size (World.heap w20)) 0 none)) 1 1])) w22 = Result.ok (Value.slice l24.1 l24.2 l24.3) w23 ∧
 (I16 w23 ∧
 (Wr w23 (Addr.mk (Array.size (World.heap w)) 1 none) ∧
 ∀ w25 : World,
 (w25 = World.setCell w23 (Addr.mk (Array.size (World.heap w)) 1 none) (Value.slice l24.1 l24.2 l24.3) →
 (I8 w25 ∧
 I9 w25 < I9 w10))))))))))))))) ∧
 (b14 = false →
 Calls Tryz.prog (86 : Nat) (Array.mk [Value.pointer (some (Addr.mk (Array.size (World.heap w2)) 0 none)), Value.string (ByteArray.mk (Array.mk [97, 117, 116, 104, 111, 114]))]) (w13) (fun e26 w27 =>
 ∃ s28 : ByteArray, ∃ n29 : Int, ∃ n30 : Int, (e26 = Ending.returned (Value.agg (Array.mk [Value.string s28, Value.int .i64 n29, Value.int .i64 n30])) ∧
 ∃ w31 : World, (Sem.run Tryz.prog (storeVar 24 (Addr.mk (Array.size (World.heap w)) 2 none) (Value.agg (Array.mk [Value.string s28, Value.int .i64 n29, Value.int .i64 n30]))) w27 = Result.ok PUnit.unit w31 ∧
 Calls Tryz.prog (86 : Nat) (Array.mk [Value.pointer (some (Addr.mk (Array.size (World.heap w2)) 0 none)), Value.string (ByteArray.mk (Array.mk [99, 111, 109, 109, 105, 116, 116, 101, 114]))]) (w31) (fun e32 w33 =>
 ∃ s34 : ByteArray, ∃ n35 : Int, ∃ n36 : Int, (e32 = Ending.returned (Value.agg (Array.mk [Value.string s34, Value.int .i64 n35, Value.int .i64 n36])) ∧
 ∃ w37 : World, (Sem.run Tryz.prog (storeVar 24 (Addr.mk (Array.size (World.heap w)) 5 none) (Value.agg (Array.mk [Value.string s34, Value.int .i64 n35, Value.int .i64 n36]))) w33 = Result.ok PUnit.unit w37 ∧
 Calls Tryz.prog (87 : Nat) (Array.mk [Value.pointer (some (Addr.mk (Array.size (World.heap w2)) 0 none))]) (w37) (fun e38 w39 =>
 ∃ s40 : ByteArray, (e38 = Ending.returned (Value.string s40) ∧
 (Wr w39 (Addr.mk (Array.size (World.heap w)) 8 none) ∧
 ∀ w41 : World,
 (w41 = World.setCell w39 (Addr.mk (Array.size (World.heap w)) 8 none) (Value.string s40) →
 ∃ s42 : ByteArray, ∃ l43 : Sl, ∃ s44 : ByteArray, ∃ n45 : Int, ∃ n46 : Int, ∃ s47 : ByteArray, ∃ n48 : Int, ∃ n49 : Int, ∃ s50 : ByteArray, (Sem.run Tryz.prog (loadVar 26 (Addr.mk (Array.size (World.heap w)) 0 none)) w41 = Result.ok (Value.agg (Array.mk [Value.string s42, Value.slice l43.1 l43.2 l43.3, Value.string s44, Value.int .i64 n45, Value.int .i64 n46, Value.string s47, Value.int .i64 n48, Value.int .i64 n49, Value.string s50])) w41 ∧
 ∃ w51 : World, (Sem.run Tryz.prog (storeVar 26 (Addr.mk (Array.size (World.heap w)) 0 none) (Value.agg (Array.mk [Value.string s42, Value.slice l43.1 l43.2 l43.3, Value.string s44, Value.int .i64 n45, Value.int .i64 n46, Value.string s47, Value.int .i64 n48, Value.int .i64 n49, Value.string s50]))) w41 = Result.ok PUnit.unit w51 ∧
 (Wr w51 (Addr.mk (Array.size (World.heap w1)) 0 none) ∧
 ∀ w52 : World,
 (w52 = World.setCell w51 (Addr.mk (Array.size (World.heap w1)) 0 none) (Value.int .i64 0) →
 CallsD Tryz.prog (83 : Nat) (Array.mk [Value.pointer (some (Addr.mk (Array.size (World.heap w1)) 0 none))]) (FrameMode.returning) (w52) (fun e53 z54 w55 =>
 ((∃ v56 : Value, e53 = Ending.returned v56) ∧
 (z54 = FrameMode.returning ∧
 ∃ s57 : ByteArray, ∃ l58 : Sl, ∃ s59 : ByteArray, ∃ n60 : Int, ∃ n61 : Int, ∃ s62 : ByteArray, ∃ n63 : Int, ∃ n64 : Int, ∃ s65 : ByteArray, (Sem.run Tryz.prog (loadVar 26 (Addr.mk (Array.size (World.heap w)) 0 none)) w55 = Result.ok (Value.agg (Array.mk [Value.string s57, Value.slice l58.1 l58.2 l58.3, Value.string s59, Value.int .i64 n60, Value.int .i64 n61, Value.string s62, Value.int .i64 n63, Value.int .i64 n64, Value.string s65])) w55 ∧
 ∃ n66 : Int, (Sem.run Tryz.prog (loadVar 27 (Addr.mk (Array.size (World.heap w1)) 0 none)) w55 = Result.ok (Value.int .i64 n66) w55 ∧
 R (Value.tuple (Array.mk [Value.agg (Array.mk [Value.string s57, Value.slice l58.1 l58.2 l58.3, Value.string s59, Value.int .i64 n60, Value.int .i64 n61, Value.string s62, Value.int .i64 n63, Value.int .i64 n64, Value.string s65]), Value.int .i64 n66])) w55)))))))))))))))))))))))))))))))))
theorem vc_commit_parse_ok {x0 : ByteArray} {w : World} {R : Value → World → Prop} {R' : Ending → World → Prop} (h : vc_commit_parse x0 w R) (hR : ∀ v w', R v w' → R' (.returned v) w') :
    Calls Tryz.prog 51 #[.string x0] w R' :=
  calls_of_bodyD (vs := [(.string x0, false)]) (ty := ty) (ann := ⟨[], [(4, [])], [(5, .held [(0, true), (1, true), (2, true), (3, false), (4, false), (5, false), (6, true), (7, false)])], []⟩) (c := Tryz.f51.body.getD .skip) (by kernel_rfl) Tryz.func51 (by kernel_rfl) (by kernel_rfl) (Eq.mp (by kernel_rfl) h) hR
def vc_commit_Parse (x0 : ByteArray) (w : World) (R : Value → World → Prop) : Prop :=
 ∀ w1 : World,
 (w1 = World.alloc w (Obj.cells (Array.mk [Value.string (ByteArray.mk (Array.mk [])), Value.slice none 0 0, Value.string (ByteArray.mk (Array.mk [])), Value.int .i64 0, Value.int .i64 0, Value.string (ByteArray.mk (Array.mk [])), Value.int .i64 0, Value.int .i64 0, Value.string (ByteArray.mk (Array.mk []))]) 26) →
 Calls Tryz.prog (51 : Nat) (Array.mk [Value.string x0]) (w1) (fun e2 w3 =>
 ∃ s4 : ByteArray, ∃ l5 : Sl, ∃ s6 : ByteArray, ∃ n7 : Int, ∃ n8 : Int, ∃ s9 : ByteArray, ∃ n10 : Int, ∃ n11 : Int, ∃ s12 : ByteArray, ∃ n13 : Int, (e2 = Ending.returned (Value.tuple (Array.mk [Value.agg (Array.mk [Value.string s4, Value.slice l5.1 l5.2 l5.3, Value.string s6, Value.int .i64 n7, Value.int .i64 n8, Value.string s9, Value.int .i64 n10, Value.int .i64 n11, Value.string s12]), Value.int .i64 n13])) ∧
 ∀ w14 : World,
 (w14 = World.alloc w3 (Obj.cells (Array.mk [Value.string (ByteArray.mk (Array.mk [])), Value.slice none 0 0, Value.string (ByteArray.mk (Array.mk [])), Value.int .i64 0, Value.int .i64 0, Value.string (ByteArray.mk (Array.mk [])), Value.int .i64 0, Value.int .i64 0, Value.string (ByteArray.mk (Array.mk []))]) 26) →
 ∃ w15 : World, (Sem.run Tryz.prog (storeVar 26 (Addr.mk (Array.size (World.heap w3)) 0 none) (Value.agg (Array.mk [Value.string s4, Value.slice l5.1 l5.2 l5.3, Value.string s6, Value.int .i64 n7, Value.int .i64 n8, Value.string s9, Value.int .i64 n10, Value.int .i64 n11, Value.string s12]))) w14 = Result.ok PUnit.unit w15 ∧
 ((((n13 == 0) = true →
 ∃ s16 : ByteArray, ∃ l17 : Sl, ∃ s18 : ByteArray, ∃ n19 : Int, ∃ n20 : Int, ∃ s21 : ByteArray, ∃ n22 : Int, ∃ n23 : Int, ∃ s24 : ByteArray, (Sem.run Tryz.prog (loadVar 26 (Addr.mk (Array.size (World.heap w3)) 0 none)) w15 = Result.ok (Value.agg (Array.mk [Value.string s16, Value.slice l17.1 l17.2 l17.3, Value.string s18, Value.int .i64 n19, Value.int .i64 n20, Value.string s21, Value.int .i64 n22, Value.int .i64 n23, Value.string s24])) w15 ∧
 Calls Tryz.prog (18 : Nat) (Array.mk [Value.agg (Array.mk [Value.string s16, Value.slice l17.1 l17.2 l17.3, Value.string s18, Value.int .i64 n19, Value.int .i64 n20, Value.string s21, Value.int .i64 n22, Value.int .i64 n23, Value.string s24])]) (w15) (fun e25 w26 =>
 ∃ n27 : Int, (e25 = Ending.returned (Value.int .i64 n27) ∧
 ((((n27 != 0) = true →
 ∃ w28 : World, (Sem.run Tryz.prog (storeVar 26 (Addr.mk (Array.size (World.heap w)) 0 none) (Value.agg (Array.mk [Value.string (ByteArray.mk (Array.mk [])), Value.slice none 0 0, Value.string (ByteArray.mk (Array.mk [])), Value.int .i64 0, Value.int .i64 0, Value.string (ByteArray.mk (Array.mk [])), Value.int .i64 0, Value.int .i64 0, Value.string (ByteArray.mk (Array.mk []))]))) w26 = Result.ok PUnit.unit w28 ∧
 ∃ s29 : ByteArray, ∃ l30 : Sl, ∃ s31 : ByteArray, ∃ n32 : Int, ∃ n33 : Int, ∃ s34 : ByteArray, ∃ n35 : Int, ∃ n36 : Int, ∃ s37 : ByteArray, (Sem.run Tryz.prog (loadVar 26 (Addr.mk (Array.size (World.heap w)) 0 none)) w28 = Result.ok (Value.agg (Array.mk [Value.string s29, Value.slice l30.1 l30.2 l30.3, Value.string s31, Value.int .i64 n32, Value.int .i64 n33, Value.string s34, Value.int .i64 n35, Value.int .i64 n36, Value.string s37])) w28 ∧
 R (Value.tuple (Array.mk [Value.agg (Array.mk [Value.string s29, Value.slice l30.1 l30.2 l30.3, Value.string s31, Value.int .i64 n32, Value.int .i64 n33, Value.string s34, Value.int .i64 n35, Value.int .i64 n36, Value.string s37]), Value.int .i64 n27])) w28)))) ∧
 ((n27 != 0) = false →
 ∃ s38 : ByteArray, ∃ l39 : Sl, ∃ s40 : ByteArray, ∃ n41 : Int, ∃ n42 : Int, ∃ s43 : ByteArray, ∃ n44 : Int, ∃ n45 : Int, ∃ s46 : ByteArray, (Sem.run Tryz.prog (loadVar 26 (Addr.mk (Array.size (World.heap w3)) 0 none)) w26 = Result.ok (Value.agg (Array.mk [Value.string s38, Value.slice l39.1 l39.2 l39.3, Value.string s40, Value.int .i64 n41, Value.int .i64 n42, Value.string s43, Value.int .i64 n44, Value.int .i64 n45, Value.string s46])) w26 ∧
 ∃ w47 : World, (Sem.run Tryz.prog (storeVar 26 (Addr.mk (Array.size (World.heap w)) 0 none) (Value.agg (Array.mk [Value.string s38, Value.slice l39.1 l39.2 l39.3, Value.string s40, Value.int .i64 n41, Value.int .i64 n42, Value.string s43, Value.int .i64 n44, Value.int .i64 n45, Value.string s46]))) w26 = Result.ok PUnit.unit w47 ∧
 ∃ s48 : ByteArray, ∃ l49 : Sl, ∃ s50 : ByteArray, ∃ n51 : Int, ∃ n52 : Int, ∃ s53 : ByteArray, ∃ n54 : Int, ∃ n55 : Int, ∃ s56 : ByteArray, (Sem.run Tryz.prog (loadVar 26 (Addr.mk (Array.size (World.heap w)) 0 none)) w47 = Result.ok (Value.agg (Array.mk [Value.string s48, Value.slice l49.1 l49.2 l49.3, Value.string s50, Value.int .i64 n51, Value.int .i64 n52, Value.string s53, Value.int .i64 n54, Value.int .i64 n55, Value.string s56])) w47 ∧
 R (Value.tuple (Array.mk [Value.agg (Array.mk [Value.string s48, Value.slice l49.1 l49.2 l49.3, Value.string s50, Value.int .i64 n51, Value.int .i64 n52, Value.string s53, Value.int .i64 n54, Value.int .i64 n55, Value.string s56]), Value.int .i64 0])) w47)))))))))) ∧
 ((n13 == 0) = false →
 ((((n13 != 0) = true →
 ∃ w57 : World, (Sem.run Tryz.prog (storeVar 26 (Addr.mk (Array.size (World.heap w)) 0 none) (Value.agg (Array.mk [Value.string (ByteArray.mk (Array.mk [])), Value.slice none 0 0, Value.string (ByteArray.mk (Array.mk [])), Value.int .i64 0, Value.int .i64 0, Value.string (ByteArray.mk (Array.mk [])), Value.int .i64 0, Value.int .i64 0, Value.string (ByteArray.mk (Array.mk []))]))) w15 = Result.ok PUnit.unit w57 ∧
 ∃ s58 : ByteArray, ∃ l59 : Sl, ∃ s60 : ByteArray, ∃ n61 : Int, ∃ n62 : Int, ∃ s63 : ByteArray, ∃ n64 : Int, ∃ n65 : Int, ∃ s66 : ByteArray, (Sem.run Tryz.prog (loadVar 26 (Addr.mk (Array.size (World.heap w)) 0 none)) w57 = Result.ok (Value.agg (Array.mk [Value.string s58, Value.slice l59.1 l59.2 l59.3, Value.string s60, Value.int .i64 n61, Value.int .i64 n62, Value.string s63, Value.int .i64 n64, Value.int .i64 n65, Value.string s66])) w57 ∧
 R (Value.tuple (Array.mk [Value.agg (Array.mk [Value.string s58, Value.slice l59.1 l59.2 l59.3, Value.string s60, Value.int .i64 n61, Value.int .i64 n62, Value.string s63, Value.int .i64 n64, Value.int .i64 n65, Value.string s66]), Value.int .i64 n13])) w57)))) ∧
 ((n13 != 0) = false →
 ∃ s67 : ByteArray, ∃ l68 : Sl, ∃ s69 : ByteArray, ∃ n70 : Int, ∃ n71 : Int, ∃ s72 : ByteArray, ∃ n73 : Int, ∃ n74 : Int, ∃ s75 : ByteArray, (Sem.run Tryz.prog (loadVar 26 (Addr.mk (Array.size (World.heap w3)) 0 none)) w15 = Result.ok (Value.agg (Array.mk [Value.string s67, Value.slice l68.1 l68.2 l68.3, Value.string s69, Value.int .i64 n70, Value.int .i64 n71, Value.string s72, Value.int .i64 n73, Value.int .i64 n74, Value.string s75])) w15 ∧
 ∃ w76 : World, (Sem.run Tryz.prog (storeVar 26 (Addr.mk (Array.size (World.heap w)) 0 none) (Value.agg (Array.mk [Value.string s67, Value.slice l68.1 l68.2 l68.3, Value.string s69, Value.int .i64 n70, Value.int .i64 n71, Value.string s72, Value.int .i64 n73, Value.int .i64 n74, Value.string s75]))) w15 = Result.ok PUnit.unit w76 ∧
 ∃ s77 : ByteArray, ∃ l78 : Sl, ∃ s79 : ByteArray, ∃ n80 : Int, ∃ n81 : Int, ∃ s82 : ByteArray, ∃ n83 : Int, ∃ n84 : Int, ∃ s85 : ByteArray, (Sem.run Tryz.prog (loadVar 26 (Addr.mk (Array.size (World.heap w)) 0 none)) w76 = Result.ok (Value.agg (Array.mk [Value.string s77, Value.slice l78.1 l78.2 l78.3, Value.string s79, Value.int .i64 n80, Value.int .i64 n81, Value.string s82, Value.int .i64 n83, Value.int .i64 n84, Value.string s85])) w76 ∧
 R (Value.tuple (Array.mk [Value.agg (Array.mk [Value.string s77, Value.slice l78.1 l78.2 l78.3, Value.string s79, Value.int .i64 n80, Value.int .i64 n81, Value.string s82, Value.int .i64 n83, Value.int .i64 n84, Value.string s85]), Value.int .i64 0])) w76))))))))))))
theorem vc_commit_Parse_ok {x0 : ByteArray} {w : World} {R : Value → World → Prop} {R' : Ending → World → Prop} (h : vc_commit_Parse x0 w R) (hR : ∀ v w', R v w' → R' (.returned v) w') :
    Calls Tryz.prog 16 #[.string x0] w R' :=
  calls_of_body (vs := [(.string x0, false)]) (ty := ty) (ann := ⟨[], [], [], []⟩) (c := Tryz.f16.body.getD .skip) (by kernel_rfl) Tryz.func16 (by kernel_rfl) (by kernel_rfl) (Eq.mp (by kernel_rfl) h) hR
def vc_commit_parseTag (x0 : ByteArray) (w : World) (R : Value → World → Prop) : Prop :=
 ∀ w1 : World,
 (w1 = World.alloc w (Obj.cells (Array.mk [Value.string (ByteArray.mk (Array.mk [])), Value.int .i64 0, Value.string (ByteArray.mk (Array.mk [])), Value.string (ByteArray.mk (Array.mk [])), Value.int .i64 0, Value.int .i64 0, Value.string (ByteArray.mk (Array.mk []))]) 37) →
 ∀ w2 : World,
 (w2 = World.alloc w1 (Obj.cells (Array.mk [Value.int .i64 0]) 27) →
 ∀ w3 : World,
 (w3 = World.alloc w2 (Obj.cells (Array.mk [Value.string x0]) 138) →
 Calls Tryz.prog (84 : Nat) (Array.mk [Value.pointer (some (Addr.mk (Array.size (World.heap w2)) 0 none)), Value.string (ByteArray.mk (Array.mk [111, 98, 106, 101, 99, 116]))]) (w3) (fun e4 w5 =>
 ∃ s6 : ByteArray, (e4 = Ending.returned (Value.string s6) ∧
 (Wr w5 (Addr.mk (Array.size (World.heap w)) 0 none) ∧
 ∀ w7 : World,
 (w7 = World.setCell w5 (Addr.mk (Array.size (World.heap w)) 0 none) (Value.string s6) →
 Calls Tryz.prog (84 : Nat) (Array.mk [Value.pointer (some (Addr.mk (Array.size (World.heap w2)) 0 none)), Value.string (ByteArray.mk (Array.mk [116, 121, 112, 101]))]) (w7) (fun e8 w9 =>
 ∃ s10 : ByteArray, (e8 = Ending.returned (Value.string s10) ∧
 Calls Tryz.prog (85 : Nat) (Array.mk [Value.string s10]) (w9) (fun e11 w12 =>
 ∃ n13 : Int, (e11 = Ending.returned (Value.int .i64 n13) ∧
 (Wr w12 (Addr.mk (Array.size (World.heap w)) 1 none) ∧
 ∀ w14 : World,
 (w14 = World.setCell w12 (Addr.mk (Array.size (World.heap w)) 1 none) (Value.int .i64 n13) →
 Calls Tryz.prog (84 : Nat) (Array.mk [Value.pointer (some (Addr.mk (Array.size (World.heap w2)) 0 none)), Value.string (ByteArray.mk (Array.mk [116, 97, 103]))]) (w14) (fun e15 w16 =>
 ∃ s17 : ByteArray, (e15 = Ending.returned (Value.string s17) ∧
 (Wr w16 (Addr.mk (Array.size (World.heap w)) 2 none) ∧
 ∀ w18 : World,
 (w18 = World.setCell w16 (Addr.mk (Array.size (World.heap w)) 2 none) (Value.string s17) →
 Calls Tryz.prog (86 : Nat) (Array.mk [Value.pointer (some (Addr.mk (Array.size (World.heap w2)) 0 none)), Value.string (ByteArray.mk (Array.mk [116, 97, 103, 103, 101, 114]))]) (w18) (fun e19 w20 =>
 ∃ s21 : ByteArray, ∃ n22 : Int, ∃ n23 : Int, (e19 = Ending.returned (Value.agg (Array.mk [Value.string s21, Value.int .i64 n22, Value.int .i64 n23])) ∧
 ∃ w24 : World, (Sem.run Tryz.prog (storeVar 24 (Addr.mk (Array.size (World.heap w)) 3 none) (Value.agg (Array.mk [Value.string s21, Value.int .i64 n22, Value.int .i64 n23]))) w20 = Result.ok PUnit.unit w24 ∧
 Calls Tryz.prog (87 : Nat) (Array.mk [Value.pointer (some (Addr.mk (Array.size (World.heap w2)) 0 none))]) (w24) (fun e25 w26 =>
 ∃ s27 : ByteArray, (e25 = Ending.returned (Value.string s27) ∧
 (Wr w26 (Addr.mk (Array.size (World.heap w)) 6 none) ∧
 ∀ w28 : World,
 (w28 = World.setCell w26 (Addr.mk (Array.size (World.heap w)) 6 none) (Value.string s27) →
 ∃ s29 : ByteArray, ∃ n30 : Int, ∃ s31 : ByteArray, ∃ s32 : ByteArray, ∃ n33 : Int, ∃ n34 : Int, ∃ s35 : ByteArray, (Sem.run Tryz.prog (loadVar 37 (Addr.mk (Array.size (World.heap w)) 0 none)) w28 = Result.ok (Value.agg (Array.mk [Value.string s29, Value.int .i64 n30, Value.string s31, Value.string s32, Value.int .i64 n33, Value.int .i64 n34, Value.string s35])) w28 ∧
 ∃ w36 : World, (Sem.run Tryz.prog (storeVar 37 (Addr.mk (Array.size (World.heap w)) 0 none) (Value.agg (Array.mk [Value.string s29, Value.int .i64 n30, Value.string s31, Value.string s32, Value.int .i64 n33, Value.int .i64 n34, Value.string s35]))) w28 = Result.ok PUnit.unit w36 ∧
 (Wr w36 (Addr.mk (Array.size (World.heap w1)) 0 none) ∧
 ∀ w37 : World,
 (w37 = World.setCell w36 (Addr.mk (Array.size (World.heap w1)) 0 none) (Value.int .i64 0) →
 CallsD Tryz.prog (83 : Nat) (Array.mk [Value.pointer (some (Addr.mk (Array.size (World.heap w1)) 0 none))]) (FrameMode.returning) (w37) (fun e38 z39 w40 =>
 ((∃ v41 : Value, e38 = Ending.returned v41) ∧
 (z39 = FrameMode.returning ∧
 ∃ s42 : ByteArray, ∃ n43 : Int, ∃ s44 : ByteArray, ∃ s45 : ByteArray, ∃ n46 : Int, ∃ n47 : Int, ∃ s48 : ByteArray, (Sem.run Tryz.prog (loadVar 37 (Addr.mk (Array.size (World.heap w)) 0 none)) w40 = Result.ok (Value.agg (Array.mk [Value.string s42, Value.int .i64 n43, Value.string s44, Value.string s45, Value.int .i64 n46, Value.int .i64 n47, Value.string s48])) w40 ∧
 ∃ n49 : Int, (Sem.run Tryz.prog (loadVar 27 (Addr.mk (Array.size (World.heap w1)) 0 none)) w40 = Result.ok (Value.int .i64 n49) w40 ∧
 R (Value.tuple (Array.mk [Value.agg (Array.mk [Value.string s42, Value.int .i64 n43, Value.string s44, Value.string s45, Value.int .i64 n46, Value.int .i64 n47, Value.string s48]), Value.int .i64 n49])) w40)))))))))))))))))))))))))))))))))
theorem vc_commit_parseTag_ok {x0 : ByteArray} {w : World} {R : Value → World → Prop} {R' : Ending → World → Prop} (h : vc_commit_parseTag x0 w R) (hR : ∀ v w', R v w' → R' (.returned v) w') :
    Calls Tryz.prog 50 #[.string x0] w R' :=
  calls_of_bodyD (vs := [(.string x0, false)]) (ty := ty) (ann := ⟨[], [], [], []⟩) (c := Tryz.f50.body.getD .skip) (by kernel_rfl) Tryz.func50 (by kernel_rfl) (by kernel_rfl) (Eq.mp (by kernel_rfl) h) hR
def vc_commit_ParseTag (x0 : ByteArray) (w : World) (R : Value → World → Prop) : Prop :=
 ∀ w1 : World,
 (w1 = World.alloc w (Obj.cells (Array.mk [Value.string (ByteArray.mk (Array.mk [])), Value.int .i64 0, Value.string (ByteArray.mk (Array.mk [])), Value.string (ByteArray.mk (Array.mk [])), Value.int .i64 0, Value.int .i64 0, Value.string (ByteArray.mk (Array.mk []))]) 37) →
 Calls Tryz.prog (50 : Nat) (Array.mk [Value.string x0]) (w1) (fun e2 w3 =>
 ∃ s4 : ByteArray, ∃ n5 : Int, ∃ s6 : ByteArray, ∃ s7 : ByteArray, ∃ n8 : Int, ∃ n9 : Int, ∃ s10 : ByteArray, ∃ n11 : Int, (e2 = Ending.returned (Value.tuple (Array.mk [Value.agg (Array.mk [Value.string s4, Value.int .i64 n5, Value.string s6, Value.string s7, Value.int .i64 n8, Value.int .i64 n9, Value.string s10]), Value.int .i64 n11])) ∧
 ∀ w12 : World,
 (w12 = World.alloc w3 (Obj.cells (Array.mk [Value.string (ByteArray.mk (Array.mk [])), Value.int .i64 0, Value.string (ByteArray.mk (Array.mk [])), Value.string (ByteArray.mk (Array.mk [])), Value.int .i64 0, Value.int .i64 0, Value.string (ByteArray.mk (Array.mk []))]) 37) →
 ∃ w13 : World, (Sem.run Tryz.prog (storeVar 37 (Addr.mk (Array.size (World.heap w3)) 0 none) (Value.agg (Array.mk [Value.string s4, Value.int .i64 n5, Value.string s6, Value.string s7, Value.int .i64 n8, Value.int .i64 n9, Value.string s10]))) w12 = Result.ok PUnit.unit w13 ∧
 ((((n11 == 0) = true →
 ∃ s14 : ByteArray, ∃ n15 : Int, ∃ s16 : ByteArray, ∃ s17 : ByteArray, ∃ n18 : Int, ∃ n19 : Int, ∃ s20 : ByteArray, (Sem.run Tryz.prog (loadVar 37 (Addr.mk (Array.size (World.heap w3)) 0 none)) w13 = Result.ok (Value.agg (Array.mk [Value.string s14, Value.int .i64 n15, Value.string s16, Value.string s17, Value.int .i64 n18, Value.int .i64 n19, Value.string s20])) w13 ∧
 Calls Tryz.prog (31 : Nat) (Array.mk [Value.agg (Array.mk [Value.string s14, Value.int .i64 n15, Value.string s16, Value.string s17, Value.int .i64 n18, Value.int .i64 n19, Value.string s20])]) (w13) (fun e21 w22 =>
 ∃ n23 : Int, (e21 = Ending.returned (Value.int .i64 n23) ∧
 ((((n23 != 0) = true →
 ∃ w24 : World, (Sem.run Tryz.prog (storeVar 37 (Addr.mk (Array.size (World.heap w)) 0 none) (Value.agg (Array.mk [Value.string (ByteArray.mk (Array.mk [])), Value.int .i64 0, Value.string (ByteArray.mk (Array.mk [])), Value.string (ByteArray.mk (Array.mk [])), Value.int .i64 0, Value.int .i64 0, Value.string (ByteArray.mk (Array.mk []))]))) w22 = Result.ok PUnit.unit w24 ∧
 ∃ s25 : ByteArray, ∃ n26 : Int, ∃ s27 : ByteArray, ∃ s28 : ByteArray, ∃ n29 : Int, ∃ n30 : Int, ∃ s31 : ByteArray, (Sem.run Tryz.prog (loadVar 37 (Addr.mk (Array.size (World.heap w)) 0 none)) w24 = Result.ok (Value.agg (Array.mk [Value.string s25, Value.int .i64 n26, Value.string s27, Value.string s28, Value.int .i64 n29, Value.int .i64 n30, Value.string s31])) w24 ∧
 R (Value.tuple (Array.mk [Value.agg (Array.mk [Value.string s25, Value.int .i64 n26, Value.string s27, Value.string s28, Value.int .i64 n29, Value.int .i64 n30, Value.string s31]), Value.int .i64 n23])) w24)))) ∧
 ((n23 != 0) = false →
 ∃ s32 : ByteArray, ∃ n33 : Int, ∃ s34 : ByteArray, ∃ s35 : ByteArray, ∃ n36 : Int, ∃ n37 : Int, ∃ s38 : ByteArray, (Sem.run Tryz.prog (loadVar 37 (Addr.mk (Array.size (World.heap w3)) 0 none)) w22 = Result.ok (Value.agg (Array.mk [Value.string s32, Value.int .i64 n33, Value.string s34, Value.string s35, Value.int .i64 n36, Value.int .i64 n37, Value.string s38])) w22 ∧
 ∃ w39 : World, (Sem.run Tryz.prog (storeVar 37 (Addr.mk (Array.size (World.heap w)) 0 none) (Value.agg (Array.mk [Value.string s32, Value.int .i64 n33, Value.string s34, Value.string s35, Value.int .i64 n36, Value.int .i64 n37, Value.string s38]))) w22 = Result.ok PUnit.unit w39 ∧
 ∃ s40 : ByteArray, ∃ n41 : Int, ∃ s42 : ByteArray, ∃ s43 : ByteArray, ∃ n44 : Int, ∃ n45 : Int, ∃ s46 : ByteArray, (Sem.run Tryz.prog (loadVar 37 (Addr.mk (Array.size (World.heap w)) 0 none)) w39 = Result.ok (Value.agg (Array.mk [Value.string s40, Value.int .i64 n41, Value.string s42, Value.string s43, Value.int .i64 n44, Value.int .i64 n45, Value.string s46])) w39 ∧
 R (Value.tuple (Array.mk [Value.agg (Array.mk [Value.string s40, Value.int .i64 n41, Value.string s42, Value.string s43, Value.int .i64 n44, Value.int .i64 n45, Value.string s46]), Value.int .i64 0])) w39)))))))))) ∧
 ((n11 == 0) = false →
 ((((n11 != 0) = true →
 ∃ w47 : World, (Sem.run Tryz.prog (storeVar 37 (Addr.mk (Array.size (World.heap w)) 0 none) (Value.agg (Array.mk [Value.string (ByteArray.mk (Array.mk [])), Value.int .i64 0, Value.string (ByteArray.mk (Array.mk [])), Value.string (ByteArray.mk (Array.mk [])), Value.int .i64 0, Value.int .i64 0, Value.string (ByteArray.mk (Array.mk []))]))) w13 = Result.ok PUnit.unit w47 ∧
 ∃ s48 : ByteArray, ∃ n49 : Int, ∃ s50 : ByteArray, ∃ s51 : ByteArray, ∃ n52 : Int, ∃ n53 : Int, ∃ s54 : ByteArray, (Sem.run Tryz.prog (loadVar 37 (Addr.mk (Array.size (World.heap w)) 0 none)) w47 = Result.ok (Value.agg (Array.mk [Value.string s48, Value.int .i64 n49, Value.string s50, Value.string s51, Value.int .i64 n52, Value.int .i64 n53, Value.string s54])) w47 ∧
 R (Value.tuple (Array.mk [Value.agg (Array.mk [Value.string s48, Value.int .i64 n49, Value.string s50, Value.string s51, Value.int .i64 n52, Value.int .i64 n53, Value.string s54]), Value.int .i64 n11])) w47)))) ∧
 ((n11 != 0) = false →
 ∃ s55 : ByteArray, ∃ n56 : Int, ∃ s57 : ByteArray, ∃ s58 : ByteArray, ∃ n59 : Int, ∃ n60 : Int, ∃ s61 : ByteArray, (Sem.run Tryz.prog (loadVar 37 (Addr.mk (Array.size (World.heap w3)) 0 none)) w13 = Result.ok (Value.agg (Array.mk [Value.string s55, Value.int .i64 n56, Value.string s57, Value.string s58, Value.int .i64 n59, Value.int .i64 n60, Value.string s61])) w13 ∧
 ∃ w62 : World, (Sem.run Tryz.prog (storeVar 37 (Addr.mk (Array.size (World.heap w)) 0 none) (Value.agg (Array.mk [Value.string s55, Value.int .i64 n56, Value.string s57, Value.string s58, Value.int .i64 n59, Value.int .i64 n60, Value.string s61]))) w13 = Result.ok PUnit.unit w62 ∧
 ∃ s63 : ByteArray, ∃ n64 : Int, ∃ s65 : ByteArray, ∃ s66 : ByteArray, ∃ n67 : Int, ∃ n68 : Int, ∃ s69 : ByteArray, (Sem.run Tryz.prog (loadVar 37 (Addr.mk (Array.size (World.heap w)) 0 none)) w62 = Result.ok (Value.agg (Array.mk [Value.string s63, Value.int .i64 n64, Value.string s65, Value.string s66, Value.int .i64 n67, Value.int .i64 n68, Value.string s69])) w62 ∧
 R (Value.tuple (Array.mk [Value.agg (Array.mk [Value.string s63, Value.int .i64 n64, Value.string s65, Value.string s66, Value.int .i64 n67, Value.int .i64 n68, Value.string s69]), Value.int .i64 0])) w62))))))))))))
theorem vc_commit_ParseTag_ok {x0 : ByteArray} {w : World} {R : Value → World → Prop} {R' : Ending → World → Prop} (h : vc_commit_ParseTag x0 w R) (hR : ∀ v w', R v w' → R' (.returned v) w') :
    Calls Tryz.prog 15 #[.string x0] w R' :=
  calls_of_body (vs := [(.string x0, false)]) (ty := ty) (ann := ⟨[], [], [], []⟩) (c := Tryz.f15.body.getD .skip) (by kernel_rfl) Tryz.func15 (by kernel_rfl) (by kernel_rfl) (Eq.mp (by kernel_rfl) h) hR
end Go.Proofs.YtllegkmadljmaaaGreatDoor

/- Commits and tags: Parse and ParseTag of what was formed. Conditions: as named. -/
set_option linter.unusedVariables false
namespace Go.Proofs.YtllegkmadljmaaaGreatDoor
open Go Vc HexM Go.Proofs

theorem cload_one {w : World} {a : Addr} {T : TypeId} {v : Value} (hu : pureRun Tryz.prog (isAgg T) = some false) (hc : w.cell? a = some v) : (loadVar T a).run Tryz.prog w = .ok v w := by
  unfold loadVar
  rw [Sem.run_bind, pureRun_spec hu w]
  simp [Result.andThen, hc]
theorem sign_store {w : World} {b o : Nat} {cs : Array Value} {t : TypeId} (h : w.heap[b]? = some (.cells cs t (0, 0))) (ho : o + 3 ≤ cs.size) (x : SgE) :
    ∃ w', (storeVar T_api_Sign ⟨b, o, none⟩ (.agg #[.string x.who, .int .i64 x.time, .int .i64 x.zone])).run Tryz.prog w = .ok () w' ∧ w'.heap[b]? = some (.cells (((cs.setIfInBounds o (.string x.who)).setIfInBounds (o + 1) (.int .i64 x.time)).setIfInBounds (o + 2) (.int .i64 x.zone)) t (0, 0)) ∧ Fr (· = b) w w' := by
  refine ⟨_, run_storeVar_mid w b o T_api_Sign (encG x).toArray (fun j hj => ?_) (by kernel_rfl) (by simp [encG, Value.oneCell']), ?_, ?_⟩
  · have hj : j < 3 := hj
    rw [cell_blk h]
    exact ⟨by rw [Array.getElem?_eq_getElem (show o + j < cs.size by omega)]; rfl, frozen_blk h _⟩
  · exact set_blk (set_blk (set_blk h o _) (o + 1) _) (o + 2) _
  · exact ((Fr.set (· = b) w (a := ⟨b, o, none⟩) _ rfl).trans' (Fr.set (· = b) _ (a := ⟨b, o + 1, none⟩) _ rfl)).trans' (Fr.set (· = b) _ (a := ⟨b, o + 2, none⟩) _ rfl)
theorem boxC_store {w : World} {g : Nat} {cs : Array Value} (h : w.heap[g]? = some (.cells cs T_api_Change (0, 0))) (hc : cs.size = 9) (c : ChE) (a : Option Addr) (n k : Nat) :
    ∃ w', (storeVar T_api_Change ⟨g, 0, none⟩ (.agg (encC c a n k).toArray)).run Tryz.prog w = .ok () w' ∧ w'.heap[g]? = some (.cells (encC c a n k).toArray T_api_Change (0, 0)) ∧ Fr (· = g) w w' :=
  ⟨_, run_storeVar_row (P := Tryz.prog) w g T_api_Change T_api_Change _ (encC c a n k).toArray h (by kernel_rfl) (by rw [hc]; rfl) (by simp [encC, Value.oneCell']), setRow_heap w g _ (encC c a n k).toArray T_api_Change (0, 0) h, ⟨rfl, rfl, rfl, by simp [World.setRow], fun k _ hk => setRow_other w g k _ (fun e => hk e)⟩⟩
theorem boxL_store {w : World} {g : Nat} {cs : Array Value} (h : w.heap[g]? = some (.cells cs T_api_Label (0, 0))) (hc : cs.size = 7) (t : TgE) :
    ∃ w', (storeVar T_api_Label ⟨g, 0, none⟩ (.agg (encL t).toArray)).run Tryz.prog w = .ok () w' ∧ w'.heap[g]? = some (.cells (encL t).toArray T_api_Label (0, 0)) ∧ Fr (· = g) w w' :=
  ⟨_, run_storeVar_row (P := Tryz.prog) w g T_api_Label T_api_Label _ (encL t).toArray h (by kernel_rfl) (by rw [hc]; rfl) (by simp [encL, Value.oneCell']), setRow_heap w g _ (encL t).toArray T_api_Label (0, 0) h, ⟨rfl, rfl, rfl, by simp [World.setRow], fun k _ hk => setRow_other w g k _ (fun e => hk e)⟩⟩
theorem lineL_len (a b c : List UInt8) : (lineL a b c).length = a.length + b.length + c.length + 2 := by
  unfold lineL
  rw [List.length_append, List.length_cons, List.length_append, List.length_cons]; omega
theorem isId_no {s : ByteArray} (h : isId s.data.toList = true) : (10 : UInt8) ∉ s.data.toList := fun hm => by
  rcases (isId_parts h).2 _ hm with h | h
  · exact absurd h.1 (by decide)
  · exact absurd h.1 (by decide)
def tailC (c : ChE) : List UInt8 := lineL wAuthor (signL c.au) (lineL wCommitter (signL c.co) (10 :: c.msg.data.toList))
def rdLeft (b : Nat) (w : World) : Nat := match w.cell? ⟨b, 0, none⟩ with
  | some (.string s) => s.size
  | _ => 0
theorem rdLeft_of {w : World} {b : Nat} {l : List UInt8} (h : IsRdr w b l) : rdLeft b w = l.length := by
  unfold rdLeft
  rw [cell_blk h]
  exact bs_mksize l
def wParentS : ByteArray := ⟨#[112, 97, 114, 101, 110, 116, 32]⟩
theorem par_beg (p : ByteArray) (r : List UInt8) : begB ⟨(lineL wParent p.data.toList r).toArray⟩ wParentS = true := by
  unfold begB
  refine decide_eq_true ?_
  rw [bs_mk]
  unfold lineL
  exact ⟨p.data.toList ++ 10 :: r, by simp [wParentS, wParent]⟩
theorem tail_beg (c : ChE) : begB ⟨(tailC c).toArray⟩ wParentS = false := by
  unfold begB
  refine decide_eq_false ?_
  rw [bs_mk]
  rintro ⟨r, hr⟩
  unfold tailC lineL wAuthor at hr
  have := congrArg (fun l => l[0]?) hr
  revert this
  simp [wParentS]
/-- A commit's variable while it is read. -/
abbrev CBox (w : World) (A : Nat) (tree : ByteArray) (l : Sl) (a c : SgE) (m : ByteArray) : Prop := w.heap[A]? = some (.cells (encC ⟨tree, [], a, c, m⟩ l.a l.len l.cap).toArray T_api_Change (0, 0))
def noS : SgE := ⟨⟨#[]⟩, 0, 0⟩
set_option maxHeartbeats 2000000 in
theorem parse_spec (c : ChE) (h0 : checkC c = 0) (hm : c.msg.size ≤ 70368744177664) {w : World} (h10 : Tab10 w) :
    Calls Tryz.prog F_commit_parse #[.string (fmtC c)] w fun e w' => ∃ l : Sl, e = .returned (.tuple #[.agg (encC c l.a l.len l.cap).toArray, .int .i64 0]) ∧ Vc.Own w' w.heap.size T_string l (strV c.pars) ∧ Fr (fun _ => False) w w' := by
  refine vc_commit_parse_ok (R := fun v w' => ∃ l : Sl, v = .tuple #[.agg (encC c l.a l.len l.cap).toArray, .int .i64 0] ∧ Vc.Own w' w.heap.size T_string l (strV c.pars) ∧ Fr (fun _ => False) w w') ?_ (fun v w' ⟨l, h⟩ => ⟨l, by rw [h.1], h.2⟩)
  obtain ⟨k1, k2, k3, k4, k5⟩ := (checkC_iff c).1 h0
  have ht40 := isId_len k3
  have a1 := (signL_no k4).2
  have a2 := (signL_no k5).2
  have hTl : (tailC c).length ≤ 70368744178000 := by
    unfold tailC
    rw [lineL_len, lineL_len, List.length_cons, bs_len, show wAuthor.length = 6 from rfl, show wCommitter.length = 9 from rfl]; omega
  have hpl := pars_len c.pars k2
  have hF : fmtL c = lineL wTree c.tree.data.toList (c.pars.flatMap parL ++ tailC c) := rfl
  intro w1 hw1
  have f1 : Fr (fun _ => False) w w1 := by rw [hw1]; exact .alloc _ _ _
  have n1 : w1.heap.size = w.heap.size + 1 := by rw [hw1]; simp
  have hb1 : CBox w1 w.heap.size ⟨#[]⟩ ⟨none, 0, 0⟩ noS noS ⟨#[]⟩ := by rw [CBox, hw1]; exact alloc_new _ _
  clear hw1
  intro w2 hw2
  have f2 : Fr (fun _ => False) w1 w2 := by rw [hw2]; exact .alloc _ _ _
  have n2 : w2.heap.size = w.heap.size + 2 := by rw [hw2]; simp [n1]
  have he2 : w2.heap[w1.heap.size]? = some (.cells #[.int .i64 0] T_api_Errno (0, 0)) := by rw [hw2]; exact alloc_new _ _
  clear hw2
  intro w3 hw3
  have f3 : Fr (fun _ => False) w2 w3 := by rw [hw3]; exact .alloc _ _ _
  have n3 : w3.heap.size = w.heap.size + 3 := by rw [hw3]; simp [n2]
  have hr3 : IsRdr w3 w2.heap.size (fmtL c) := by rw [IsRdr, hw3]; exact alloc_new _ _
  clear hw3
  rw [n1] at he2
  rw [n2] at hr3
  rw [n1, n2]
  obtain ⟨A, hA⟩ : ∃ A, A = w.heap.size := ⟨_, rfl⟩
  rw [← hA] at hb1 he2 hr3 n3 ⊢
  have hb3 := (f2.trans' f3).keep hb1 (by simp)
  have he3 := f3.keep he2 (by simp)
  have g3 := f1.trans' (f2.trans' f3)
  clear f1 f2 f3 n1 n2 hb1 he2
  rw [hF] at hr3
  have hlen : (lineL wTree c.tree.data.toList (c.pars.flatMap parL ++ tailC c)).length ≤ 140737488355328 := by
    rw [lineL_len, List.length_append, hpl, bs_len, show wTree.length = 4 from rfl]; omega
  refine (rline_spec hr3 (by decide) (isId_no k3) hlen rfl).mono ?_
  rintro e w5 ⟨rfl, r5, f5⟩
  rw [bs_self]
  have hb5 := f5.keep hb3 (by omega)
  have he5 := f5.keep he3 (by omega)
  refine ⟨_, rfl, wr_blk hb5 (by simp [encC]), fun w7 hw7 => ?_⟩
  have f7 : Fr (· = A) w5 w7 := by rw [hw7]; exact Fr.set (· = A) _ (a := ⟨A, 0, none⟩) _ rfl
  have hb7 : CBox w7 A c.tree ⟨none, 0, 0⟩ noS noS ⟨#[]⟩ := by rw [CBox, hw7]; exact set_blk hb5 0 _
  have r7 := r5.keep f7 (by omega)
  have he7 := f7.keep he5 (by omega)
  have g7 : Fr (fun _ => False) w w7 := (g3.trans f5 fun q hq e => by omega).trans f7 fun q hq e => by omega
  have n7 : w3.heap.size ≤ w7.heap.size := by have := f5.size; have := f7.size; omega
  clear hw7
  refine ⟨fun w' => ∃ (j : Nat) (l : Sl), j ≤ c.pars.length ∧ CBox w' A c.tree l noS noS ⟨#[]⟩ ∧ IsRdr w' (A + 2) ((c.pars.drop j).flatMap parL ++ tailC c) ∧ Vc.Own w' (A + 3) T_string l (strV (c.pars.take j)) ∧ w'.heap[A + 1]? = some (.cells #[.int .i64 0] T_api_Errno (0, 0)) ∧ Fr (fun _ => False) w w' ∧ A + 3 ≤ w'.heap.size,
    rdLeft (A + 2), ⟨0, ⟨none, 0, 0⟩, Nat.zero_le _, hb7, r7, Vc.Own.nil _ _ _, he7, g7, by omega⟩, ?_⟩
  rintro w10 ⟨j, l, hj, hb10, r10, o10, he10, g10, n10⟩
  refine ⟨_, by rw [cell_blk r10]; rfl, (hasPrefix_spec _ wParentS w10).mono ?_⟩
  rintro e w13 ⟨rfl, hw⟩
  replace hw := hw.symm
  subst hw
  refine ⟨_, rfl, fun hbg w15 d15 => ?_, fun hbg => ?_⟩
  · have hjl : j < c.pars.length := by
      by_cases h : j < c.pars.length
      · exact h
      · exfalso
        rw [List.drop_eq_nil_of_le (by omega), List.flatMap_nil, List.nil_append, tail_beg] at hbg
        cases hbg
    have hpm := List.getElem_mem hjl
    have hdr : c.pars.drop j = c.pars[j] :: c.pars.drop (j + 1) := List.drop_eq_getElem_cons hjl
    have htk : c.pars.take (j + 1) = c.pars.take j ++ [c.pars[j]] := by rw [List.take_add_one, List.getElem?_eq_getElem hjl]; rfl
    generalize c.pars[j] = p at hpm hdr htk
    have f15 : Fr (fun _ => False) w10 w15 := .drew _ d15
    have hrest : (c.pars.drop j).flatMap parL ++ tailC c = lineL wParent p.data.toList ((c.pars.drop (j + 1)).flatMap parL ++ tailC c) := by
      rw [hdr, List.flatMap_cons, parL_app, List.append_assoc]
    have r15 := r10.keep f15 (by simp)
    rw [hrest] at r15
    have hle : (lineL wParent p.data.toList ((c.pars.drop (j + 1)).flatMap parL ++ tailC c)).length ≤ 140737488355328 := by
      rw [lineL_len, List.length_append, bs_len, isId_len (k2 p hpm), pars_len _ fun q hq => k2 q (List.mem_of_mem_drop hq), List.length_drop, show wParent.length = 6 from rfl]; omega
    refine ⟨fun w' => CBox w' A c.tree l noS noS ⟨#[]⟩, f15.keep hb10 (by simp), l, fun w18 h18 => by rw [cell_blk h18]; rfl, (rline_spec r15 (by decide) (isId_no (k2 p hpm)) hle rfl).mono ?_⟩
    rintro e w20 ⟨rfl, r20, f20⟩
    rw [bs_self]
    have hb20 := f20.keep (f15.keep hb10 (by simp)) (by omega)
    have he20 := f20.keep (f15.keep he10 (by simp)) (by omega)
    have hno : ∀ x, l.a = some x → ¬ (x.block = A + 2) := fun x hx => by have := (o10.blk hx).1; omega
    have o20 := (o10.keep f15 (by simp)).keep f20 (fun x hx => hno x hx)
    have n20 : A + 3 ≤ w20.heap.size := by have := f15.size; have := f20.size; omega
    refine ⟨p, rfl, hb20, fun w22 hw22 => ?_⟩
    obtain ⟨w23, l24, hr23, o23, f23, _⟩ := append_one' elString o20 (v := .string p) rfl (by simp only [strV, List.length_map, List.length_take, maxLen]; omega) (by simp only [strV, List.length_map, List.length_take]; omega) n20 hw22
    have f22 : Fr (fun _ => False) w20 w22 := by rw [hw22]; exact .alloc _ _ _
    have hnA : ∀ k, k < A + 3 → ¬ At l k := fun k hk ⟨y, hy, e⟩ => by have := (o20.blk hy).1; omega
    have hb23 := f23.keep hb20 (hnA _ (by omega))
    have he23 := f23.keep he20 (hnA _ (by omega))
    have r23 := r20.keep f23 (hnA _ (by omega))
    refine ⟨f22.keep hb20 (by simp), w23, l24, hr23, hb23, wr_blk hb23 (by simp [encC]), fun w25 hw25 => ?_⟩
    have f25 : Fr (· = A) w23 w25 := by rw [hw25]; exact Fr.set (· = A) _ (a := ⟨A, 1, none⟩) _ rfl
    have hb25 : CBox w25 A c.tree l24 noS noS ⟨#[]⟩ := by rw [CBox, hw25]; exact set_blk hb23 1 _
    have r25 := r23.keep f25 (by omega)
    have o25 := o23.keep f25 (fun x hx => by have := (o23.blk hx).1; omega)
    refine ⟨⟨j + 1, l24, hjl, hb25, r25, ?_, f25.keep he23 (by omega), ?_, ?_⟩, ?_⟩
    · rw [htk, strV, List.map_append]; exact o25
    · exact (((g10.trans' f15).trans f20 fun q hq e => by omega).trans f23 fun q hq e => hnA q (by omega) e).trans f25 fun q hq e => by omega
    · have := f23.size; have := f25.size; omega
    · rw [rdLeft_of r25, rdLeft_of r10, hrest, lineL_len]; omega
  · have hjl : j = c.pars.length := by
      by_cases h : j = c.pars.length
      · exact h
      · exfalso
        have hj' : j < c.pars.length := by omega
        rw [List.drop_eq_getElem_cons hj', List.flatMap_cons, List.append_assoc, ← parL_app, par_beg] at hbg
        cases hbg
    rw [hjl, List.drop_length, List.flatMap_nil, List.nil_append] at r10
    rw [hjl, List.take_length] at o10
    have hbw : w.heap.size ≤ A + 2 := by omega
    refine (rsign_spec (x := c.au) k4 r10 (by decide) (Nat.le_trans hTl (by decide)) rfl h10 g10 hbw).mono ?_
    rintro e w27 ⟨rfl, r27, f27⟩
    have hb27 := f27.keep hb10 (by omega)
    have he27 := f27.keep he10 (by omega)
    have hno : ∀ k, k < A + 3 → ∀ x, l.a = some x → ¬ x.block = k := fun k hk x hx => by have := (o10.blk hx).1; omega
    have o27 := o10.keep f27 (hno _ (by omega))
    obtain ⟨w31, hr31, hb31, f31⟩ := sign_store hb27 (o := 2) (by simp [encC]) c.au
    have r31 := r27.keep f31 (by omega)
    have he31 := f31.keep he27 (by omega)
    have o31 := o27.keep f31 (hno _ (by omega))
    have g31 : Fr (fun _ => False) w w31 := (g10.trans f27 fun q hq e => by omega).trans f31 fun q hq e => by omega
    refine ⟨c.au.who, c.au.time, c.au.zone, rfl, w31, hr31, ?_⟩
    refine (rsign_spec (x := c.co) k5 r31 (by decide) (by
      have : (lineL wCommitter (signL c.co) (10 :: c.msg.data.toList)).length ≤ (tailC c).length := by unfold tailC; rw [lineL_len wAuthor]; omega
      omega) rfl h10 g31 hbw).mono ?_
    rintro e w33 ⟨rfl, r33, f33⟩
    have hb33 := f33.keep hb31 (by omega)
    have he33 := f33.keep he31 (by omega)
    have o33 := o31.keep f33 (hno _ (by omega))
    obtain ⟨w37, hr37, hb37, f37⟩ := sign_store hb33 (o := 5) (by simp [encC]) c.co
    have r37 := r33.keep f37 (by omega)
    have he37 := f37.keep he33 (by omega)
    have o37 := o33.keep f37 (hno _ (by omega))
    have g37 : Fr (fun _ => False) w w37 := (g31.trans f33 fun q hq e => by omega).trans f37 fun q hq e => by omega
    refine ⟨c.co.who, c.co.time, c.co.zone, rfl, w37, hr37, (rmessage_spec r37).mono ?_⟩
    rintro e w39 ⟨rfl, hw⟩
    replace hw := hw.symm
    subst hw
    refine ⟨c.msg, rfl, wr_blk hb37 (by simp [encC]), fun w41 hw41 => ?_⟩
    have f41 : Fr (· = A) w37 w41 := by rw [hw41]; exact Fr.set (· = A) _ (a := ⟨A, 8, none⟩) _ rfl
    have hb41 : w41.heap[A]? = some (.cells (encC c l.a l.len l.cap).toArray T_api_Change (0, 0)) := by rw [hw41]; exact set_blk hb37 8 _
    have he41 := f41.keep he37 (by omega)
    have o41 := o37.keep f41 (hno _ (by omega))
    obtain ⟨w51, hr51, hb51, f51⟩ := boxC_store hb41 rfl c l.a l.len l.cap
    have he51 := f51.keep he41 (by omega)
    have o51 := o41.keep f51 (hno _ (by omega))
    refine ⟨_, l, _, _, _, _, _, _, _, boxC_load hb41, w51, hr51, wr_blk he51 (by simp), fun w52 hw52 => ?_⟩
    have f52 : Fr (· = A + 1) w51 w52 := by rw [hw52]; exact Fr.set (· = A + 1) _ (a := ⟨A + 1, 0, none⟩) _ rfl
    have he52 : w52.heap[A + 1]? = some (.cells #[.int .i64 0] T_api_Errno (0, 0)) := by rw [hw52]; exact set_blk he51 0 _
    have hb52 := f52.keep hb51 (by omega)
    have o52 := o51.keep f52 (hno _ (by omega))
    refine (guard_idle _ _).mono ?_
    rintro e u w55 ⟨rfl, rfl, rfl⟩
    refine ⟨⟨_, rfl⟩, rfl, _, l, _, _, _, _, _, _, _, boxC_load hb52, 0, cload_one (by kernel_rfl) (by rw [cell_blk he52]; rfl), l, rfl, o52.mono (by omega), ?_⟩
    exact ((g37.trans f41 fun q hq e => by omega).trans f51 fun q hq e => by omega).trans f52 fun q hq e => by omega
end Go.Proofs.YtllegkmadljmaaaGreatDoor

/- CartularyLabels, plain: the files of the law's folder; what is read and looked up in them. Conditions: as named. -/
set_option linter.unusedVariables false
namespace Go.Proofs.YtllegkmadljmaaaGreatDoor
open Go Vc HexM Go.Proofs

def labF (fa fb N P : FileE) (n p : Bool) : List FileE := [fa, fb] ++ (if n then [N] else []) ++ (if p then [P] else [])
theorem labF_sub (fa fb N P : FileE) (n p : Bool) : (labF fa fb N P n p).Sublist [fa, fb, N, P] := by
  cases n <;> cases p <;> simp [labF]
theorem find_nodup : ∀ (ys : List FileE), (ys.Pairwise fun a b => a.path ≠ b.path) → ∀ x ∈ ys, ys.find? (fun y => decide (y.path = x.path)) = some x
  | [], _, x, hx => by simp at hx
  | y :: ys, h, x, hx => by
    rw [List.pairwise_cons] at h
    rcases List.mem_cons.1 hx with rfl | hx
    · rw [List.find?_cons_of_pos (by simp)]
    · rw [List.find?_cons_of_neg (by simpa using h.1 x hx)]
      exact find_nodup ys h.2 x hx
theorem getE_of {zs ys : List FileE} (hp : ys.Perm zs) (hn : zs.Pairwise fun a b => a.path ≠ b.path) {x : FileE} (hx : x ∈ zs) : getE ys x.path = (x.data, 0) := by
  have hy : ys.Pairwise fun a b => a.path ≠ b.path := (hp.pairwise_iff fun h => h.symm).2 hn
  unfold getE
  rw [find_nodup ys hy x (hp.mem_iff.2 hx)]
theorem getE_none {zs ys : List FileE} (hp : ys.Perm zs) {p : ByteArray} (h : ∀ x ∈ zs, x.path ≠ p) : getE ys p = (⟨#[]⟩, 7) := by
  unfold getE
  rw [List.find?_eq_none.2 fun x hx => by simpa using h x (hp.mem_iff.1 hx)]
theorem newOK_of {zs ys : List FileE} (hp : ys.Perm zs) (hc : ∀ x ∈ zs, cleanB x.path = true) (hn : zs.Pairwise fun a b => a.path ≠ b.path) (hu : ∀ x ∈ zs, ∀ y ∈ zs, begB y.path (x.path ++ ⟨#[47]⟩) = false) : NewOK ys := by
  have hy : ys.Pairwise fun a b => a.path ≠ b.path := (hp.pairwise_iff fun h => h.symm).2 hn
  refine ⟨fun i x hx => ⟨hc x (hp.mem_iff.1 (List.mem_of_getElem? hx)), fun y hi hyx => ?_⟩, fun x hx => ?_⟩
  · have h := (List.pairwise_iff_getElem.1 hy) (i - 1) i (List.getElem?_eq_some_iff.1 hyx).1 (List.getElem?_eq_some_iff.1 hx).1 (by omega)
    rw [(List.getElem?_eq_some_iff.1 hyx).2, (List.getElem?_eq_some_iff.1 hx).2] at h
    exact h
  · unfold underE
    rw [List.filter_eq_nil_iff.2 fun y hy' => by rw [hu x (hp.mem_iff.1 hx) y (hp.mem_iff.1 hy')]; simp]; rfl
theorem beg_head {s t : ByteArray} {a b : UInt8} (hs : s.data.toList.head? = some a) (ht : t.data.toList.head? = some b) (h : a ≠ b) : begB s t = false := by
  unfold begB
  refine decide_eq_false ?_
  rintro ⟨r, hr⟩
  rw [← hr] at hs
  cases hl : t.data.toList with
  | nil => rw [hl] at ht; cases ht
  | cons c l =>
    rw [hl] at hs ht
    simp only [List.cons_append, List.head?_cons, Option.some.injEq] at hs ht
    exact h (by rw [← hs, ht])
theorem beg_size {s t : ByteArray} (h : s.size = t.size) : begB s (t ++ ⟨#[47]⟩) = false := begB_short (by rw [ByteArray.size_append, show (⟨#[47]⟩ : ByteArray).size = 1 from rfl]; omega)
theorem head_app {s : ByteArray} {a : UInt8} (hs : s.data.toList.head? = some a) (t : ByteArray) : (s ++ t).data.toList.head? = some a := by
  rw [bs_app]
  cases hl : s.data.toList with
  | nil => rw [hl] at hs; cases hs
  | cons c l => rw [hl] at hs; simpa using hs
/-- What a name of a tag is. -/
structure TagN (nm : ByteArray) : Prop where
  name : nameB nm = true
  beg : ∃ r, nm.data.toList = 114 :: r
theorem TagN.ne {nm : ByteArray} (h : TagN nm) : nm ≠ sHEAD := fun e => by
  obtain ⟨r, hr⟩ := h.beg
  rw [e] at hr
  have := congrArg List.head? hr
  rw [List.head?_cons] at this
  revert this
  decide
theorem TagN.clean {nm : ByteArray} (h : TagN nm) : cleanB nm = true := by
  have h1 := h.name
  unfold nameB at h1
  rw [decide_eq_false h.ne, Bool.false_or] at h1
  simp only [Bool.and_eq_true] at h1
  exact h1.1.1.1.1.1.2
theorem TagN.size {nm : ByteArray} (h : TagN nm) : nm.size ≤ 200 := by
  have h1 := h.clean
  unfold cleanB at h1
  simp only [Bool.and_eq_true, decide_eq_true_eq] at h1
  exact h1.1.1
theorem TagN.no {nm : ByteArray} (h : TagN nm) : (10 : UInt8) ∉ nm.data.toList := fun hm => by
  have h1 := h.clean
  unfold cleanB at h1
  simp only [Bool.and_eq_true] at h1
  have h2 := h1.2
  rw [print_list, List.all_eq_true] at h2
  exact absurd (h2 10 hm) (by decide)
theorem TagN.head {nm : ByteArray} (h : TagN nm) : nm.data.toList.head? = some 114 := by
  obtain ⟨r, hr⟩ := h.beg
  rw [hr]; rfl
theorem pathO_head (id : ByteArray) : (pathO id).data.toList.head? = some 111 := by rw [pathO_list]; rfl
theorem packed_clean : cleanB sPacked = true := by decide +kernel
theorem packed_head : sPacked.data.toList.head? = some 112 := rfl
/-- The four files. -/
structure LabF (L T nm : ByteArray) (fa fb N P : FileE) (X : ByteArray) : Prop where
  l : isId L.data.toList = true
  t : isId T.data.toList = true
  ne : L ≠ T
  tg : TagN nm
  a : fa.path = pathO T
  b : fb.path = pathO L
  n : N = ⟨nm, L ++ ⟨#[10]⟩⟩
  p : P = ⟨sPacked, X ++ ⟨#[32]⟩ ++ nm ++ ⟨#[10]⟩⟩
  x : isId X.data.toList = true
section
variable {L T nm X : ByteArray} {fa fb N P : FileE} (h : LabF L T nm fa fb N P X)
include h
theorem LabF.pw : [fa, fb, N, P].Pairwise fun a b => a.path ≠ b.path := by
  have hh : ∀ {s t : ByteArray} {a b : UInt8}, s.data.toList.head? = some a → t.data.toList.head? = some b → a ≠ b → s ≠ t := fun hs ht hne e => by
    rw [e, ht] at hs
    exact hne (Option.some.inj hs).symm
  have h1 : N.path = nm := by rw [h.n]
  have h2 : P.path = sPacked := by rw [h.p]
  rw [List.pairwise_cons, List.pairwise_cons, List.pairwise_cons]
  refine ⟨fun x hx => ?_, fun x hx => ?_, fun x hx => ?_, List.pairwise_singleton _ _⟩
  · simp only [List.mem_cons, List.mem_nil_iff, or_false] at hx
    rcases hx with rfl | rfl | rfl
    · rw [h.a, h.b]; exact fun e => h.ne (pathO_inj e).symm
    · rw [h.a, h1]; exact hh (pathO_head _) h.tg.head (by decide)
    · rw [h.a, h2]; exact hh (pathO_head _) packed_head (by decide)
  · simp only [List.mem_cons, List.mem_nil_iff, or_false] at hx
    rcases hx with rfl | rfl
    · rw [h.b, h1]; exact hh (pathO_head _) h.tg.head (by decide)
    · rw [h.b, h2]; exact hh (pathO_head _) packed_head (by decide)
  · rw [List.mem_singleton] at hx
    rw [hx, h1, h2]; exact hh h.tg.head packed_head (by decide)
theorem LabF.clean : ∀ x ∈ [fa, fb, N, P], cleanB x.path = true := fun x hx => by
  simp only [List.mem_cons, List.mem_nil_iff, or_false] at hx
  rcases hx with rfl | rfl | rfl | rfl
  · rw [h.a]; exact pathO_clean h.t
  · rw [h.b]; exact pathO_clean h.l
  · rw [h.n]; exact h.tg.clean
  · rw [h.p]; exact packed_clean
theorem LabF.psize : ∀ x ∈ [fa, fb, N, P], x.path.size ≤ 200 := fun x hx => by
  have := h.clean x hx
  unfold cleanB at this
  simp only [Bool.and_eq_true, decide_eq_true_eq] at this
  exact this.1.1
theorem LabF.under : ∀ x ∈ [fa, fb, N, P], ∀ y ∈ [fa, fb, N, P], begB y.path (x.path ++ ⟨#[47]⟩) = false := fun x hx y hy => by
  have h1 : N.path = nm := by rw [h.n]
  have h2 : P.path = sPacked := by rw [h.p]
  have s1 := pathO_size (isId_len h.t)
  have s2 := pathO_size (isId_len h.l)
  simp only [List.mem_cons, List.mem_nil_iff, or_false] at hx hy
  rcases hx with rfl | rfl | rfl | rfl <;> rcases hy with rfl | rfl | rfl | rfl <;> simp only [h.a, h.b, h1, h2]
  · exact beg_size rfl
  · exact beg_size (by rw [s1, s2])
  · exact beg_head h.tg.head (head_app (pathO_head _) _) (by decide)
  · exact beg_head packed_head (head_app (pathO_head _) _) (by decide)
  · exact beg_size (by rw [s1, s2])
  · exact beg_size rfl
  · exact beg_head h.tg.head (head_app (pathO_head _) _) (by decide)
  · exact beg_head packed_head (head_app (pathO_head _) _) (by decide)
  · exact beg_head (pathO_head _) (head_app h.tg.head _) (by decide)
  · exact beg_head (pathO_head _) (head_app h.tg.head _) (by decide)
  · exact beg_size rfl
  · exact beg_head packed_head (head_app h.tg.head _) (by decide)
  · exact beg_head (pathO_head _) (head_app packed_head _) (by decide)
  · exact beg_head (pathO_head _) (head_app packed_head _) (by decide)
  · exact beg_head h.tg.head (head_app packed_head _) (by decide)
  · exact beg_size rfl
theorem LabF.newOK {n p : Bool} {ys : List FileE} (hp : ys.Perm (labF fa fb N P n p)) : NewOK ys :=
  have hs := (labF_sub fa fb N P n p)
  newOK_of hp (fun x hx => h.clean x (hs.subset hx)) (h.pw.sublist hs) fun x hx y hy => h.under x (hs.subset hx) y (hs.subset hy)
theorem LabF.pack {n p : Bool} {ys : List FileE} (hp : ys.Perm (labF fa fb N P n p)) : underE ys packS = [] := by
  unfold underE
  have hpk : packS.data.toList.head? = some 111 := rfl
  rw [List.filter_eq_nil_iff.2 fun y hy => ?_]; rfl
  have hy := (labF_sub fa fb N P n p).subset (hp.mem_iff.1 hy)
  simp only [List.mem_cons, List.mem_nil_iff, or_false] at hy
  rcases hy with rfl | rfl | rfl | rfl
  · rw [h.a, pack_no h.t]; simp
  · rw [h.b, pack_no h.l]; simp
  · rw [h.n, beg_head h.tg.head hpk (by decide)]; simp
  · rw [h.p, beg_head packed_head hpk (by decide)]; simp
theorem LabF.getA {n p : Bool} {ys : List FileE} (hp : ys.Perm (labF fa fb N P n p)) : getE ys (pathO T) = (fa.data, 0) := by
  rw [← h.a]
  exact getE_of hp (h.pw.sublist (labF_sub fa fb N P n p)) (by simp [labF])
theorem LabF.getB {n p : Bool} {ys : List FileE} (hp : ys.Perm (labF fa fb N P n p)) : getE ys (pathO L) = (fb.data, 0) := by
  rw [← h.b]
  exact getE_of hp (h.pw.sublist (labF_sub fa fb N P n p)) (by simp [labF])
theorem LabF.getN {n p : Bool} {ys : List FileE} (hp : ys.Perm (labF fa fb N P n p)) : getE ys nm = if n then (L ++ ⟨#[10]⟩, 0) else (⟨#[]⟩, 7) := by
  have hw := h.pw
  rw [List.pairwise_cons, List.pairwise_cons, List.pairwise_cons] at hw
  have hN : N.path = nm := by rw [h.n]
  cases n with
  | true =>
    have := getE_of hp (h.pw.sublist (labF_sub fa fb N P true p)) (x := N) (by simp [labF])
    rw [hN] at this
    rw [this, h.n]; rfl
  | false =>
    refine getE_none hp fun x hx => ?_
    rw [← hN]
    have hx' : x = fa ∨ x = fb ∨ x = P := by
      cases p <;> simp [labF] at hx
      · rcases hx with h | h
        · exact .inl h
        · exact .inr (.inl h)
      · exact hx
    rcases hx' with rfl | rfl | rfl
    · exact hw.1 N (by simp)
    · exact hw.2.1 N (by simp)
    · exact (hw.2.2.1 _ (by simp)).symm
theorem LabF.getP {n p : Bool} {ys : List FileE} (hp : ys.Perm (labF fa fb N P n p)) : getE ys sPacked = if p then (X ++ ⟨#[32]⟩ ++ nm ++ ⟨#[10]⟩, 0) else (⟨#[]⟩, 7) := by
  have hw := h.pw
  rw [List.pairwise_cons, List.pairwise_cons, List.pairwise_cons] at hw
  have hP : P.path = sPacked := by rw [h.p]
  cases p with
  | true =>
    have := getE_of hp (h.pw.sublist (labF_sub fa fb N P n true)) (x := P) (by simp [labF])
    rw [hP] at this
    rw [this, h.p]; rfl
  | false =>
    refine getE_none hp fun x hx => ?_
    rw [← hP]
    have hx' : x = fa ∨ x = fb ∨ x = N := by
      cases n <;> simp [labF] at hx
      · rcases hx with h | h
        · exact .inl h
        · exact .inr (.inl h)
      · exact hx
    rcases hx' with rfl | rfl | rfl
    · exact hw.1 P (by simp)
    · exact hw.2.1 P (by simp)
    · exact hw.2.2.1 _ (by simp)
theorem LabF.open {n p : Bool} {ys : List FileE} (hp : ys.Perm (labF fa fb N P n p)) : openE ys = .ok (if p then [(nm, X, ⟨#[]⟩)] else []) := by
  unfold openE
  rw [h.getP hp]
  cases p with
  | false => rfl
  | true =>
    rw [if_pos rfl, if_neg (by simp)]
    dsimp only
    have e1 : (X ++ ⟨#[32]⟩ ++ nm ++ ⟨#[10]⟩ : ByteArray) = ⟨((X.data.toList ++ 32 :: nm.data.toList) ++ 10 :: []).toArray⟩ := bs_ext (by rw [bs_app, bs_app, bs_app, bs_mk]; simp)
    have n10 : (10 : UInt8) ∉ X.data.toList ++ 32 :: nm.data.toList := fun hm => by
      rcases List.mem_append.1 hm with hm | hm
      · exact isId_no h.x hm
      rcases List.mem_cons.1 hm with hm | hm
      · cases hm
      · exact h.tg.no hm
    have n32 : (32 : UInt8) ∉ X.data.toList := fun hm => by
      rcases (isId_parts h.x).2 _ hm with h | h
      · exact absurd h.1 (by decide)
      · exact absurd h.1 (by decide)
    have c1 : cutS (X ++ ⟨#[32]⟩ ++ nm ++ ⟨#[10]⟩) 10 = (⟨(X.data.toList ++ 32 :: nm.data.toList).toArray⟩, ⟨#[]⟩, true) := by rw [e1, cut_at n10]
    have c2 : cutS ⟨(X.data.toList ++ 32 :: nm.data.toList).toArray⟩ 32 = (X, nm, true) := by rw [cut_at n32, bs_self, bs_self]
    obtain ⟨c, r, hX⟩ : ∃ c r, X.data.toList = c :: r := by
      cases hl : X.data.toList with
      | nil => have := isId_len h.x; rw [← bs_len, hl] at this; cases this
      | cons c r => exact ⟨c, r, rfl⟩
    have hc := (isId_parts h.x).2 c (by rw [hX]; simp)
    have hh : (⟨(X.data.toList ++ 32 :: nm.data.toList).toArray⟩ : ByteArray).data.toList.head? = some c := by rw [bs_mk, hX]; rfl
    have b1 : begB ⟨(X.data.toList ++ 32 :: nm.data.toList).toArray⟩ ⟨#[35]⟩ = false := beg_head hh (b := 35) rfl fun e => by
      subst e
      rcases hc with hc | hc <;> exact absurd hc.1 (by decide)
    have b2 : begB ⟨(X.data.toList ++ 32 :: nm.data.toList).toArray⟩ ⟨#[94]⟩ = false := beg_head hh (b := 94) rfl fun e => by
      subst e
      rcases hc with hc | hc
      · exact absurd hc.2 (by decide)
      · exact absurd hc.1 (by decide)
    have hne : (X ++ ⟨#[32]⟩ ++ nm ++ ⟨#[10]⟩ : ByteArray) ≠ ⟨#[]⟩ := fun e => by
      have := congrArg ByteArray.size e
      rw [ByteArray.size_append, show (⟨#[10]⟩ : ByteArray).size = 1 from rfl, show (⟨#[]⟩ : ByteArray).size = 0 from rfl] at this
      omega
    rw [openF, if_neg hne, c1]
    dsimp only
    rw [if_neg (by simp), b1, if_neg (by simp), b2, if_neg (by simp), c2]
    dsimp only
    rw [if_neg (by simp), if_neg (by rw [h.x]; simp), if_neg (by rw [h.tg.name]; simp), if_neg h.tg.ne, if_neg (by simp [rlook]), if_neg (by simp)]
    cases hs : (X ++ ⟨#[32]⟩ ++ nm ++ ⟨#[10]⟩ : ByteArray).size with
    | zero => rfl
    | succ k => rw [openF, if_pos rfl]; rfl
theorem LabF.look {n p : Bool} {ys : List FileE} (hp : ys.Perm (labF fa fb N P n p)) (hnp : n = true ∨ (p = true ∧ X = L)) : lookE ys (if p then [(nm, X, ⟨#[]⟩)] else []) nm = (L, 0) := by
  unfold lookE
  rw [if_neg (by rw [h.tg.name]; simp), lookF_eq]
  have hg := h.getN hp
  cases n with
  | true =>
    rw [if_pos rfl] at hg
    have hs : sufL [10] (L ++ ⟨#[10]⟩ : ByteArray).data.toList = true := decide_eq_true ⟨L.data.toList, by rw [bs_app]⟩
    have hcs : cutSuf (L ++ ⟨#[10]⟩) ⟨#[10]⟩ = L := by
      unfold cutSuf
      rw [if_pos hs]
      refine bs_ext ?_
      rw [bs_head, bs_app, ByteArray.size_append, show (⟨#[10]⟩ : ByteArray).size = 1 from rfl, show L.size + 1 - 1 = L.size by omega]
      exact List.take_left' (bs_len _)
    have hf : fileE ys nm = (L, ⟨#[]⟩, 0) := by
      unfold fileE
      rw [hg, if_neg (by simp)]
      dsimp only
      rw [hcs, if_pos ⟨h.l, hs⟩]
    rw [hf, if_neg (by simp), if_pos (.inr fun e => by have := isId_len h.l; have e' : L = ⟨#[]⟩ := e; rw [e'] at this; cases this)]
  | false =>
    rw [if_neg (by simp)] at hg
    obtain ⟨rfl, rfl⟩ : p = true ∧ X = L := by
      rcases hnp with h | h
      · cases h
      · exact h
    have hf : fileE ys nm = (⟨#[]⟩, ⟨#[]⟩, 7) := by
      unfold fileE
      rw [hg, if_pos (by simp)]
    rw [hf, if_pos rfl, if_pos rfl]
    simp [rlook]
end
end Go.Proofs.YtllegkmadljmaaaGreatDoor

/- Commits and tags: Parse and ParseTag of what was formed. Conditions: as named. -/
set_option linter.unusedVariables false
namespace Go.Proofs.YtllegkmadljmaaaGreatDoor
open Go Vc HexM Go.Proofs

theorem Parse_spec (c : ChE) (h0 : checkC c = 0) (hm : c.msg.size ≤ 70368744177664) {w : World} (h10 : Tab10 w) :
    Calls Tryz.prog F_commit_Parse #[.string (fmtC c)] w fun e w' => ∃ l : Sl, e = .returned (.tuple #[.agg (encC c l.a l.len l.cap).toArray, .int .i64 0]) ∧ Vc.Own w' w.heap.size T_string l (strV c.pars) ∧ Fr (fun _ => False) w w' := by
  refine vc_commit_Parse_ok (R := fun v w' => ∃ l : Sl, v = .tuple #[.agg (encC c l.a l.len l.cap).toArray, .int .i64 0] ∧ Vc.Own w' w.heap.size T_string l (strV c.pars) ∧ Fr (fun _ => False) w w') ?_ (fun v w' ⟨l, h⟩ => ⟨l, by rw [h.1], h.2⟩)
  obtain ⟨k1, k2, k3, k4, k5⟩ := (checkC_iff c).1 h0
  intro w1 hw1
  have f1 : Fr (fun _ => False) w w1 := by rw [hw1]; exact .alloc _ _ _
  have hb1 : w1.heap[w.heap.size]? = some (.cells (encC ⟨⟨#[]⟩, [], noS, noS, ⟨#[]⟩⟩ none 0 0).toArray T_api_Change (0, 0)) := by rw [hw1]; exact alloc_new _ _
  have n1 : w1.heap.size = w.heap.size + 1 := by rw [hw1]; simp
  clear hw1
  refine (parse_spec c h0 hm (h10.keep f1)).mono ?_
  rintro e w3 ⟨l, rfl, o3, f3⟩
  have hb3 := f3.keep hb1 (by simp)
  have n3 := lt_blk hb3
  refine ⟨_, l, _, _, _, _, _, _, _, 0, rfl, fun w14 hw14 => ?_⟩
  have f14 : Fr (fun _ => False) w3 w14 := by rw [hw14]; exact .alloc _ _ _
  have hb14 : w14.heap[w3.heap.size]? = some (.cells (encC ⟨⟨#[]⟩, [], noS, noS, ⟨#[]⟩⟩ none 0 0).toArray T_api_Change (0, 0)) := by rw [hw14]; exact alloc_new _ _
  clear hw14
  obtain ⟨w15, hr15, hb15, f15⟩ := boxC_store hb14 rfl c l.a l.len l.cap
  generalize hB : w3.heap.size = B at hb14 hb15 f15 hr15 n3 ⊢
  have hno : ∀ x, l.a = some x → ¬ x.block = w.heap.size := fun x hx => by have := (o3.blk hx).1; omega
  have g15 : Fr (fun _ => False) w3 w15 := f14.trans f15 fun q hq e => by omega
  have o15 := o3.keep g15 (by simp)
  have hbR15 := g15.keep hb3 (by simp)
  refine ⟨w15, hr15, fun _ => ⟨_, l, _, _, _, _, _, _, _, boxC_load hb15, (check_spec c (n := l.len) (k := l.cap) o15.reads (by have := o15.len; simpa [strV] using this.symm) (fun p hp => by have := isId_len (k2 p hp); omega) (by have := isId_len k3; omega)).mono ?_⟩, fun h => (by cases h)⟩
  rintro e w26 ⟨rfl, f26⟩
  rw [h0]
  have hb26 := f26.keep hb15 (by simp)
  have hbR26 := f26.keep hbR15 (by simp)
  obtain ⟨w47, hr47, hb47, f47⟩ := boxC_store hbR26 rfl c l.a l.len l.cap
  refine ⟨0, rfl, fun h => (by simp at h), fun _ => ⟨_, l, _, _, _, _, _, _, _, boxC_load hb26, w47, hr47, _, l, _, _, _, _, _, _, _, boxC_load hb47, l, rfl, ((o15.keep f26 (by simp)).keep f47 hno).mono (by omega), ?_⟩⟩
  exact (((f1.trans' f3).trans' g15).trans' f26).trans f47 fun q hq e => by omega
set_option maxHeartbeats 1000000 in
theorem parseTag_spec (t : TgE) (hobj : isId t.obj.data.toList = true) (hk : isKind t.kind) (hl : lineB t.name = true) (hg : signedB t.tg = true) (hm : t.msg.size ≤ 70368744177664) {w : World} (h10 : Tab10 w) :
    Calls Tryz.prog F_commit_parseTag #[.string (fmtT t)] w fun e w' => e = .returned (.tuple #[.agg (encL t).toArray, .int .i64 0]) ∧ Fr (fun _ => False) w w' := by
  refine vc_commit_parseTag_ok (R := fun v w' => v = .tuple #[.agg (encL t).toArray, .int .i64 0] ∧ Fr (fun _ => False) w w') ?_ (fun v w' h => ⟨by rw [h.1], h.2⟩)
  have ho40 := isId_len hobj
  obtain ⟨kn1, kn2, kn3, kn4⟩ := kname_ok hk
  obtain ⟨_, l2, l3, _⟩ := (lineB_iff _).1 hl
  have a1 := (signL_no hg).2
  have kn10 : (10 : UInt8) ∉ (kname t.kind).data.toList := by
    rcases hk with h | h | h | h <;> rw [h] <;> decide
  obtain ⟨R3, hR3⟩ : ∃ R, R = lineL wTagger (signL t.tg) (10 :: t.msg.data.toList) := ⟨_, rfl⟩
  obtain ⟨R2, hR2⟩ : ∃ R, R = lineL wTag t.name.data.toList R3 := ⟨_, rfl⟩
  obtain ⟨R1, hR1⟩ : ∃ R, R = lineL wType (kname t.kind).data.toList R2 := ⟨_, rfl⟩
  have hF : tagL t = lineL wObject t.obj.data.toList R1 := by rw [hR1, hR2, hR3]; rfl
  have q3 : R3.length ≤ 70368744177900 := by rw [hR3, lineL_len, List.length_cons, bs_len, show wTagger.length = 6 from rfl]; omega
  have q2 : R2.length ≤ 70368744178100 := by rw [hR2, lineL_len, bs_len, show wTag.length = 3 from rfl]; omega
  have q1 : R1.length ≤ 70368744178200 := by rw [hR1, lineL_len, bs_len, show wType.length = 4 from rfl]; omega
  have q0 : (lineL wObject t.obj.data.toList R1).length ≤ 70368744178300 := by rw [lineL_len, bs_len, show wObject.length = 6 from rfl]; omega
  intro w1 hw1
  have f1 : Fr (fun _ => False) w w1 := by rw [hw1]; exact .alloc _ _ _
  have n1 : w1.heap.size = w.heap.size + 1 := by rw [hw1]; simp
  have hb1 : w1.heap[w.heap.size]? = some (.cells (encL ⟨⟨#[]⟩, 0, ⟨#[]⟩, noS, ⟨#[]⟩⟩).toArray T_api_Label (0, 0)) := by rw [hw1]; exact alloc_new _ _
  clear hw1
  intro w2 hw2
  have f2 : Fr (fun _ => False) w1 w2 := by rw [hw2]; exact .alloc _ _ _
  have n2 : w2.heap.size = w.heap.size + 2 := by rw [hw2]; simp [n1]
  have he2 : w2.heap[w1.heap.size]? = some (.cells #[.int .i64 0] T_api_Errno (0, 0)) := by rw [hw2]; exact alloc_new _ _
  clear hw2
  intro w3 hw3
  have f3 : Fr (fun _ => False) w2 w3 := by rw [hw3]; exact .alloc _ _ _
  have hr3 : IsRdr w3 w2.heap.size (tagL t) := by rw [IsRdr, hw3]; exact alloc_new _ _
  clear hw3
  rw [n1] at he2
  rw [n2] at hr3
  rw [n1, n2]
  obtain ⟨A, hA⟩ : ∃ A, A = w.heap.size := ⟨_, rfl⟩
  rw [← hA] at hb1 he2 hr3 ⊢
  have hb3 := (f2.trans' f3).keep hb1 (by simp)
  have he3 := f3.keep he2 (by simp)
  have g3 := f1.trans' (f2.trans' f3)
  clear f1 f2 f3 n1 n2 hb1 he2
  rw [hF] at hr3
  refine (rline_spec hr3 (by decide) (isId_no hobj) (Nat.le_trans q0 (by decide)) rfl).mono ?_
  rintro e w5 ⟨rfl, r5, f5⟩
  rw [bs_self]
  have hb5 := f5.keep hb3 (by omega)
  have he5 := f5.keep he3 (by omega)
  refine ⟨_, rfl, wr_blk hb5 (by simp [encL]), fun w7 hw7 => ?_⟩
  have f7 : Fr (· = A) w5 w7 := by rw [hw7]; exact Fr.set (· = A) _ (a := ⟨A, 0, none⟩) _ rfl
  have hb7 : w7.heap[A]? = some (.cells (encL ⟨t.obj, 0, ⟨#[]⟩, noS, ⟨#[]⟩⟩).toArray T_api_Label (0, 0)) := by rw [hw7]; exact set_blk hb5 0 _
  have r7 := r5.keep f7 (by omega)
  have he7 := f7.keep he5 (by omega)
  have g7 : Fr (fun _ => False) w w7 := (g3.trans f5 fun q hq e => by omega).trans f7 fun q hq e => by omega
  clear hw7
  rw [hR1] at r7
  refine (rline_spec r7 (by decide) kn10 (by rw [← hR1]; exact Nat.le_trans q1 (by decide)) rfl).mono ?_
  rintro e w9 ⟨rfl, r9, f9⟩
  rw [bs_self]
  have hb9 := f9.keep hb7 (by omega)
  have he9 := f9.keep he7 (by omega)
  refine ⟨_, rfl, (okind_spec hk w9).mono ?_⟩
  rintro e w12 ⟨rfl, hw⟩
  replace hw := hw.symm
  subst hw
  refine ⟨_, rfl, wr_blk hb9 (by simp [encL]), fun w14 hw14 => ?_⟩
  have f14 : Fr (· = A) w9 w14 := by rw [hw14]; exact Fr.set (· = A) _ (a := ⟨A, 1, none⟩) _ rfl
  have hb14 : w14.heap[A]? = some (.cells (encL ⟨t.obj, t.kind, ⟨#[]⟩, noS, ⟨#[]⟩⟩).toArray T_api_Label (0, 0)) := by rw [hw14]; exact set_blk hb9 1 _
  have r14 := r9.keep f14 (by omega)
  have he14 := f14.keep he9 (by omega)
  have g14 : Fr (fun _ => False) w w14 := (g7.trans f9 fun q hq e => by omega).trans f14 fun q hq e => by omega
  clear hw14
  rw [hR2] at r14
  refine (rline_spec r14 (by decide) l3 (by rw [← hR2]; exact Nat.le_trans q2 (by decide)) rfl).mono ?_
  rintro e w16 ⟨rfl, r16, f16⟩
  rw [bs_self]
  have hb16 := f16.keep hb14 (by omega)
  have he16 := f16.keep he14 (by omega)
  refine ⟨_, rfl, wr_blk hb16 (by simp [encL]), fun w18 hw18 => ?_⟩
  have f18 : Fr (· = A) w16 w18 := by rw [hw18]; exact Fr.set (· = A) _ (a := ⟨A, 2, none⟩) _ rfl
  have hb18 : w18.heap[A]? = some (.cells (encL ⟨t.obj, t.kind, t.name, noS, ⟨#[]⟩⟩).toArray T_api_Label (0, 0)) := by rw [hw18]; exact set_blk hb16 2 _
  have r18 := r16.keep f18 (by omega)
  have he18 := f18.keep he16 (by omega)
  have g18 : Fr (fun _ => False) w w18 := (g14.trans f16 fun q hq e => by omega).trans f18 fun q hq e => by omega
  clear hw18
  rw [hR3] at r18
  have hbw : w.heap.size ≤ A + 2 := by omega
  refine (rsign_spec (x := t.tg) hg r18 (by decide) (by rw [← hR3]; exact Nat.le_trans q3 (by decide)) rfl h10 g18 hbw).mono ?_
  rintro e w20 ⟨rfl, r20, f20⟩
  have hb20 := f20.keep hb18 (by omega)
  have he20 := f20.keep he18 (by omega)
  obtain ⟨w24, hr24, hb24, f24⟩ := sign_store hb20 (o := 3) (by simp [encL]) t.tg
  have r24 := r20.keep f24 (by omega)
  have he24 := f24.keep he20 (by omega)
  have g24 : Fr (fun _ => False) w w24 := (g18.trans f20 fun q hq e => by omega).trans f24 fun q hq e => by omega
  refine ⟨_, _, _, rfl, w24, hr24, (rmessage_spec r24).mono ?_⟩
  rintro e w26 ⟨rfl, hw⟩
  replace hw := hw.symm
  subst hw
  refine ⟨t.msg, rfl, wr_blk hb24 (by simp [encL]), fun w28 hw28 => ?_⟩
  have f28 : Fr (· = A) w24 w28 := by rw [hw28]; exact Fr.set (· = A) _ (a := ⟨A, 6, none⟩) _ rfl
  have hb28 : w28.heap[A]? = some (.cells (encL t).toArray T_api_Label (0, 0)) := by rw [hw28]; exact set_blk hb24 6 _
  have he28 := f28.keep he24 (by omega)
  obtain ⟨w36, hr36, hb36, f36⟩ := boxL_store hb28 rfl t
  have he36 := f36.keep he28 (by omega)
  refine ⟨_, _, _, _, _, _, _, boxL_load hb28, w36, hr36, wr_blk he36 (by simp), fun w37 hw37 => ?_⟩
  have f37 : Fr (· = A + 1) w36 w37 := by rw [hw37]; exact Fr.set (· = A + 1) _ (a := ⟨A + 1, 0, none⟩) _ rfl
  have he37 : w37.heap[A + 1]? = some (.cells #[.int .i64 0] T_api_Errno (0, 0)) := by rw [hw37]; exact set_blk he36 0 _
  have hb37 := f37.keep hb36 (by omega)
  refine (guard_idle _ _).mono ?_
  rintro e u w40 ⟨rfl, rfl, rfl⟩
  refine ⟨⟨_, rfl⟩, rfl, _, _, _, _, _, _, _, boxL_load hb37, 0, cload_one (by kernel_rfl) (by rw [cell_blk he37]; rfl), rfl, ?_⟩
  exact ((g24.trans f28 fun q hq e => by omega).trans f36 fun q hq e => by omega).trans f37 fun q hq e => by omega
theorem checkT_ok (t : TgE) (hobj : isId t.obj.data.toList = true) (hk : isKind t.kind) (hl : lineB t.name = true) (hg : signedB t.tg = true) : checkT t = 0 := by
  unfold checkT
  rw [hobj, hl, hg, decide_eq_true (kname_ok hk).1]; rfl
theorem ParseTag_spec (t : TgE) (hobj : isId t.obj.data.toList = true) (hk : isKind t.kind) (hl : lineB t.name = true) (hg : signedB t.tg = true) (hm : t.msg.size ≤ 70368744177664) {w : World} (h10 : Tab10 w) :
    Calls Tryz.prog F_commit_ParseTag #[.string (fmtT t)] w fun e w' => e = .returned (.tuple #[.agg (encL t).toArray, .int .i64 0]) ∧ Fr (fun _ => False) w w' := by
  refine vc_commit_ParseTag_ok (R := fun v w' => v = .tuple #[.agg (encL t).toArray, .int .i64 0] ∧ Fr (fun _ => False) w w') ?_ (fun v w' h => ⟨by rw [h.1], h.2⟩)
  have h0 := checkT_ok t hobj hk hl hg
  intro w1 hw1
  have f1 : Fr (fun _ => False) w w1 := by rw [hw1]; exact .alloc _ _ _
  have hb1 : w1.heap[w.heap.size]? = some (.cells (encL ⟨⟨#[]⟩, 0, ⟨#[]⟩, noS, ⟨#[]⟩⟩).toArray T_api_Label (0, 0)) := by rw [hw1]; exact alloc_new _ _
  clear hw1
  refine (parseTag_spec t hobj hk hl hg hm (h10.keep f1)).mono ?_
  rintro e w3 ⟨rfl, f3⟩
  have hb3 := f3.keep hb1 (by simp)
  have n3 := lt_blk hb3
  refine ⟨_, _, _, _, _, _, _, 0, rfl, fun w14 hw14 => ?_⟩
  have f14 : Fr (fun _ => False) w3 w14 := by rw [hw14]; exact .alloc _ _ _
  have hb14 : w14.heap[w3.heap.size]? = some (.cells (encL ⟨⟨#[]⟩, 0, ⟨#[]⟩, noS, ⟨#[]⟩⟩).toArray T_api_Label (0, 0)) := by rw [hw14]; exact alloc_new _ _
  clear hw14
  obtain ⟨w15, hr15, hb15, f15⟩ := boxL_store hb14 rfl t
  generalize hB : w3.heap.size = B at hb14 hb15 f15 hr15 n3 ⊢
  have g15 : Fr (fun _ => False) w3 w15 := f14.trans f15 fun q hq e => by omega
  have hbR15 := g15.keep hb3 (by simp)
  refine ⟨w15, hr15, fun _ => ⟨_, _, _, _, _, _, _, boxL_load hb15, (checkTag_spec t (by have := isId_len hobj; omega) w15).mono ?_⟩, fun h => (by cases h)⟩
  rintro e w26 ⟨rfl, f26⟩
  rw [h0]
  have hb26 := f26.keep hb15 (by simp)
  have hbR26 := f26.keep hbR15 (by simp)
  obtain ⟨w47, hr47, hb47, f47⟩ := boxL_store hbR26 rfl t
  refine ⟨0, rfl, fun h => (by simp at h), fun _ => ⟨_, _, _, _, _, _, _, boxL_load hb26, w47, hr47, _, _, _, _, _, _, _, boxL_load hb47, rfl, ?_⟩⟩
  exact (((f1.trans' f3).trans' g15).trans' f26).trans f47 fun q hq e => by omega
end Go.Proofs.YtllegkmadljmaaaGreatDoor

/- Formulas of 1 Go functions of this seat (written by a program of the author's, vcgen.py), and that each is enough for the call. No condition. -/
set_option linter.unusedVariables false
namespace Go.Proofs.YtllegkmadljmaaaGreatDoor
open Go Vc Go.Proofs
set_option maxRecDepth 100000
def vc_cartularyref08_Find (x0 : ByteArray) (x1 : Int) (w : World) (R : Value → World → Prop) : Prop :=
 ∃ I1 : Int → World → Prop, ∃ I2 : Int → World → Nat, (I1 0 w ∧
 ∀ n3 : Int,
 ∀ w4 : World,
 (I1 n3 w4 →
 (((decide (n3 < (↑(ByteArray.size x0) : Int)) = true →
 ((0 ≤ n3 ∧
 n3 < (↑(ByteArray.size x0) : Int)) ∧
 ((((byteAt x0 n3 == x1) = true →
 R (Value.int .i64 n3) w4)) ∧
 ((byteAt x0 n3 == x1) = false →
 (I1 (IntKind.wrap .i64 (n3 + 1)) w4 ∧
 I2 (IntKind.wrap .i64 (n3 + 1)) w4 < I2 n3 w4)))))) ∧
 (decide (n3 < (↑(ByteArray.size x0) : Int)) = false →
 R (Value.int .i64 (-1)) w4))))
theorem vc_cartularyref08_Find_ok {x0 : ByteArray} {x1 : Int} {w : World} {R : Value → World → Prop} {R' : Ending → World → Prop} (h : vc_cartularyref08_Find x0 x1 w R) (hR : ∀ v w', R v w' → R' (.returned v) w') :
    Calls Tryz.prog 89 #[.string x0, .int .u8 x1] w R' :=
  calls_of_body (vs := [(.string x0, false), (.int .u8 x1, false)]) (ty := ty) (ann := ⟨[], [(2, [(5, .int .i64)])], [], []⟩) (c := Tryz.f89.body.getD .skip) (by kernel_rfl) Tryz.func89 (by kernel_rfl) (by kernel_rfl) (Eq.mp (by kernel_rfl) h) hR
end Go.Proofs.YtllegkmadljmaaaGreatDoor

/- The reference's Find. Conditions: as named. -/
set_option linter.unusedVariables false
namespace Go.Proofs.YtllegkmadljmaaaGreatDoor
open Go Vc Go.Proofs

theorem find_spec (s : ByteArray) (hs : s.size ≤ 140737488355328) (c : Nat) (hc : c < 256) (w : World) : Calls Tryz.prog F_cartularyref08_Find #[.string s, .int .u8 (c : Int)] w fun e w' => e = .returned (.int .i64 (Lib.indexByte s.data.toList (UInt8.ofNat c))) ∧ w' = w := by
  refine vc_cartularyref08_Find_ok (R := fun v w' => v = .int .i64 (Lib.indexByte s.data.toList (UInt8.ofNat c)) ∧ w' = w) ?_ (fun v w' h => ⟨by rw [h.1], h.2⟩)
  refine ⟨fun n w' => w' = w ∧ ∃ k : Nat, n = k ∧ k ≤ s.size ∧ ∀ j, j < k → byt s j ≠ (UInt8.ofNat c).toNat, fun n _ => s.size - n.toNat, ⟨rfl, 0, rfl, Nat.zero_le _, fun j hj => by omega⟩, ?_⟩
  rintro n w4 ⟨hw, k, rfl, hk, hall⟩
  replace hw := hw.symm
  subst hw
  have e1 : IntKind.i64.wrap ((k : Int) + 1) = ((k + 1 : Nat) : Int) := by rw [wrap_i64 (by omega) (by omega)]; omega
  rw [e1]
  refine ⟨fun hlt => ?_, fun hge => ?_⟩
  · have hlt := of_decide_eq_true hlt
    rw [byteAt_nat]
    refine ⟨⟨by omega, by omega⟩, fun he => ⟨?_, rfl⟩, fun hne => ⟨⟨rfl, k + 1, rfl, by omega, fun j hj => ?_⟩, by dsimp only; omega⟩⟩
    · have he := eq_of_beq he
      rw [fnd_at (i := k) (by omega) (by rw [toNat_of c hc]; omega) hall]
    · by_cases hjk : j = k
      · subst hjk
        rw [toNat_of c hc]
        intro e; rw [e] at hne; simp at hne
      · exact hall j (by omega)
  · have hge := of_decide_eq_false hge
    have : k = s.size := by omega
    subst this
    exact ⟨by rw [fnd_no hall], rfl⟩
end Go.Proofs.YtllegkmadljmaaaGreatDoor

/- Formulas of 2 Go functions of this seat (written by a program of the author's, vcgen.py), and that each is enough for the call. No condition. -/
set_option linter.unusedVariables false
namespace Go.Proofs.YtllegkmadljmaaaGreatDoor
open Go Vc Go.Proofs
set_option maxRecDepth 100000
def vc_cartularyref01_Hexed (x0 : ByteArray) (w : World) (R : Value → World → Prop) : Prop :=
 ∃ I1 : Int → World → Prop, ∃ I2 : Int → World → Nat, (I1 0 w ∧
 ∀ n3 : Int,
 ∀ w4 : World,
 (I1 n3 w4 →
 (((decide (n3 < (↑(ByteArray.size x0) : Int)) = true →
 ((0 ≤ n3 ∧
 n3 < (↑(ByteArray.size x0) : Int)) ∧
 (((decide (byteAt x0 n3 ≥ 48) = true →
 ((0 ≤ n3 ∧
 n3 < (↑(ByteArray.size x0) : Int)) ∧
 (((decide (byteAt x0 n3 ≤ 57) = true →
 (I1 (IntKind.wrap .i64 (n3 + 1)) w4 ∧
 I2 (IntKind.wrap .i64 (n3 + 1)) w4 < I2 n3 w4))) ∧
 (decide (byteAt x0 n3 ≤ 57) = false →
 ((0 ≤ n3 ∧
 n3 < (↑(ByteArray.size x0) : Int)) ∧
 (((decide (byteAt x0 n3 ≥ 97) = true →
 ((0 ≤ n3 ∧
 n3 < (↑(ByteArray.size x0) : Int)) ∧
 ((((!decide (byteAt x0 n3 ≤ 102)) = true →
 R (Value.bool false) w4)) ∧
 ((!decide (byteAt x0 n3 ≤ 102)) = false →
 (I1 (IntKind.wrap .i64 (n3 + 1)) w4 ∧
 I2 (IntKind.wrap .i64 (n3 + 1)) w4 < I2 n3 w4)))))) ∧
 (decide (byteAt x0 n3 ≥ 97) = false →
 R (Value.bool false) w4)))))))) ∧
 (decide (byteAt x0 n3 ≥ 48) = false →
 ((0 ≤ n3 ∧
 n3 < (↑(ByteArray.size x0) : Int)) ∧
 (((decide (byteAt x0 n3 ≥ 97) = true →
 ((0 ≤ n3 ∧
 n3 < (↑(ByteArray.size x0) : Int)) ∧
 ((((!decide (byteAt x0 n3 ≤ 102)) = true →
 R (Value.bool false) w4)) ∧
 ((!decide (byteAt x0 n3 ≤ 102)) = false →
 (I1 (IntKind.wrap .i64 (n3 + 1)) w4 ∧
 I2 (IntKind.wrap .i64 (n3 + 1)) w4 < I2 n3 w4)))))) ∧
 (decide (byteAt x0 n3 ≥ 97) = false →
 R (Value.bool false) w4)))))))) ∧
 (decide (n3 < (↑(ByteArray.size x0) : Int)) = false →
 ((2 : Int) ≠ (0 : Int) ∧
 R (Value.bool (Int.tmod (↑(ByteArray.size x0) : Int) 2 == 0)) w4)))))
theorem vc_cartularyref01_Hexed_ok {x0 : ByteArray} {w : World} {R : Value → World → Prop} {R' : Ending → World → Prop} (h : vc_cartularyref01_Hexed x0 w R) (hR : ∀ v w', R v w' → R' (.returned v) w') :
    Calls Tryz.prog 56 #[.string x0] w R' :=
  calls_of_body (vs := [(.string x0, false)]) (ty := ty) (ann := ⟨[], [(2, [(3, .int .i64)])], [], []⟩) (c := Tryz.f56.body.getD .skip) (by kernel_rfl) Tryz.func56 (by kernel_rfl) (by kernel_rfl) (Eq.mp (by kernel_rfl) h) hR
def vc_cartularyref09_Id (x0 : ByteArray) (w : World) (R : Value → World → Prop) : Prop :=
 (((((↑(ByteArray.size x0) : Int) == 40) = true →
 Calls Tryz.prog (56 : Nat) (Array.mk [Value.string x0]) (w) (fun e1 w2 =>
 ∃ b3 : Bool, (e1 = Ending.returned (Value.bool b3) ∧
 R (Value.bool b3) w2)))) ∧
 (((↑(ByteArray.size x0) : Int) == 40) = false →
 R (Value.bool false) w))
theorem vc_cartularyref09_Id_ok {x0 : ByteArray} {w : World} {R : Value → World → Prop} {R' : Ending → World → Prop} (h : vc_cartularyref09_Id x0 w R) (hR : ∀ v w', R v w' → R' (.returned v) w') :
    Calls Tryz.prog 20 #[.string x0] w R' :=
  calls_of_body (vs := [(.string x0, false)]) (ty := ty) (ann := ⟨[], [], [], []⟩) (c := Tryz.f20.body.getD .skip) (by kernel_rfl) Tryz.func20 (by kernel_rfl) (by kernel_rfl) (Eq.mp (by kernel_rfl) h) hR
end Go.Proofs.YtllegkmadljmaaaGreatDoor

/- The reference's Hexed and Id. Conditions: as named. -/
set_option linter.unusedVariables false
namespace Go.Proofs.YtllegkmadljmaaaGreatDoor
open Go Vc HexM Go.Proofs

theorem hexed_ok {c : Nat} : (dg c).isSome = true ↔ (48 ≤ c ∧ c ≤ 57) ∨ (97 ≤ c ∧ c ≤ 102) := by
  unfold dg
  split
  · rename_i h; simp; omega
  · split
    · rename_i h; simp; omega
    · simp; omega
theorem digits_iff {s : ByteArray} : digits s.data.toList = true ↔ ∀ k, k < s.size → (dg (byt s k)).isSome = true := by
  unfold digits
  rw [List.all_eq_true]
  constructor
  · intro h k hk
    have := h _ (List.mem_of_getElem? (bs_get hk))
    rwa [toNat_of _ (byt_lt _ _)] at this
  · intro h x hx
    obtain ⟨k, hk, rfl⟩ := List.getElem_of_mem hx
    rw [bs_len] at hk
    have := h k hk
    rwa [bs_byt hk] at this
/-- The reference's 'Hexed'. -/
theorem hexed_spec (s : ByteArray) (hs : s.size ≤ 140737488355328) (w : World) : Calls Tryz.prog F_cartularyref01_Hexed #[.string s] w fun e w' => e = .returned (.bool (unhexL s.data.toList).isSome) ∧ w' = w := by
  refine vc_cartularyref01_Hexed_ok (R := fun v w' => v = .bool (unhexL s.data.toList).isSome ∧ w' = w) ?_ (fun v w' h => ⟨by rw [h.1], h.2⟩)
  refine ⟨fun n w' => w' = w ∧ ∃ k : Nat, n = k ∧ k ≤ s.size ∧ ∀ j, j < k → (dg (byt s j)).isSome = true, fun n _ => s.size - n.toNat, ⟨rfl, 0, rfl, Nat.zero_le _, fun j hj => by omega⟩, ?_⟩
  rintro n w4 ⟨hw, k, rfl, hk, hall⟩
  replace hw := hw.symm
  subst hw
  have e1 : IntKind.i64.wrap ((k : Int) + 1) = ((k + 1 : Nat) : Int) := by rw [wrap_i64 (by omega) (by omega)]; omega
  rw [e1]
  refine ⟨fun hlt => ?_, fun hge => ?_⟩
  · have hlt := of_decide_eq_true hlt
    rw [byteAt_nat]
    have step : (dg (byt s k)).isSome = true → (w = w ∧ ∃ k' : Nat, ((k + 1 : Nat) : Int) = k' ∧ k' ≤ s.size ∧ ∀ j, j < k' → (dg (byt s j)).isSome = true) ∧ s.size - (((k + 1 : Nat) : Int)).toNat < s.size - ((k : Int)).toNat := fun h =>
      ⟨⟨rfl, k + 1, rfl, by omega, fun j hj => by
        by_cases hjk : j = k
        · rw [hjk]; exact h
        · exact hall j (by omega)⟩, by omega⟩
    have bad : ¬ (dg (byt s k)).isSome = true → (Value.bool false = .bool (unhexL s.data.toList).isSome ∧ w = w) := fun h => by
      have := unhexL_bad k s.data.toList _ (bs_get (by omega)) (by rw [toNat_of _ (byt_lt _ _)]; simpa using h)
      rw [this]; exact ⟨rfl, rfl⟩
    rw [hexed_ok] at step bad
    refine ⟨⟨by omega, by omega⟩, fun h1 => ⟨⟨by omega, by omega⟩, fun h2 => step ?_, fun h2 => ⟨⟨by omega, by omega⟩, fun h3 => ⟨⟨by omega, by omega⟩, fun h4 => bad ?_, fun h4 => step ?_⟩, fun h3 => bad ?_⟩⟩, fun h1 => ⟨⟨by omega, by omega⟩, fun h3 => ⟨⟨by omega, by omega⟩, fun h4 => bad ?_, fun h4 => step ?_⟩, fun h3 => bad ?_⟩⟩
    all_goals (simp at *; omega)
  · have hge := of_decide_eq_false hge
    have : k = s.size := by omega
    subst this
    refine ⟨by decide, ?_, rfl⟩
    rw [unhexL_iff, digits_iff.2 hall, Bool.true_and, bs_len, show (2 : Int) = ((2 : Nat) : Int) from rfl, ← Int.ofNat_tmod]
    congr 1
    rw [Bool.eq_iff_iff, beq_iff_eq, beq_iff_eq]; omega
theorem rid_spec (s : ByteArray) (hs : s.size ≤ 140737488355328) (w : World) : Calls Tryz.prog F_cartularyref09_Id #[.string s] w fun e w' => e = .returned (.bool (isId s.data.toList)) ∧ w' = w := by
  refine vc_cartularyref09_Id_ok (R := fun v w' => v = .bool (isId s.data.toList) ∧ w' = w) ?_ (fun v w' h => ⟨by rw [h.1], h.2⟩)
  refine ⟨fun h => (hexed_spec s hs w).mono ?_, fun h => ⟨?_, rfl⟩⟩
  · rintro e w2 ⟨rfl, hw⟩
    refine ⟨_, rfl, ?_, hw⟩
    have h := eq_of_beq h
    unfold isId
    rw [bs_len, show (s.size == 40) = true by rw [beq_iff_eq]; omega, Bool.and_true]
  · unfold isId
    rw [bs_len, show (s.size == 40) = false by
      rw [beq_eq_false_iff_ne]; intro e; rw [e] at h; simp at h, Bool.and_false]
end Go.Proofs.YtllegkmadljmaaaGreatDoor

/- Formulas of 1 Go functions of this seat (written by a program of the author's, vcgen.py), and that each is enough for the call. No condition. -/
set_option linter.unusedVariables false
namespace Go.Proofs.YtllegkmadljmaaaGreatDoor
open Go Vc Go.Proofs
set_option maxRecDepth 100000
def vc_cartularyref07_Same (x0a : Option Addr) (x0n : Nat) (x0c : Nat) (x1a : Option Addr) (x1n : Nat) (x1c : Nat) (w : World) (R : Value → World → Prop) : Prop :=
 (((((↑x0n : Int) != (↑x1n : Int)) = true →
 R (Value.bool false) w)) ∧
 (((↑x0n : Int) != (↑x1n : Int)) = false →
 ∃ I1 : Int → World → Prop, ∃ I2 : Int → World → Nat, (I1 0 w ∧
 ∀ n3 : Int,
 ∀ w4 : World,
 (I1 n3 w4 →
 (((decide (n3 < (↑x0n : Int)) = true →
 ((0 ≤ n3 ∧
 n3 < (↑x0n : Int)) ∧
 ∃ a5 : Addr, (x0a = some a5 ∧
 ∃ s6 : ByteArray, (World.cell? w4 (Addr.add a5 (Int.toNat n3 * 1)) = some (Value.string s6) ∧
 ((0 ≤ n3 ∧
 n3 < (↑x1n : Int)) ∧
 ∃ a7 : Addr, (x1a = some a7 ∧
 ∃ s8 : ByteArray, (World.cell? w4 (Addr.add a7 (Int.toNat n3 * 1)) = some (Value.string s8) ∧
 ∀ w9 : World,
 (Drew w4 w9 →
 ((((!ByteArray.toList s6 == ByteArray.toList s8) = true →
 R (Value.bool false) w9)) ∧
 ((!ByteArray.toList s6 == ByteArray.toList s8) = false →
 (I1 (IntKind.wrap .i64 (n3 + 1)) w9 ∧
 I2 (IntKind.wrap .i64 (n3 + 1)) w9 < I2 n3 w4)))))))))))) ∧
 (decide (n3 < (↑x0n : Int)) = false →
 R (Value.bool true) w4))))))
theorem vc_cartularyref07_Same_ok {x0a : Option Addr} {x0n : Nat} {x0c : Nat} {x1a : Option Addr} {x1n : Nat} {x1c : Nat} {w : World} {R : Value → World → Prop} {R' : Ending → World → Prop} (h : vc_cartularyref07_Same x0a x0n x0c x1a x1n x1c w R) (hR : ∀ v w', R v w' → R' (.returned v) w') :
    Calls Tryz.prog 52 #[.slice x0a x0n x0c, .slice x1a x1n x1c] w R' :=
  calls_of_body (vs := [(.slice x0a x0n x0c, false), (.slice x1a x1n x1c, false)]) (ty := ty) (ann := ⟨[], [(4, [(13, .int .i64)])], [(6, .quiet)], []⟩) (c := Tryz.f52.body.getD .skip) (by kernel_rfl) Tryz.func52 (by kernel_rfl) (by kernel_rfl) (Eq.mp (by kernel_rfl) h) hR
end Go.Proofs.YtllegkmadljmaaaGreatDoor

/- The reference's Same. No condition. -/
set_option linter.unusedVariables false
namespace Go.Proofs.YtllegkmadljmaaaGreatDoor
open Go Vc Go.Proofs

theorem same07_spec {w : World} {a b : Option Addr} {n m c d : Nat} {xs ys : List ByteArray} (hx : Reads w a (strV xs)) (hy : Reads w b (strV ys)) (hn : xs.length = n) (hm : ys.length = m) (hl : n ≤ 1000000) : Calls Tryz.prog F_cartularyref07_Same #[.slice a n c, .slice b m d] w fun e w' => (∃ r : Bool, e = .returned (.bool r) ∧ (r = true ↔ xs = ys)) ∧ Drew w w' := by
  refine vc_cartularyref07_Same_ok (R := fun v w' => (∃ r : Bool, v = .bool r ∧ (r = true ↔ xs = ys)) ∧ Drew w w') ?_ (fun v w' ⟨⟨r, h1, h2⟩, h3⟩ => ⟨⟨r, by rw [h1], h2⟩, h3⟩)
  refine ⟨fun h => ⟨⟨false, rfl, fun h => (by cases h), fun e => ?_⟩, .refl _⟩, fun h => ?_⟩
  · rw [← hn, ← hm, e] at h; simp at h
  have hnm : n = m := by
    have : ((n : Int) != (m : Int)) = false := h
    have : (n : Int) = m := by simpa using this
    omega
  refine ⟨fun i w' => ∃ k : Nat, i = k ∧ k ≤ n ∧ xs.take k = ys.take k ∧ Drew w w', fun i _ => n - i.toNat, ⟨0, rfl, Nat.zero_le _, rfl, .refl _⟩, ?_⟩
  rintro i w4 ⟨k, rfl, hk, heq, d4⟩
  have e1 : IntKind.i64.wrap ((k : Int) + 1) = ((k + 1 : Nat) : Int) := by rw [wrap_i64 (by omega) (by omega)]; omega
  rw [e1]
  refine ⟨fun hlt => ?_, fun hge => ⟨⟨true, rfl, fun _ => ?_, fun _ => rfl⟩, d4⟩⟩
  · have hlt := of_decide_eq_true hlt
    have h1 : xs[k]? = some xs[k] := List.getElem?_eq_getElem (by omega)
    have h2 : ys[k]? = some ys[k] := List.getElem?_eq_getElem (by omega)
    generalize xs[k] = x at h1
    generalize ys[k] = y at h2
    have fd : Fr (fun _ => False) w w4 := .drew _ d4
    obtain ⟨ad, had, hc⟩ := hx k (.string x) (by simp [strV, h1])
    obtain ⟨bd, hbd, hc'⟩ := hy k (.string y) (by simp [strV, h2])
    refine ⟨⟨by omega, by omega⟩, ad, had, x, by rw [Int.toNat_natCast, Nat.mul_one]; exact fd.cell hc (by simp), ⟨by omega, by omega⟩, bd, hbd, y, by rw [Int.toNat_natCast, Nat.mul_one]; exact fd.cell hc' (by simp), fun w9 d9 => ⟨fun h => ⟨⟨false, rfl, fun h => (by cases h), fun e => ?_⟩, d4.trans d9⟩, fun h => ⟨⟨k + 1, rfl, by omega, ?_, d4.trans d9⟩, by dsimp only; omega⟩⟩⟩
    · rw [e, h2] at h1
      cases h1
      rw [bs_eq] at h; simp at h
    · rw [bs_eq] at h
      have h : x = y := by simpa using h
      rw [List.take_add_one, List.take_add_one, heq, h1, h2, h]
  · have hge := of_decide_eq_false hge
    have hk' : k = n := by omega
    rw [hk', List.take_of_length_le (by omega), List.take_of_length_le (by omega)] at heq
    exact heq
end Go.Proofs.YtllegkmadljmaaaGreatDoor

/- Formulas of 4 Go functions of this seat (written by a program of the author's, vcgen.py), and that each is enough for the call. No condition. -/
set_option linter.unusedVariables false
namespace Go.Proofs.YtllegkmadljmaaaGreatDoor
open Go Vc Go.Proofs
set_option maxRecDepth 100000
def vc_cartularyref15_Line (x0 : ByteArray) (w : World) (R : Value → World → Prop) : Prop :=
 (((decide ((↑(ByteArray.size x0) : Int) ≥ 1) = true →
 (((decide ((↑(ByteArray.size x0) : Int) ≤ 100) = true →
 Calls Tryz.prog (89 : Nat) (Array.mk [Value.string x0, Value.int .u8 10]) (w) (fun e1 w2 =>
 ∃ n3 : Int, (e1 = Ending.returned (Value.int .i64 n3) ∧
 (((decide (n3 < 0) = true →
 Calls Tryz.prog (89 : Nat) (Array.mk [Value.string x0, Value.int .u8 0]) (w2) (fun e4 w5 =>
 ∃ n6 : Int, (e4 = Ending.returned (Value.int .i64 n6) ∧
 R (Value.bool (decide (n6 < 0))) w5)))) ∧
 (decide (n3 < 0) = false →
 R (Value.bool false) w2)))))) ∧
 (decide ((↑(ByteArray.size x0) : Int) ≤ 100) = false →
 R (Value.bool false) w)))) ∧
 (decide ((↑(ByteArray.size x0) : Int) ≥ 1) = false →
 R (Value.bool false) w))
theorem vc_cartularyref15_Line_ok {x0 : ByteArray} {w : World} {R : Value → World → Prop} {R' : Ending → World → Prop} (h : vc_cartularyref15_Line x0 w R) (hR : ∀ v w', R v w' → R' (.returned v) w') :
    Calls Tryz.prog 57 #[.string x0] w R' :=
  calls_of_body (vs := [(.string x0, false)]) (ty := ty) (ann := ⟨[], [], [], []⟩) (c := Tryz.f57.body.getD .skip) (by kernel_rfl) Tryz.func57 (by kernel_rfl) (by kernel_rfl) (Eq.mp (by kernel_rfl) h) hR
def vc_cartularyref15_Signed (x0_0 : ByteArray) (x0_1 : Int) (x0_2 : Int) (w : World) (R : Value → World → Prop) : Prop :=
 ∀ w1 : World,
 (w1 = World.alloc w (Obj.cells (Array.mk [Value.string x0_0, Value.int .i64 x0_1, Value.int .i64 x0_2]) 24) →
 ∃ s2 : ByteArray, (World.cell? w1 (Addr.mk (Array.size (World.heap w)) 0 none) = some (Value.string s2) ∧
 Calls Tryz.prog (57 : Nat) (Array.mk [Value.string s2]) (w1) (fun e3 w4 =>
 ∃ b5 : Bool, (e3 = Ending.returned (Value.bool b5) ∧
 (((b5 = true →
 ∃ n6 : Int, (World.cell? w4 (Addr.mk (Array.size (World.heap w)) 1 none) = some (Value.int .i64 n6) ∧
 (((decide (n6 ≥ 0) = true →
 ∃ n7 : Int, (World.cell? w4 (Addr.mk (Array.size (World.heap w)) 1 none) = some (Value.int .i64 n7) ∧
 (((decide (n7 ≤ 253402300799) = true →
 ∃ n8 : Int, (World.cell? w4 (Addr.mk (Array.size (World.heap w)) 2 none) = some (Value.int .i64 n8) ∧
 (((decide (n8 ≥ -840) = true →
 ∃ n9 : Int, (World.cell? w4 (Addr.mk (Array.size (World.heap w)) 2 none) = some (Value.int .i64 n9) ∧
 R (Value.bool (decide (n9 ≤ 840))) w4))) ∧
 (decide (n8 ≥ -840) = false →
 R (Value.bool false) w4))))) ∧
 (decide (n7 ≤ 253402300799) = false →
 R (Value.bool false) w4))))) ∧
 (decide (n6 ≥ 0) = false →
 R (Value.bool false) w4))))) ∧
 (b5 = false →
 R (Value.bool false) w4))))))
theorem vc_cartularyref15_Signed_ok {x0_0 : ByteArray} {x0_1 : Int} {x0_2 : Int} {w : World} {R : Value → World → Prop} {R' : Ending → World → Prop} (h : vc_cartularyref15_Signed x0_0 x0_1 x0_2 w R) (hR : ∀ v w', R v w' → R' (.returned v) w') :
    Calls Tryz.prog 21 #[.agg #[.string x0_0, .int .i64 x0_1, .int .i64 x0_2]] w R' :=
  calls_of_body (vs := [(.agg #[.string x0_0, .int .i64 x0_1, .int .i64 x0_2], false)]) (ty := ty) (ann := ⟨[], [], [], []⟩) (c := Tryz.f21.body.getD .skip) (by kernel_rfl) Tryz.func21 (by kernel_rfl) (by kernel_rfl) (Eq.mp (by kernel_rfl) h) hR
def vc_cartularyref15_Check (x0_0 : ByteArray) (x0_1a : Option Addr) (x0_1n : Nat) (x0_1c : Nat) (x0_2 : ByteArray) (x0_3 : Int) (x0_4 : Int) (x0_5 : ByteArray) (x0_6 : Int) (x0_7 : Int) (x0_8 : ByteArray) (w : World) (R : Value → World → Prop) : Prop :=
 ∀ w1 : World,
 (w1 = World.alloc w (Obj.cells (Array.mk [Value.string x0_0, Value.slice x0_1a x0_1n x0_1c, Value.string x0_2, Value.int .i64 x0_3, Value.int .i64 x0_4, Value.string x0_5, Value.int .i64 x0_6, Value.int .i64 x0_7, Value.string x0_8]) 26) →
 ∃ l2 : Sl, (World.cell? w1 (Addr.mk (Array.size (World.heap w)) 1 none) = some (Value.slice l2.1 l2.2 l2.3) ∧
 (((decide ((↑l2.2 : Int) > 16) = true →
 R (Value.int .i64 2) w1)) ∧
 (decide ((↑l2.2 : Int) > 16) = false →
 ∃ l3 : Sl, (World.cell? w1 (Addr.mk (Array.size (World.heap w)) 1 none) = some (Value.slice l3.1 l3.2 l3.3) ∧
 ∃ I4 : Int → World → Prop, ∃ I5 : Int → World → Nat, (I4 0 w1 ∧
 ∀ n6 : Int,
 ∀ w7 : World,
 (I4 n6 w7 →
 (((decide (n6 < (↑l3.2 : Int)) = true →
 ((0 ≤ n6 ∧
 n6 < (↑l3.2 : Int)) ∧
 ∃ a8 : Addr, (l3.1 = some a8 ∧
 ∃ s9 : ByteArray, (World.cell? w7 (Addr.add a8 (Int.toNat n6 * 1)) = some (Value.string s9) ∧
 Calls Tryz.prog (20 : Nat) (Array.mk [Value.string s9]) (w7) (fun e10 w11 =>
 ∃ b12 : Bool, (e10 = Ending.returned (Value.bool b12) ∧
 ((((!b12) = true →
 R (Value.int .i64 4) w11)) ∧
 ((!b12) = false →
 (I4 (IntKind.wrap .i64 (n6 + 1)) w11 ∧
 I5 (IntKind.wrap .i64 (n6 + 1)) w11 < I5 n6 w7)))))))))) ∧
 (decide (n6 < (↑l3.2 : Int)) = false →
 ∃ s13 : ByteArray, (World.cell? w7 (Addr.mk (Array.size (World.heap w)) 0 none) = some (Value.string s13) ∧
 Calls Tryz.prog (20 : Nat) (Array.mk [Value.string s13]) (w7) (fun e14 w15 =>
 ∃ b16 : Bool, (e14 = Ending.returned (Value.bool b16) ∧
 ((((!b16) = true →
 R (Value.int .i64 4) w15)) ∧
 ((!b16) = false →
 ∃ s17 : ByteArray, ∃ n18 : Int, ∃ n19 : Int, (Sem.run Tryz.prog (loadVar 24 (Addr.mk (Array.size (World.heap w)) 2 none)) w15 = Result.ok (Value.agg (Array.mk [Value.string s17, Value.int .i64 n18, Value.int .i64 n19])) w15 ∧
 Calls Tryz.prog (21 : Nat) (Array.mk [Value.agg (Array.mk [Value.string s17, Value.int .i64 n18, Value.int .i64 n19])]) (w15) (fun e20 w21 =>
 ∃ b22 : Bool, (e20 = Ending.returned (Value.bool b22) ∧
 ((((!b22) = true →
 R (Value.int .i64 4) w21)) ∧
 ((!b22) = false →
 ∃ s23 : ByteArray, ∃ n24 : Int, ∃ n25 : Int, (Sem.run Tryz.prog (loadVar 24 (Addr.mk (Array.size (World.heap w)) 5 none)) w21 = Result.ok (Value.agg (Array.mk [Value.string s23, Value.int .i64 n24, Value.int .i64 n25])) w21 ∧
 Calls Tryz.prog (21 : Nat) (Array.mk [Value.agg (Array.mk [Value.string s23, Value.int .i64 n24, Value.int .i64 n25])]) (w21) (fun e26 w27 =>
 ∃ b28 : Bool, (e26 = Ending.returned (Value.bool b28) ∧
 ((((!b28) = true →
 R (Value.int .i64 4) w27)) ∧
 ((!b28) = false →
 R (Value.int .i64 0) w27))))))))))))))))))))))))
theorem vc_cartularyref15_Check_ok {x0_0 : ByteArray} {x0_1a : Option Addr} {x0_1n : Nat} {x0_1c : Nat} {x0_2 : ByteArray} {x0_3 : Int} {x0_4 : Int} {x0_5 : ByteArray} {x0_6 : Int} {x0_7 : Int} {x0_8 : ByteArray} {w : World} {R : Value → World → Prop} {R' : Ending → World → Prop} (h : vc_cartularyref15_Check x0_0 x0_1a x0_1n x0_1c x0_2 x0_3 x0_4 x0_5 x0_6 x0_7 x0_8 w R) (hR : ∀ v w', R v w' → R' (.returned v) w') :
    Calls Tryz.prog 5 #[.agg #[.string x0_0, .slice x0_1a x0_1n x0_1c, .string x0_2, .int .i64 x0_3, .int .i64 x0_4, .string x0_5, .int .i64 x0_6, .int .i64 x0_7, .string x0_8]] w R' :=
  calls_of_body (vs := [(.agg #[.string x0_0, .slice x0_1a x0_1n x0_1c, .string x0_2, .int .i64 x0_3, .int .i64 x0_4, .string x0_5, .int .i64 x0_6, .int .i64 x0_7, .string x0_8], false)]) (ty := ty) (ann := ⟨[], [(4, [(12, .int .i64)])], [], []⟩) (c := Tryz.f5.body.getD .skip) (by kernel_rfl) Tryz.func5 (by kernel_rfl) (by kernel_rfl) (Eq.mp (by kernel_rfl) h) hR
def vc_cartularyref15_Same (x0_0 : ByteArray) (x0_1a : Option Addr) (x0_1n : Nat) (x0_1c : Nat) (x0_2 : ByteArray) (x0_3 : Int) (x0_4 : Int) (x0_5 : ByteArray) (x0_6 : Int) (x0_7 : Int) (x0_8 : ByteArray) (x1_0 : ByteArray) (x1_1a : Option Addr) (x1_1n : Nat) (x1_1c : Nat) (x1_2 : ByteArray) (x1_3 : Int) (x1_4 : Int) (x1_5 : ByteArray) (x1_6 : Int) (x1_7 : Int) (x1_8 : ByteArray) (w : World) (R : Value → World → Prop) : Prop :=
 ∀ w1 : World,
 (w1 = World.alloc w (Obj.cells (Array.mk [Value.string x0_0, Value.slice x0_1a x0_1n x0_1c, Value.string x0_2, Value.int .i64 x0_3, Value.int .i64 x0_4, Value.string x0_5, Value.int .i64 x0_6, Value.int .i64 x0_7, Value.string x0_8]) 26) →
 ∀ w2 : World,
 (w2 = World.alloc w1 (Obj.cells (Array.mk [Value.string x1_0, Value.slice x1_1a x1_1n x1_1c, Value.string x1_2, Value.int .i64 x1_3, Value.int .i64 x1_4, Value.string x1_5, Value.int .i64 x1_6, Value.int .i64 x1_7, Value.string x1_8]) 26) →
 ∃ s3 : ByteArray, (World.cell? w2 (Addr.mk (Array.size (World.heap w)) 0 none) = some (Value.string s3) ∧
 ∃ s4 : ByteArray, (World.cell? w2 (Addr.mk (Array.size (World.heap w1)) 0 none) = some (Value.string s4) ∧
 ((((ByteArray.toList s3 == ByteArray.toList s4) = true →
 ∃ l5 : Sl, (World.cell? w2 (Addr.mk (Array.size (World.heap w)) 1 none) = some (Value.slice l5.1 l5.2 l5.3) ∧
 ∃ l6 : Sl, (World.cell? w2 (Addr.mk (Array.size (World.heap w1)) 1 none) = some (Value.slice l6.1 l6.2 l6.3) ∧
 Calls Tryz.prog (52 : Nat) (Array.mk [Value.slice l5.1 l5.2 l5.3, Value.slice l6.1 l6.2 l6.3]) (w2) (fun e7 w8 =>
 ∃ b9 : Bool, (e7 = Ending.returned (Value.bool b9) ∧
 (((b9 = true →
 ∃ s10 : ByteArray, ∃ n11 : Int, ∃ n12 : Int, (Sem.run Tryz.prog (loadVar 24 (Addr.mk (Array.size (World.heap w)) 2 none)) w8 = Result.ok (Value.agg (Array.mk [Value.string s10, Value.int .i64 n11, Value.int .i64 n12])) w8 ∧
 ∃ s13 : ByteArray, ∃ n14 : Int, ∃ n15 : Int, (Sem.run Tryz.prog (loadVar 24 (Addr.mk (Array.size (World.heap w1)) 2 none)) w8 = Result.ok (Value.agg (Array.mk [Value.string s13, Value.int .i64 n14, Value.int .i64 n15])) w8 ∧
 ((((ByteArray.toList s10 == ByteArray.toList s13 && (n11 == n14 && n12 == n15)) = true →
 ∃ s16 : ByteArray, ∃ n17 : Int, ∃ n18 : Int, (Sem.run Tryz.prog (loadVar 24 (Addr.mk (Array.size (World.heap w)) 5 none)) w8 = Result.ok (Value.agg (Array.mk [Value.string s16, Value.int .i64 n17, Value.int .i64 n18])) w8 ∧
 ∃ s19 : ByteArray, ∃ n20 : Int, ∃ n21 : Int, (Sem.run Tryz.prog (loadVar 24 (Addr.mk (Array.size (World.heap w1)) 5 none)) w8 = Result.ok (Value.agg (Array.mk [Value.string s19, Value.int .i64 n20, Value.int .i64 n21])) w8 ∧
 ((((ByteArray.toList s16 == ByteArray.toList s19 && (n17 == n20 && n18 == n21)) = true →
 ∃ s22 : ByteArray, (World.cell? w8 (Addr.mk (Array.size (World.heap w)) 8 none) = some (Value.string s22) ∧
 ∃ s23 : ByteArray, (World.cell? w8 (Addr.mk (Array.size (World.heap w1)) 8 none) = some (Value.string s23) ∧
 R (Value.bool (ByteArray.toList s22 == ByteArray.toList s23)) w8)))) ∧
 ((ByteArray.toList s16 == ByteArray.toList s19 && (n17 == n20 && n18 == n21)) = false →
 R (Value.bool false) w8)))))) ∧
 ((ByteArray.toList s10 == ByteArray.toList s13 && (n11 == n14 && n12 == n15)) = false →
 R (Value.bool false) w8)))))) ∧
 (b9 = false →
 R (Value.bool false) w8)))))))) ∧
 ((ByteArray.toList s3 == ByteArray.toList s4) = false →
 R (Value.bool false) w2))))))
theorem vc_cartularyref15_Same_ok {x0_0 : ByteArray} {x0_1a : Option Addr} {x0_1n : Nat} {x0_1c : Nat} {x0_2 : ByteArray} {x0_3 : Int} {x0_4 : Int} {x0_5 : ByteArray} {x0_6 : Int} {x0_7 : Int} {x0_8 : ByteArray} {x1_0 : ByteArray} {x1_1a : Option Addr} {x1_1n : Nat} {x1_1c : Nat} {x1_2 : ByteArray} {x1_3 : Int} {x1_4 : Int} {x1_5 : ByteArray} {x1_6 : Int} {x1_7 : Int} {x1_8 : ByteArray} {w : World} {R : Value → World → Prop} {R' : Ending → World → Prop} (h : vc_cartularyref15_Same x0_0 x0_1a x0_1n x0_1c x0_2 x0_3 x0_4 x0_5 x0_6 x0_7 x0_8 x1_0 x1_1a x1_1n x1_1c x1_2 x1_3 x1_4 x1_5 x1_6 x1_7 x1_8 w R) (hR : ∀ v w', R v w' → R' (.returned v) w') :
    Calls Tryz.prog 17 #[.agg #[.string x0_0, .slice x0_1a x0_1n x0_1c, .string x0_2, .int .i64 x0_3, .int .i64 x0_4, .string x0_5, .int .i64 x0_6, .int .i64 x0_7, .string x0_8], .agg #[.string x1_0, .slice x1_1a x1_1n x1_1c, .string x1_2, .int .i64 x1_3, .int .i64 x1_4, .string x1_5, .int .i64 x1_6, .int .i64 x1_7, .string x1_8]] w R' :=
  calls_of_body (vs := [(.agg #[.string x0_0, .slice x0_1a x0_1n x0_1c, .string x0_2, .int .i64 x0_3, .int .i64 x0_4, .string x0_5, .int .i64 x0_6, .int .i64 x0_7, .string x0_8], false), (.agg #[.string x1_0, .slice x1_1a x1_1n x1_1c, .string x1_2, .int .i64 x1_3, .int .i64 x1_4, .string x1_5, .int .i64 x1_6, .int .i64 x1_7, .string x1_8], false)]) (ty := ty) (ann := ⟨[], [], [], []⟩) (c := Tryz.f17.body.getD .skip) (by kernel_rfl) Tryz.func17 (by kernel_rfl) (by kernel_rfl) (Eq.mp (by kernel_rfl) h) hR
end Go.Proofs.YtllegkmadljmaaaGreatDoor

/- The reference's Line, Signed, Check and Same of commits. Conditions: as named. -/
set_option linter.unusedVariables false
namespace Go.Proofs.YtllegkmadljmaaaGreatDoor
open Go Vc HexM Go.Proofs

theorem find_neg (s : ByteArray) (c : UInt8) : decide (Lib.indexByte s.data.toList c < 0) = decide (c ∉ s.data.toList) := by
  rcases fnd_cases s c with ⟨h1, h2⟩ | ⟨i, h1, h2, h3, _⟩
  · rw [h1, decide_eq_true (by decide), decide_eq_true]
    intro hm
    obtain ⟨k, hk, he⟩ := List.getElem_of_mem hm
    rw [bs_len] at hk
    refine h2 k hk ?_
    rw [bs_byt hk, he]
  · rw [h1, decide_eq_false (by omega), decide_eq_false]
    intro hm
    refine hm ?_
    have := bs_byt h2
    rw [h3] at this
    rw [UInt8.toNat_inj.1 this]
    exact List.getElem_mem _
theorem rline15_spec (s : ByteArray) (w : World) : Calls Tryz.prog F_cartularyref15_Line #[.string s] w fun e w' => e = .returned (.bool (lineB s)) ∧ w' = w := by
  refine vc_cartularyref15_Line_ok (R := fun v w' => v = .bool (lineB s) ∧ w' = w) ?_ (fun v w' h => ⟨by rw [h.1], h.2⟩)
  have key : ∀ b : Bool, (b = true ↔ s ≠ ⟨#[]⟩ ∧ s.size ≤ 100 ∧ (10 : UInt8) ∉ s.data.toList ∧ (0 : UInt8) ∉ s.data.toList) → b = lineB s := fun b h => by
    rw [Bool.eq_iff_iff, h, lineB_iff]
  have hne : s ≠ ⟨#[]⟩ ↔ 1 ≤ s.size := by rw [ne_eq, bs_empty]; omega
  refine ⟨fun h1 => ⟨fun h2 => ?_, fun h2 => ⟨?_, rfl⟩⟩, fun h1 => ⟨?_, rfl⟩⟩
  · have h1 := of_decide_eq_true h1
    have h2 := of_decide_eq_true h2
    refine (find_spec s (by omega) 10 (by decide) w).mono ?_
    rintro e w2 ⟨rfl, hw⟩
    replace hw := hw.symm
    subst hw
    refine ⟨_, rfl, fun h3 => (find_spec s (by omega) 0 (by decide) w).mono ?_, fun h3 => ⟨?_, rfl⟩⟩
    · rintro e w5 ⟨rfl, hw⟩
      replace hw := hw.symm
      subst hw
      refine ⟨_, rfl, ?_, rfl⟩
      rw [find_neg] at h3 ⊢
      refine congrArg Value.bool (key _ ?_)
      rw [decide_eq_true_eq, hne]
      exact ⟨fun h => ⟨by omega, by omega, of_decide_eq_true h3, h⟩, fun h => h.2.2.2⟩
    · rw [find_neg] at h3
      refine congrArg Value.bool (key _ ⟨fun h => (by cases h), fun h => absurd h.2.2.1 (of_decide_eq_false h3)⟩)
  · have h2 := of_decide_eq_false h2
    refine congrArg Value.bool (key _ ⟨fun h => (by cases h), fun h => absurd h.2.1 (by omega)⟩)
  · have h1 := of_decide_eq_false h1
    refine congrArg Value.bool (key _ ⟨fun h => (by cases h), fun h => absurd (hne.1 h.1) (by omega)⟩)
theorem rsigned15_spec (x : SgE) (w : World) : Calls Tryz.prog F_cartularyref15_Signed #[.agg #[.string x.who, .int .i64 x.time, .int .i64 x.zone]] w fun e w' => e = .returned (.bool (signedB x)) ∧ Fr (fun _ => False) w w' := by
  refine vc_cartularyref15_Signed_ok (R := fun v w' => v = .bool (signedB x) ∧ Fr (fun _ => False) w w') ?_ (fun v w' h => ⟨by rw [h.1], h.2⟩)
  intro w1 h1
  have f1 : Fr (fun _ => False) w w1 := by rw [h1]; exact .alloc _ _ _
  have hb : w1.heap[w.heap.size]? = some (.cells #[.string x.who, .int .i64 x.time, .int .i64 x.zone] T_api_Sign (0, 0)) := by rw [h1]; exact alloc_new _ _
  clear h1
  refine ⟨x.who, by rw [cell_blk hb]; rfl, (rline15_spec x.who w1).mono ?_⟩
  rintro e w4 ⟨rfl, hw⟩
  replace hw := hw.symm
  subst hw
  refine ⟨_, rfl, fun hl => ⟨x.time, by rw [cell_blk hb]; rfl, fun h1 => ⟨x.time, by rw [cell_blk hb]; rfl, fun h2 => ⟨x.zone, by rw [cell_blk hb]; rfl, fun h3 => ⟨x.zone, by rw [cell_blk hb]; rfl, ?_, f1⟩, fun h3 => ⟨?_, f1⟩⟩, fun h2 => ⟨?_, f1⟩⟩, fun h1 => ⟨?_, f1⟩⟩, fun hl => ⟨?_, f1⟩⟩
  · have h1 := of_decide_eq_true h1
    have h2 := of_decide_eq_true h2
    have h3 := of_decide_eq_true h3
    unfold signedB
    rw [hl, decide_eq_true (show 0 ≤ x.time by omega), decide_eq_true h2, decide_eq_true (show -840 ≤ x.zone by omega)]; rfl
  · have h3 := of_decide_eq_false h3
    unfold signedB
    rw [decide_eq_false (show ¬ -840 ≤ x.zone by omega), Bool.and_false, Bool.false_and]
  · unfold signedB
    rw [h2, Bool.and_false, Bool.false_and, Bool.false_and]
  · have h1 := of_decide_eq_false h1
    unfold signedB
    rw [decide_eq_false (show ¬ 0 ≤ x.time by omega), Bool.and_false, Bool.false_and, Bool.false_and, Bool.false_and]
  · unfold signedB
    rw [hl]; rfl
theorem rcheck15_spec (c : ChE) {a : Option Addr} {n k : Nat} {w : World} (hr : Reads w a (strV c.pars)) (hn : c.pars.length = n) (hp : ∀ p ∈ c.pars, p.size ≤ 140737488355328) (ht : c.tree.size ≤ 140737488355328) :
    Calls Tryz.prog F_cartularyref15_Check #[.agg (encC c a n k).toArray] w fun e w' => e = .returned (.int .i64 (checkC c)) ∧ Fr (fun _ => False) w w' := by
  refine vc_cartularyref15_Check_ok (R := fun v w' => v = .int .i64 (checkC c) ∧ Fr (fun _ => False) w w') ?_ (fun v w' h => ⟨by rw [h.1], h.2⟩)
  intro w1 h1
  have f1 : Fr (fun _ => False) w w1 := by rw [h1]; exact .alloc _ _ _
  have hb : w1.heap[w.heap.size]? = some (.cells (encC c a n k).toArray T_api_Change (0, 0)) := by rw [h1]; exact alloc_new _ _
  clear h1
  refine ⟨⟨a, n, k⟩, by rw [cell_blk hb]; rfl, fun h => ⟨?_, f1⟩, fun h => ⟨⟨a, n, k⟩, by rw [cell_blk hb]; rfl, ?_⟩⟩
  · have h := of_decide_eq_true h
    dsimp only at h
    unfold checkC
    rw [if_pos (by omega)]
  have h := of_decide_eq_false h
  dsimp only at h
  have h16 : ¬ 16 < c.pars.length := by omega
  refine ⟨fun m w' => ∃ j : Nat, m = j ∧ j ≤ n ∧ (∀ p ∈ c.pars.take j, isId p.data.toList = true) ∧ Fr (fun _ => False) w1 w', fun m _ => n - m.toNat, ⟨0, rfl, Nat.zero_le _, by simp, .refl _ _⟩, ?_⟩
  rintro m w7 ⟨j, rfl, hj, hall, f7⟩
  have e1 : IntKind.i64.wrap ((j : Int) + 1) = ((j + 1 : Nat) : Int) := by rw [wrap_i64 (by omega) (by omega)]; omega
  refine ⟨fun hlt => ?_, fun hge => ?_⟩
  · have hlt := of_decide_eq_true hlt
    dsimp only at hlt ⊢
    have hjl : j < c.pars.length := by omega
    have hg : c.pars[j]? = some c.pars[j] := List.getElem?_eq_getElem hjl
    have hm := List.getElem_mem hjl
    generalize c.pars[j] = p at hg hm
    obtain ⟨ad, had, hc⟩ := (hr.keep (f1.trans' f7) (by simp)) j (.string p) (by simp [strV, hg])
    refine ⟨⟨by omega, by omega⟩, ad, had, p, by rw [Int.toNat_natCast, Nat.mul_one]; exact hc, (rid_spec p (hp p hm) w7).mono ?_⟩
    rintro e w11 ⟨rfl, hw⟩
    have f11 : Fr (fun _ => False) w7 w11 := by rw [hw]; exact .refl _ _
    clear hw
    refine ⟨_, rfl, fun hb => ⟨?_, f1.trans' (f7.trans' f11)⟩, fun hb => ?_⟩
    · have hb : isId p.data.toList = false := by simpa using hb
      unfold checkC
      rw [if_neg h16, if_pos (by
        rw [← Bool.not_eq_true, List.all_eq_true]
        intro hA
        rw [hA p hm] at hb; cases hb)]
    · have hb : isId p.data.toList = true := by simpa using hb
      rw [e1]
      refine ⟨⟨j + 1, rfl, by omega, fun q hq => ?_, f7.trans' f11⟩, by omega⟩
      rw [List.take_add_one, hg, Option.toList_some] at hq
      rcases List.mem_append.1 hq with hq | hq
      · exact hall q hq
      · rw [List.mem_singleton] at hq
        rw [hq]; exact hb
  · have hge := of_decide_eq_false hge
    dsimp only at hge
    have hA : (c.pars.all fun p => isId p.data.toList) = true := by
      rw [List.all_eq_true]
      intro p hp'
      exact hall p (by rw [List.take_of_length_le (by omega)]; exact hp')
    have hnA : ¬ (c.pars.all fun p => isId p.data.toList) = false := by rw [hA]; simp
    have hb7 := f7.keep hb (by simp)
    refine ⟨c.tree, by rw [cell_blk hb7]; rfl, (rid_spec c.tree ht w7).mono ?_⟩
    rintro e w15 ⟨rfl, hw⟩
    have f15 : Fr (fun _ => False) w7 w15 := by rw [hw]; exact .refl _ _
    clear hw
    have g15 := f1.trans' (f7.trans' f15)
    refine ⟨_, rfl, fun hx => ⟨?_, g15⟩, fun hx => ?_⟩
    · have hx : isId c.tree.data.toList = false := by simpa using hx
      unfold checkC
      rw [if_neg h16, if_neg hnA, hx]; rfl
    have hx : isId c.tree.data.toList = true := by simpa using hx
    have hb15 := f15.keep hb7 (by simp)
    refine ⟨c.au.who, c.au.time, c.au.zone, sign_load (x := c.au) (by rw [cell_blk hb15]; rfl) (by rw [cell_blk hb15]; rfl) (by rw [cell_blk hb15]; rfl), (rsigned15_spec c.au w15).mono ?_⟩
    rintro e w21 ⟨rfl, f21⟩
    have g21 := g15.trans' f21
    refine ⟨_, rfl, fun hy => ⟨?_, g21⟩, fun hy => ?_⟩
    · have hy : signedB c.au = false := by simpa using hy
      unfold checkC
      rw [if_neg h16, if_neg hnA, hx, hy]; rfl
    have hy : signedB c.au = true := by simpa using hy
    have hb21 := f21.keep hb15 (by simp)
    refine ⟨c.co.who, c.co.time, c.co.zone, sign_load (x := c.co) (by rw [cell_blk hb21]; rfl) (by rw [cell_blk hb21]; rfl) (by rw [cell_blk hb21]; rfl), (rsigned15_spec c.co w21).mono ?_⟩
    rintro e w27 ⟨rfl, f27⟩
    have g27 := g21.trans' f27
    refine ⟨_, rfl, fun hz => ⟨?_, g27⟩, fun hz => ⟨?_, g27⟩⟩
    · have hz : signedB c.co = false := by simpa using hz
      unfold checkC
      rw [if_neg h16, if_neg hnA, hx, hy, hz]; rfl
    · have hz : signedB c.co = true := by simpa using hz
      unfold checkC
      rw [if_neg h16, if_neg hnA, hx, hy, hz]; rfl
theorem same15_spec (c : ChE) {a b : Option Addr} {n k m j : Nat} {w : World} (hx : Reads w a (strV c.pars)) (hy : Reads w b (strV c.pars)) (hn : c.pars.length = n) (hm : c.pars.length = m) (hl : c.pars.length ≤ 1000000) :
    Calls Tryz.prog F_cartularyref15_Same #[.agg (encC c a n k).toArray, .agg (encC c b m j).toArray] w fun e w' => e = .returned (.bool true) ∧ Fr (fun _ => False) w w' := by
  refine vc_cartularyref15_Same_ok (R := fun v w' => v = .bool true ∧ Fr (fun _ => False) w w') ?_ (fun v w' h => ⟨by rw [h.1], h.2⟩)
  intro w1 hw1
  have f1 : Fr (fun _ => False) w w1 := by rw [hw1]; exact .alloc _ _ _
  have hb1 : w1.heap[w.heap.size]? = some (.cells (encC c a n k).toArray T_api_Change (0, 0)) := by rw [hw1]; exact alloc_new _ _
  clear hw1
  intro w2 hw2
  have f2 : Fr (fun _ => False) w1 w2 := by rw [hw2]; exact .alloc _ _ _
  have hb2 : w2.heap[w1.heap.size]? = some (.cells (encC c b m j).toArray T_api_Change (0, 0)) := by rw [hw2]; exact alloc_new _ _
  clear hw2
  replace hb1 := f2.keep hb1 (by simp)
  have g2 := f1.trans' f2
  refine ⟨c.tree, by rw [cell_blk hb1]; rfl, c.tree, by rw [cell_blk hb2]; rfl, fun _ => ⟨⟨a, n, k⟩, by rw [cell_blk hb1]; rfl, ⟨b, m, j⟩, by rw [cell_blk hb2]; rfl, (same07_spec (hx.keep g2 (by simp)) (hy.keep g2 (by simp)) hn hm (by omega)).mono ?_⟩, fun h => ?_⟩
  · rintro e w8 ⟨⟨r, rfl, hr⟩, d8⟩
    have hrt : r = true := hr.2 rfl
    subst hrt
    have f8 : Fr (fun _ => False) w2 w8 := .drew _ d8
    have hb1 := f8.keep hb1 (by simp)
    have hb2 := f8.keep hb2 (by simp)
    refine ⟨true, rfl, fun _ => ⟨c.au.who, c.au.time, c.au.zone, sign_load (x := c.au) (by rw [cell_blk hb1]; rfl) (by rw [cell_blk hb1]; rfl) (by rw [cell_blk hb1]; rfl), c.au.who, c.au.time, c.au.zone, sign_load (x := c.au) (by rw [cell_blk hb2]; rfl) (by rw [cell_blk hb2]; rfl) (by rw [cell_blk hb2]; rfl), fun _ => ⟨c.co.who, c.co.time, c.co.zone, sign_load (x := c.co) (by rw [cell_blk hb1]; rfl) (by rw [cell_blk hb1]; rfl) (by rw [cell_blk hb1]; rfl), c.co.who, c.co.time, c.co.zone, sign_load (x := c.co) (by rw [cell_blk hb2]; rfl) (by rw [cell_blk hb2]; rfl) (by rw [cell_blk hb2]; rfl), fun _ => ⟨c.msg, by rw [cell_blk hb1]; rfl, c.msg, by rw [cell_blk hb2]; rfl, ?_, g2.trans' f8⟩, fun h => ?_⟩, fun h => ?_⟩, fun h => (by cases h)⟩
    · rw [beq_self_eq_true]
    · simp at h
    · simp at h
  · simp at h
end Go.Proofs.YtllegkmadljmaaaGreatDoor

/- Formulas of 1 Go functions of this seat (written by a program of the author's, vcgen.py), and that each is enough for the call. No condition. -/
set_option linter.unusedVariables false
namespace Go.Proofs.YtllegkmadljmaaaGreatDoor
open Go Vc Go.Proofs
set_option maxRecDepth 100000
def vc_cartularytop_CartularyLabels (x0_0 : ByteArray) (x0_1a : Option Addr) (x0_1n : Nat) (x0_1c : Nat) (x0_2 : ByteArray) (x0_3 : Int) (x0_4 : Int) (x0_5 : ByteArray) (x0_6 : Int) (x0_7 : Int) (x0_8 : ByteArray) (x1 : ByteArray) (x2 : ByteArray) (w : World) (R : Value → World → Prop) : Prop :=
 ∀ w1 : World,
 (w1 = World.alloc w (Obj.cells (Array.mk [Value.string x0_0, Value.slice x0_1a x0_1n x0_1c, Value.string x0_2, Value.int .i64 x0_3, Value.int .i64 x0_4, Value.string x0_5, Value.int .i64 x0_6, Value.int .i64 x0_7, Value.string x0_8]) 26) →
 ∀ w2 : World,
 (w2 = World.alloc w1 (Obj.cells (Array.mk [Value.string (ByteArray.mk (Array.mk [])), Value.int .i64 0, Value.int .i64 0]) 24) →
 ∃ w3 : World, (Sem.run Tryz.prog (storeVar 24 (Addr.mk (Array.size (World.heap w1)) 0 none) (Value.agg (Array.mk [Value.string (ByteArray.mk (Array.mk [97])), Value.int .i64 0, Value.int .i64 0]))) w2 = Result.ok PUnit.unit w3 ∧
 ∃ s4 : ByteArray, ∃ n5 : Int, ∃ n6 : Int, (Sem.run Tryz.prog (loadVar 24 (Addr.mk (Array.size (World.heap w1)) 0 none)) w3 = Result.ok (Value.agg (Array.mk [Value.string s4, Value.int .i64 n5, Value.int .i64 n6])) w3 ∧
 ∃ s7 : ByteArray, ∃ n8 : Int, ∃ n9 : Int, (Sem.run Tryz.prog (loadVar 24 (Addr.mk (Array.size (World.heap w1)) 0 none)) w3 = Result.ok (Value.agg (Array.mk [Value.string s7, Value.int .i64 n8, Value.int .i64 n9])) w3 ∧
 Calls Tryz.prog (4 : Nat) (Array.mk [Value.agg (Array.mk [Value.string (ByteArray.mk (Array.mk [52, 98, 56, 50, 53, 100, 99, 54, 52, 50, 99, 98, 54, 101, 98, 57, 97, 48, 54, 48, 101, 53, 52, 98, 102, 56, 100, 54, 57, 50, 56, 56, 102, 98, 101, 101, 52, 57, 48, 52])), Value.slice none 0 0, Value.string s4, Value.int .i64 n5, Value.int .i64 n6, Value.string s7, Value.int .i64 n8, Value.int .i64 n9, Value.string (ByteArray.mk (Array.mk []))])]) (w3) (fun e10 w11 =>
 ∃ s12 : ByteArray, ∃ n13 : Int, (e10 = Ending.returned (Value.tuple (Array.mk [Value.string s12, Value.int .i64 n13])) ∧
 ((((n13 != 0) = true →
 R (Value.bool false) w11)) ∧
 ((n13 != 0) = false →
 (((((↑(ByteArray.size s12) : Int) != 84) = true →
 R (Value.bool false) w11)) ∧
 (((↑(ByteArray.size s12) : Int) != 84) = false →
 ∃ I14 : World → Prop, ((∃ s15 : ByteArray, (World.cell? w11 (Addr.mk (Array.size (World.heap w)) 8 none) = some (Value.string s15) ∧
 (((decide ((↑(ByteArray.size s15) : Int) > 300) = true →
 ∃ s16 : ByteArray, (World.cell? w11 (Addr.mk (Array.size (World.heap w)) 8 none) = some (Value.string s16) ∧
 (((0 : Int) ≤ (300 : Int) ∧
 300 ≤ (↑(ByteArray.size s16) : Int)) ∧
 (Wr w11 (Addr.mk (Array.size (World.heap w)) 8 none) ∧
 ∀ w17 : World,
 (w17 = World.setCell w11 (Addr.mk (Array.size (World.heap w)) 8 none) (Value.string (ByteArray.extract s16 0 (Int.toNat 300))) →
 I14 w17)))))) ∧
 (decide ((↑(ByteArray.size s15) : Int) > 300) = false →
 I14 w11)))) ∧
 ∀ w18 : World,
 (I14 w18 →
 ∃ I19 : ByteArray → World → Prop, ((((decide ((↑(ByteArray.size x1) : Int) > 300) = true →
 (((0 : Int) ≤ (300 : Int) ∧
 300 ≤ (↑(ByteArray.size x1) : Int)) ∧
 I19 (ByteArray.extract x1 0 (Int.toNat 300)) w18))) ∧
 (decide ((↑(ByteArray.size x1) : Int) > 300) = false →
 I19 x1 w18)) ∧
 ∀ s20 : ByteArray,
 ∀ w21 : World,
 (I19 s20 w21 →
 ∃ s22 : ByteArray, ∃ l23 : Sl, ∃ s24 : ByteArray, ∃ n25 : Int, ∃ n26 : Int, ∃ s27 : ByteArray, ∃ n28 : Int, ∃ n29 : Int, ∃ s30 : ByteArray, (Sem.run Tryz.prog (loadVar 26 (Addr.mk (Array.size (World.heap w)) 0 none)) w21 = Result.ok (Value.agg (Array.mk [Value.string s22, Value.slice l23.1 l23.2 l23.3, Value.string s24, Value.int .i64 n25, Value.int .i64 n26, Value.string s27, Value.int .i64 n28, Value.int .i64 n29, Value.string s30])) w21 ∧
 Calls Tryz.prog (4 : Nat) (Array.mk [Value.agg (Array.mk [Value.string s22, Value.slice l23.1 l23.2 l23.3, Value.string s24, Value.int .i64 n25, Value.int .i64 n26, Value.string s27, Value.int .i64 n28, Value.int .i64 n29, Value.string s30])]) (w21) (fun e31 w32 =>
 ∃ s33 : ByteArray, ∃ n34 : Int, (e31 = Ending.returned (Value.tuple (Array.mk [Value.string s33, Value.int .i64 n34])) ∧
 ((((n34 != 0) = true →
 ∃ s35 : ByteArray, ∃ l36 : Sl, ∃ s37 : ByteArray, ∃ n38 : Int, ∃ n39 : Int, ∃ s40 : ByteArray, ∃ n41 : Int, ∃ n42 : Int, ∃ s43 : ByteArray, (Sem.run Tryz.prog (loadVar 26 (Addr.mk (Array.size (World.heap w)) 0 none)) w32 = Result.ok (Value.agg (Array.mk [Value.string s35, Value.slice l36.1 l36.2 l36.3, Value.string s37, Value.int .i64 n38, Value.int .i64 n39, Value.string s40, Value.int .i64 n41, Value.int .i64 n42, Value.string s43])) w32 ∧
 Calls Tryz.prog (5 : Nat) (Array.mk [Value.agg (Array.mk [Value.string s35, Value.slice l36.1 l36.2 l36.3, Value.string s37, Value.int .i64 n38, Value.int .i64 n39, Value.string s40, Value.int .i64 n41, Value.int .i64 n42, Value.string s43])]) (w32) (fun e44 w45 =>
 ∃ n46 : Int, (e44 = Ending.returned (Value.int .i64 n46) ∧
 R (Value.bool (n46 != 0)) w45))))) ∧
 ((n34 != 0) = false →
 (ByteArray.size (ByteArray.mk (Array.mk [114, 101, 102, 115, 47, 116, 97, 103, 115, 47])) + ByteArray.size x2 ≤ 9223372036854775807 ∧
 Calls Tryz.prog (6 : Nat) (Array.mk [Value.string (ByteArray.mk (Array.mk [114, 101, 102, 115, 47, 116, 97, 103, 115, 47]) ++ x2)]) (w32) (fun e47 w48 =>
 ∃ b49 : Bool, (e47 = Ending.returned (Value.bool b49) ∧
 ((((!b49) = true →
 R (Value.bool true) w48)) ∧
 ((!b49) = false →
 ∀ w50 : World,
 (w50 = World.alloc w48 (Obj.cells (Array.mk [Value.int .i64 0, Value.string (ByteArray.mk (Array.mk []))]) 33) →
 ∃ w51 : World, (Sem.run Tryz.prog (storeVar 33 (Addr.mk (Array.size (World.heap w48)) 0 none) (Value.agg (Array.mk [Value.int .i64 1, Value.string s33]))) w50 = Result.ok PUnit.unit w51 ∧
 ∃ n52 : Int, ∃ s53 : ByteArray, (Sem.run Tryz.prog (loadVar 33 (Addr.mk (Array.size (World.heap w48)) 0 none)) w51 = Result.ok (Value.agg (Array.mk [Value.int .i64 n52, Value.string s53])) w51 ∧
 Calls Tryz.prog (7 : Nat) (Array.mk [Value.agg (Array.mk [Value.int .i64 n52, Value.string s53])]) (w51) (fun e54 w55 =>
 ∃ s56 : ByteArray, ∃ n57 : Int, (e54 = Ending.returned (Value.tuple (Array.mk [Value.string s56, Value.int .i64 n57])) ∧
 ∃ s58 : ByteArray, ∃ n59 : Int, ∃ n60 : Int, (Sem.run Tryz.prog (loadVar 24 (Addr.mk (Array.size (World.heap w)) 5 none)) w55 = Result.ok (Value.agg (Array.mk [Value.string s58, Value.int .i64 n59, Value.int .i64 n60])) w55 ∧
 Calls Tryz.prog (8 : Nat) (Array.mk [Value.agg (Array.mk [Value.string s56, Value.int .i64 1, Value.string (ByteArray.mk (Array.mk [118, 49])), Value.string s58, Value.int .i64 n59, Value.int .i64 n60, Value.string s20])]) (w55) (fun e61 w62 =>
 ∃ s63 : ByteArray, ∃ n64 : Int, (e61 = Ending.returned (Value.tuple (Array.mk [Value.string s63, Value.int .i64 n64])) ∧
 ((((n64 != 0) = true →
 R (Value.bool false) w62)) ∧
 ((n64 != 0) = false →
 ∀ w65 : World,
 (w65 = World.alloc w62 (Obj.cells (Array.mk [Value.int .i64 0, Value.string (ByteArray.mk (Array.mk []))]) 33) →
 ∃ w66 : World, (Sem.run Tryz.prog (storeVar 33 (Addr.mk (Array.size (World.heap w62)) 0 none) (Value.agg (Array.mk [Value.int .i64 4, Value.string s63]))) w65 = Result.ok PUnit.unit w66 ∧
 ∃ n67 : Int, ∃ s68 : ByteArray, (Sem.run Tryz.prog (loadVar 33 (Addr.mk (Array.size (World.heap w62)) 0 none)) w66 = Result.ok (Value.agg (Array.mk [Value.int .i64 n67, Value.string s68])) w66 ∧
 Calls Tryz.prog (7 : Nat) (Array.mk [Value.agg (Array.mk [Value.int .i64 n67, Value.string s68])]) (w66) (fun e69 w70 =>
 ∃ s71 : ByteArray, ∃ n72 : Int, (e69 = Ending.returned (Value.tuple (Array.mk [Value.string s71, Value.int .i64 n72])) ∧
 ((((ByteArray.toList s71 == ByteArray.toList s56) = true →
 R (Value.bool !ByteArray.toList s71 == ByteArray.toList (ByteArray.mk (Array.mk []))) w70)) ∧
 ((ByteArray.toList s71 == ByteArray.toList s56) = false →
 ∃ n73 : Int, ∃ s74 : ByteArray, (Sem.run Tryz.prog (loadVar 33 (Addr.mk (Array.size (World.heap w48)) 0 none)) w70 = Result.ok (Value.agg (Array.mk [Value.int .i64 n73, Value.string s74])) w70 ∧
 Calls Tryz.prog (9 : Nat) (Array.mk [Value.agg (Array.mk [Value.int .i64 n73, Value.string s74])]) (w70) (fun e75 w76 =>
 ∃ s77 : ByteArray, ∃ s78 : ByteArray, ∃ n79 : Int, (e75 = Ending.returned (Value.tuple (Array.mk [Value.agg (Array.mk [Value.string s77, Value.string s78]), Value.int .i64 n79])) ∧
 ∀ w80 : World,
 (w80 = World.alloc w76 (Obj.cells (Array.mk [Value.string (ByteArray.mk (Array.mk [])), Value.string (ByteArray.mk (Array.mk []))]) 39) →
 ∃ w81 : World, (Sem.run Tryz.prog (storeVar 39 (Addr.mk (Array.size (World.heap w76)) 0 none) (Value.agg (Array.mk [Value.string s77, Value.string s78]))) w80 = Result.ok PUnit.unit w81 ∧
 ∃ n82 : Int, ∃ s83 : ByteArray, (Sem.run Tryz.prog (loadVar 33 (Addr.mk (Array.size (World.heap w62)) 0 none)) w81 = Result.ok (Value.agg (Array.mk [Value.int .i64 n82, Value.string s83])) w81 ∧
 Calls Tryz.prog (9 : Nat) (Array.mk [Value.agg (Array.mk [Value.int .i64 n82, Value.string s83])]) (w81) (fun e84 w85 =>
 ∃ s86 : ByteArray, ∃ s87 : ByteArray, ∃ n88 : Int, (e84 = Ending.returned (Value.tuple (Array.mk [Value.agg (Array.mk [Value.string s86, Value.string s87]), Value.int .i64 n88])) ∧
 ∀ w89 : World,
 (w89 = World.alloc w85 (Obj.cells (Array.mk [Value.string (ByteArray.mk (Array.mk [])), Value.string (ByteArray.mk (Array.mk []))]) 39) →
 ∃ w90 : World, (Sem.run Tryz.prog (storeVar 39 (Addr.mk (Array.size (World.heap w85)) 0 none) (Value.agg (Array.mk [Value.string s86, Value.string s87]))) w89 = Result.ok PUnit.unit w90 ∧
 ∃ I91 : Int → World → Prop, ∃ I92 : Int → World → Nat, (I91 0 w90 ∧
 ∀ n93 : Int,
 ∀ w94 : World,
 (I91 n93 w94 →
 (((decide (n93 < 3) = true →
 ∃ s95 : ByteArray, ∃ s96 : ByteArray, (Sem.run Tryz.prog (loadVar 39 (Addr.mk (Array.size (World.heap w76)) 0 none)) w94 = Result.ok (Value.agg (Array.mk [Value.string s95, Value.string s96])) w94 ∧
 ∃ s97 : ByteArray, ∃ s98 : ByteArray, (Sem.run Tryz.prog (loadVar 39 (Addr.mk (Array.size (World.heap w85)) 0 none)) w94 = Result.ok (Value.agg (Array.mk [Value.string s97, Value.string s98])) w94 ∧
 ∀ w99 : World,
 (w99 = World.alloc w94 (Obj.cells (Array.mk [Value.string s95, Value.string s96, Value.string s97, Value.string s98]) 39) →
 ∃ I100 : Sl → World → Prop, (((((n93 != 1) = true →
 (ByteArray.size s71 + ByteArray.size (ByteArray.mk (Array.mk [10])) ≤ 9223372036854775807 ∧
 ∀ w101 : World,
 (w101 = World.alloc w99 (Obj.cells (Array.mk [Value.string (ByteArray.mk (Array.mk [114, 101, 102, 115, 47, 116, 97, 103, 115, 47]) ++ x2), Value.string (s71 ++ ByteArray.mk (Array.mk [10]))]) 39) →
 ∃ w102 : World, ∃ l103 : Sl, (Sem.run Tryz.prog (Builtin.append_ (Array.mk [42, 42]) 42 (Array.mk [Value.slice (some (Addr.mk (Array.size (World.heap w94)) 0 none)) 2 2, Value.slice (some (Addr.mk (Array.size (World.heap w99)) 0 none)) 1 1])) w101 = Result.ok (Value.slice l103.1 l103.2 l103.3) w102 ∧
 I100 (Sl.mk l103.1 l103.2 l103.3) w102))))) ∧
 ((n93 != 1) = false →
 I100 (Sl.mk (some (Addr.mk (Array.size (World.heap w94)) 0 none)) 2 2) w99)) ∧
 ∀ l104 : Sl,
 ∀ w105 : World,
 (I100 l104 w105 →
 ∃ I106 : Sl → World → Prop, ((((decide (n93 > 0) = true →
 ∀ w107 : World,
 (w107 = World.alloc w105 (Obj.cells (Array.mk [Value.string s71, Value.string s71, Value.string s56]) 9) →
 ((0 ≤ n93 ∧
 n93 < (↑3 : Int)) ∧
 ∃ a108 : Addr, (some (Addr.mk (Array.size (World.heap w105)) 0 none) = some a108 ∧
 ∃ s109 : ByteArray, (World.cell? w107 (Addr.add a108 (Int.toNat n93 * 1)) = some (Value.string s109) ∧
 (ByteArray.size s109 + ByteArray.size (ByteArray.mk (Array.mk [32])) ≤ 9223372036854775807 ∧
 (ByteArray.size (s109 ++ ByteArray.mk (Array.mk [32])) + ByteArray.size (ByteArray.mk (Array.mk [114, 101, 102, 115, 47, 116, 97, 103, 115, 47]) ++ x2) ≤ 9223372036854775807 ∧
 (ByteArray.size (s109 ++ ByteArray.mk (Array.mk [32]) ++ (ByteArray.mk (Array.mk [114, 101, 102, 115, 47, 116, 97, 103, 115, 47]) ++ x2)) + ByteArray.size (ByteArray.mk (Array.mk [10])) ≤ 9223372036854775807 ∧
 ∀ w110 : World,
 (w110 = World.alloc w107 (Obj.cells (Array.mk [Value.string (ByteArray.mk (Array.mk [112, 97, 99, 107, 101, 100, 45, 114, 101, 102, 115])), Value.string (s109 ++ ByteArray.mk (Array.mk [32]) ++ (ByteArray.mk (Array.mk [114, 101, 102, 115, 47, 116, 97, 103, 115, 47]) ++ x2) ++ ByteArray.mk (Array.mk [10]))]) 39) →
 ∃ w111 : World, ∃ l112 : Sl, (Sem.run Tryz.prog (Builtin.append_ (Array.mk [42, 42]) 42 (Array.mk [Value.slice l104.1 l104.2 l104.3, Value.slice (some (Addr.mk (Array.size (World.heap w107)) 0 none)) 1 1])) w110 = Result.ok (Value.slice l112.1 l112.2 l112.3) w111 ∧
 I106 (Sl.mk l112.1 l112.2 l112.3) w111))))))))))) ∧
 (decide (n93 > 0) = false →
 I106 (Sl.mk l104.1 l104.2 l104.3) w105)) ∧
 ∀ l113 : Sl,
 ∀ w114 : World,
 (I106 l113 w114 →
 Calls Tryz.prog (10 : Nat) (Array.mk [Value.slice l113.1 l113.2 l113.3]) (w114) (fun e115 w116 =>
 ∃ p117 : Option Addr, ∃ n118 : Int, (e115 = Ending.returned (Value.tuple (Array.mk [Value.pointer p117, Value.int .i64 n118])) ∧
 ((((n118 != 0) = true →
 R (Value.bool false) w116)) ∧
 ((n118 != 0) = false →
 (((Option.isNone p117 = true →
 R (Value.bool false) w116)) ∧
 (Option.isNone p117 = false →
 Calls Tryz.prog (11 : Nat) (Array.mk [Value.pointer p117]) (w116) (fun e119 w120 =>
 ∃ p121 : Option Addr, ∃ n122 : Int, (e119 = Ending.returned (Value.tuple (Array.mk [Value.pointer p121, Value.int .i64 n122])) ∧
 Calls Tryz.prog (12 : Nat) (Array.mk [Value.pointer p117]) (w120) (fun e123 w124 =>
 ∃ p125 : Option Addr, ∃ n126 : Int, (e123 = Ending.returned (Value.tuple (Array.mk [Value.pointer p125, Value.int .i64 n126])) ∧
 ((((n122 != 0) = true →
 R (Value.bool false) w124)) ∧
 ((n122 != 0) = false →
 ((((n126 != 0) = true →
 R (Value.bool false) w124)) ∧
 ((n126 != 0) = false →
 (((Option.isNone p121 = true →
 R (Value.bool false) w124)) ∧
 (Option.isNone p121 = false →
 (((Option.isNone p125 = true →
 R (Value.bool false) w124)) ∧
 (Option.isNone p125 = false →
 Calls Tryz.prog (13 : Nat) (Array.mk [Value.pointer p125, Value.string (ByteArray.mk (Array.mk [114, 101, 102, 115, 47, 116, 97, 103, 115, 47]) ++ x2)]) (w124) (fun e127 w128 =>
 ∃ s129 : ByteArray, ∃ n130 : Int, (e127 = Ending.returned (Value.tuple (Array.mk [Value.string s129, Value.int .i64 n130])) ∧
 Calls Tryz.prog (14 : Nat) (Array.mk [Value.pointer p121, Value.string s129, Value.int .i64 4]) (w128) (fun e131 w132 =>
 ∃ s133 : ByteArray, ∃ n134 : Int, (e131 = Ending.returned (Value.tuple (Array.mk [Value.string s133, Value.int .i64 n134])) ∧
 Calls Tryz.prog (15 : Nat) (Array.mk [Value.string s133]) (w132) (fun e135 w136 =>
 ∃ s137 : ByteArray, ∃ n138 : Int, ∃ s139 : ByteArray, ∃ s140 : ByteArray, ∃ n141 : Int, ∃ n142 : Int, ∃ s143 : ByteArray, ∃ n144 : Int, (e135 = Ending.returned (Value.tuple (Array.mk [Value.agg (Array.mk [Value.string s137, Value.int .i64 n138, Value.string s139, Value.string s140, Value.int .i64 n141, Value.int .i64 n142, Value.string s143]), Value.int .i64 n144])) ∧
 ∀ w145 : World,
 (w145 = World.alloc w136 (Obj.cells (Array.mk [Value.string (ByteArray.mk (Array.mk [])), Value.int .i64 0, Value.string (ByteArray.mk (Array.mk [])), Value.string (ByteArray.mk (Array.mk [])), Value.int .i64 0, Value.int .i64 0, Value.string (ByteArray.mk (Array.mk []))]) 37) →
 ∃ w146 : World, (Sem.run Tryz.prog (storeVar 37 (Addr.mk (Array.size (World.heap w136)) 0 none) (Value.agg (Array.mk [Value.string s137, Value.int .i64 n138, Value.string s139, Value.string s140, Value.int .i64 n141, Value.int .i64 n142, Value.string s143]))) w145 = Result.ok PUnit.unit w146 ∧
 ∃ s147 : ByteArray, (World.cell? w146 (Addr.mk (Array.size (World.heap w136)) 0 none) = some (Value.string s147) ∧
 Calls Tryz.prog (14 : Nat) (Array.mk [Value.pointer p121, Value.string s147, Value.int .i64 1]) (w146) (fun e148 w149 =>
 ∃ s150 : ByteArray, ∃ n151 : Int, (e148 = Ending.returned (Value.tuple (Array.mk [Value.string s150, Value.int .i64 n151])) ∧
 Calls Tryz.prog (16 : Nat) (Array.mk [Value.string s150]) (w149) (fun e152 w153 =>
 ∃ s154 : ByteArray, ∃ l155 : Sl, ∃ s156 : ByteArray, ∃ n157 : Int, ∃ n158 : Int, ∃ s159 : ByteArray, ∃ n160 : Int, ∃ n161 : Int, ∃ s162 : ByteArray, ∃ n163 : Int, (e152 = Ending.returned (Value.tuple (Array.mk [Value.agg (Array.mk [Value.string s154, Value.slice l155.1 l155.2 l155.3, Value.string s156, Value.int .i64 n157, Value.int .i64 n158, Value.string s159, Value.int .i64 n160, Value.int .i64 n161, Value.string s162]), Value.int .i64 n163])) ∧
 ∀ w164 : World,
 (w164 = World.alloc w153 (Obj.cells (Array.mk [Value.string (ByteArray.mk (Array.mk [])), Value.slice none 0 0, Value.string (ByteArray.mk (Array.mk [])), Value.int .i64 0, Value.int .i64 0, Value.string (ByteArray.mk (Array.mk [])), Value.int .i64 0, Value.int .i64 0, Value.string (ByteArray.mk (Array.mk []))]) 26) →
 ∃ w165 : World, (Sem.run Tryz.prog (storeVar 26 (Addr.mk (Array.size (World.heap w153)) 0 none) (Value.agg (Array.mk [Value.string s154, Value.slice l155.1 l155.2 l155.3, Value.string s156, Value.int .i64 n157, Value.int .i64 n158, Value.string s159, Value.int .i64 n160, Value.int .i64 n161, Value.string s162]))) w164 = Result.ok PUnit.unit w165 ∧
 ((((!ByteArray.toList s129 == ByteArray.toList s71) = true →
 R (Value.bool false) w165)) ∧
 ((!ByteArray.toList s129 == ByteArray.toList s71) = false →
 ((((n130 != 0) = true →
 R (Value.bool false) w165)) ∧
 ((n130 != 0) = false →
 ((((n134 != 0) = true →
 R (Value.bool false) w165)) ∧
 ((n134 != 0) = false →
 ((((n144 != 0) = true →
 R (Value.bool false) w165)) ∧
 ((n144 != 0) = false →
 ((((n151 != 0) = true →
 R (Value.bool false) w165)) ∧
 ((n151 != 0) = false →
 ((((n163 != 0) = true →
 R (Value.bool false) w165)) ∧
 ((n163 != 0) = false →
 ∃ s166 : ByteArray, (World.cell? w165 (Addr.mk (Array.size (World.heap w136)) 6 none) = some (Value.string s166) ∧
 ((((!ByteArray.toList s166 == ByteArray.toList s20) = true →
 R (Value.bool false) w165)) ∧
 ((!ByteArray.toList s166 == ByteArray.toList s20) = false →
 ∃ s167 : ByteArray, ∃ l168 : Sl, ∃ s169 : ByteArray, ∃ n170 : Int, ∃ n171 : Int, ∃ s172 : ByteArray, ∃ n173 : Int, ∃ n174 : Int, ∃ s175 : ByteArray, (Sem.run Tryz.prog (loadVar 26 (Addr.mk (Array.size (World.heap w153)) 0 none)) w165 = Result.ok (Value.agg (Array.mk [Value.string s167, Value.slice l168.1 l168.2 l168.3, Value.string s169, Value.int .i64 n170, Value.int .i64 n171, Value.string s172, Value.int .i64 n173, Value.int .i64 n174, Value.string s175])) w165 ∧
 ∃ s176 : ByteArray, ∃ l177 : Sl, ∃ s178 : ByteArray, ∃ n179 : Int, ∃ n180 : Int, ∃ s181 : ByteArray, ∃ n182 : Int, ∃ n183 : Int, ∃ s184 : ByteArray, (Sem.run Tryz.prog (loadVar 26 (Addr.mk (Array.size (World.heap w)) 0 none)) w165 = Result.ok (Value.agg (Array.mk [Value.string s176, Value.slice l177.1 l177.2 l177.3, Value.string s178, Value.int .i64 n179, Value.int .i64 n180, Value.string s181, Value.int .i64 n182, Value.int .i64 n183, Value.string s184])) w165 ∧
 Calls Tryz.prog (17 : Nat) (Array.mk [Value.agg (Array.mk [Value.string s167, Value.slice l168.1 l168.2 l168.3, Value.string s169, Value.int .i64 n170, Value.int .i64 n171, Value.string s172, Value.int .i64 n173, Value.int .i64 n174, Value.string s175]), Value.agg (Array.mk [Value.string s176, Value.slice l177.1 l177.2 l177.3, Value.string s178, Value.int .i64 n179, Value.int .i64 n180, Value.string s181, Value.int .i64 n182, Value.int .i64 n183, Value.string s184])]) (w165) (fun e185 w186 =>
 ∃ b187 : Bool, (e185 = Ending.returned (Value.bool b187) ∧
 ((((!b187) = true →
 R (Value.bool false) w186)) ∧
 ((!b187) = false →
 (I91 (IntKind.wrap .i64 (n93 + 1)) w186 ∧
 I92 (IntKind.wrap .i64 (n93 + 1)) w186 < I92 n93 w94)))))))))))))))))))))))))))))))))))))))))))))))))))))))))))))))) ∧
 (decide (n93 < 3) = false →
 R (Value.bool true) w94))))))))))))))))))))))))))))))))))))))))))))))))))))))))
theorem vc_cartularytop_CartularyLabels_ok {x0_0 : ByteArray} {x0_1a : Option Addr} {x0_1n : Nat} {x0_1c : Nat} {x0_2 : ByteArray} {x0_3 : Int} {x0_4 : Int} {x0_5 : ByteArray} {x0_6 : Int} {x0_7 : Int} {x0_8 : ByteArray} {x1 : ByteArray} {x2 : ByteArray} {w : World} {R : Value → World → Prop} {R' : Ending → World → Prop} (h : vc_cartularytop_CartularyLabels x0_0 x0_1a x0_1n x0_1c x0_2 x0_3 x0_4 x0_5 x0_6 x0_7 x0_8 x1 x2 w R) (hR : ∀ v w', R v w' → R' (.returned v) w') :
    Calls Tryz.prog 3 #[.agg #[.string x0_0, .slice x0_1a x0_1n x0_1c, .string x0_2, .int .i64 x0_3, .int .i64 x0_4, .string x0_5, .int .i64 x0_6, .int .i64 x0_7, .string x0_8], .string x1, .string x2] w R' :=
  calls_of_body (vs := [(.agg #[.string x0_0, .slice x0_1a x0_1n x0_1c, .string x0_2, .int .i64 x0_3, .int .i64 x0_4, .string x0_5, .int .i64 x0_6, .int .i64 x0_7, .string x0_8], false), (.string x1, false), (.string x2, false)]) (ty := ty) (ann := ⟨[(8, []), (10, [(1, .str)]), (33, [(25, .slice)]), (35, [(25, .slice)])], [(28, [(24, .int .i64)])], [], []⟩) (c := Tryz.f3.body.getD .skip) (by kernel_rfl) Tryz.func3 (by kernel_rfl) (by kernel_rfl) (Eq.mp (by kernel_rfl) h) hR
end Go.Proofs.YtllegkmadljmaaaGreatDoor

/- The law CartularyLabels walked. Conditions: Itoa's table is as laid, the library's variable holds some number. -/
set_option linter.unusedVariables false
namespace Go.Proofs.YtllegkmadljmaaaGreatDoor
open Go Vc HexM ShaM Go.Proofs

theorem own_litF (w : World) (xs : List FileE) (n : Nat) (hn : xs.length = n) (hm : n ≤ 1000) {w1 : World} (hw : w1 = w.alloc (.cells (xs.flatMap encF).toArray T_api_File)) : OwnK encF 2 w1 w.heap.size T_api_File ⟨some ⟨w.heap.size, 0, none⟩, n, n⟩ xs := by
  have hl : (xs.flatMap encF).length = n * 2 := by rw [flat_len (k := 2) (fun _ => rfl), hn]
  refine ⟨hn, hl, .inr ⟨w.heap.size, n, (xs.flatMap encF).toArray, rfl, Nat.le_refl _, by rw [hw]; exact alloc_new _ _, Nat.le_refl _, by show n ≤ maxLen; unfold maxLen; omega, by simpa using hl, ?_⟩⟩
  show List.take (n * 2) (xs.flatMap encF) = _
  rw [← hl, List.take_length]
def cutM (s : ByteArray) : ByteArray := if 300 < s.size then s.extract 0 300 else s
theorem cutM_size (s : ByteArray) : (cutM s).size ≤ 300 := by
  unfold cutM
  split
  · rw [ByteArray.size_extract]; omega
  · omega
def whoA : SgE := ⟨⟨#[97]⟩, 0, 0⟩
def firstC : ChE := ⟨⟨#[52, 98, 56, 50, 53, 100, 99, 54, 52, 50, 99, 98, 54, 101, 98, 57, 97, 48, 54, 48, 101, 53, 52, 98, 102, 56, 100, 54, 57, 50, 56, 56, 102, 98, 101, 101, 52, 57, 48, 52]⟩, [], whoA, whoA, ⟨#[]⟩⟩
theorem whoA_ok : signedB whoA = true := by decide +kernel
theorem firstC_ok : checkC firstC = 0 := (checkC_iff _).2 ⟨by decide, fun p hp => (by cases hp), by decide +kernel, whoA_ok, whoA_ok⟩
theorem whoA_len : (signL whoA).length = 9 := by
  have h1 : (dec3 0).length = 1 := by
    have h1 := dec_len 0 0 (by decide)
    have h2 := dec_ne 0
    unfold dec3
    cases hl : Lib.decDigits 0 with
    | nil => exact absurd hl h2
    | cons c r => rw [hl] at h1; simp only [List.length_cons] at h1 ⊢; omega
  unfold signL
  rw [List.length_append, List.length_cons, List.length_append, List.length_cons, zoneL_len _ (by decide) (by decide), show whoA.time.toNat = 0 from rfl, h1]; rfl
theorem firstC_len : (fmtC firstC).size = 84 := by
  unfold fmtC
  rw [bs_mksize]
  show (lineL wTree firstC.tree.data.toList ([].flatMap parL ++ lineL wAuthor (signL whoA) (lineL wCommitter (signL whoA) [10]))).length = 84
  rw [lineL_len, List.flatMap_nil, List.nil_append, lineL_len, lineL_len, whoA_len]; rfl
theorem fmtC_size {c : ChE} (h0 : checkC c = 0) (hm : c.msg.size ≤ 300) : (fmtC c).size ≤ 65000 := by
  obtain ⟨k1, k2, k3, k4, k5⟩ := (checkC_iff c).1 h0
  have a1 := (signL_no k4).2
  have a2 := (signL_no k5).2
  unfold fmtC
  rw [bs_mksize]
  unfold fmtL
  rw [lineL_len, List.length_append, pars_len _ k2, lineL_len, lineL_len, List.length_cons, bs_len, bs_len, isId_len k3, show wTree.length = 4 from rfl, show wAuthor.length = 6 from rfl, show wCommitter.length = 9 from rfl]
  omega
theorem fmtT_size {t : TgE} (hobj : isId t.obj.data.toList = true) (hk : isKind t.kind) (hl : lineB t.name = true) (hg : signedB t.tg = true) (hm : t.msg.size ≤ 300) : (fmtT t).size ≤ 65000 := by
  have a1 := (signL_no hg).2
  obtain ⟨kn1, kn2, kn3, kn4⟩ := kname_ok hk
  obtain ⟨_, l2, _, _⟩ := (lineB_iff _).1 hl
  unfold fmtT
  rw [bs_mksize]
  unfold tagL
  rw [lineL_len, lineL_len, lineL_len, lineL_len, List.length_cons, bs_len, bs_len, bs_len, bs_len, isId_len hobj, show wObject.length = 6 from rfl, show wType.length = 4 from rfl, show wTag.length = 3 from rfl, show wTagger.length = 6 from rfl]
  omega
def tagS : ByteArray := ⟨#[114, 101, 102, 115, 47, 116, 97, 103, 115, 47]⟩
def v1S : ByteArray := ⟨#[118, 49]⟩
theorem v1_ok : lineB v1S = true := by decide +kernel
theorem labF_tot {fa fb N P : FileE} (n p : Bool) : totalF (labF fa fb N P n p) ≤ fa.data.size + fb.data.size + N.data.size + P.data.size := by
  cases n <;> cases p <;> simp [labF, totalF] <;> omega
set_option maxHeartbeats 4000000 in
theorem labels_walk {a : Option Addr} {n k : Nat} {W : World} (c0 : ChE) (hr : Reads W a (strV c0.pars)) (hn : c0.pars.length = n) (hp : ∀ p ∈ c0.pars, p.size ≤ 140737488355328) (htr : c0.tree.size ≤ 140737488355328) (note name : ByteArray) (hname : name.size ≤ 140737488355300)
    (h10 : Tab10 W) (hml : MaxL W) : Calls Tryz.prog F_cartularytop_CartularyLabels #[.agg (encC c0 a n k).toArray, .string note, .string name] W fun e w' => e = .returned (.bool true) ∧ RowKit.Below W.heap.size W w' := by
  refine vc_cartularytop_CartularyLabels_ok (R := fun v w' => v = .bool true ∧ Fr (fun _ => False) W w') ?_ (fun v w' h => ⟨by rw [h.1], (h.2.mono fun _ _ h => h.elim : Fr (fun k => W.heap.size ≤ k) W w').below (Nat.le_refl _)⟩)
  obtain ⟨A, hA⟩ : ∃ A, A = W.heap.size := ⟨_, rfl⟩
  intro w1 hw1
  have f1 : Fr (fun _ => False) W w1 := by rw [hw1]; exact .alloc _ _ _
  have hb1 : w1.heap[A]? = some (.cells (encC c0 a n k).toArray T_api_Change (0, 0)) := by rw [hw1, hA]; exact alloc_new _ _
  clear hw1
  intro w2 hw2
  have f2 : Fr (fun _ => False) w1 w2 := by rw [hw2]; exact .alloc _ _ _
  have hb2 : w2.heap[w1.heap.size]? = some (.cells #[.string ⟨#[]⟩, .int .i64 0, .int .i64 0] T_api_Sign (0, 0)) := by rw [hw2]; exact alloc_new _ _
  clear hw2
  have hlt1 := lt_blk hb1
  obtain ⟨w3, hr3, hb3, f3⟩ := boxG_store hb2 rfl whoA
  have g12_3 : Fr (fun _ => False) w1 w3 := f2.trans f3 fun q hq e => by omega
  have bA3 := g12_3.keep hb1 (by simp)
  have g3 := f1.trans' g12_3
  rw [← hA]
  refine ⟨w3, hr3, _, _, _, boxG_load hb3, _, _, _, boxG_load hb3, (format_spec firstC (a := none) (n := 0) (k := 0) (Reads.nil _ _) rfl (fun p hp => by cases hp) (by decide) (by decide) (h10.keep g3)).mono ?_⟩
  rintro e w11 ⟨rfl, f11⟩
  rw [firstC_ok, if_pos rfl]
  have bA11 := f11.keep bA3 (by simp)
  have g11 := g3.trans' f11
  refine ⟨_, 0, rfl, fun h => (by cases h), fun _ => ⟨fun h => ?_, fun _ => ?_⟩⟩
  · rw [firstC_len] at h
    simp at h
  obtain ⟨c, hc⟩ : ∃ c : ChE, c = ⟨c0.tree, c0.pars, c0.au, c0.co, cutM c0.msg⟩ := ⟨_, rfl⟩
  have hcp : c.pars = c0.pars := by rw [hc]
  have hct : c.tree = c0.tree := by rw [hc]
  have hcm : c.msg.size ≤ 300 := by rw [hc]; exact cutM_size _
  refine ⟨fun w' => w'.heap[A]? = some (.cells (encC c a n k).toArray T_api_Change (0, 0)) ∧ Fr (fun _ => False) W w', ⟨c0.msg, by rw [cell_blk bA11]; rfl, fun h => ?_, fun h => ?_⟩, ?_⟩
  · have h := of_decide_eq_true h
    refine ⟨c0.msg, by rw [cell_blk bA11]; rfl, ⟨by decide, by omega⟩, wr_blk bA11 (by simp [encC]), fun w17 hw17 => ?_⟩
    rw [hw17]
    refine ⟨?_, g11.trans (Fr.set (· = A) _ (a := ⟨A, 8, none⟩) _ rfl) fun q hq e => by omega⟩
    have : c.msg = c0.msg.extract 0 300 := by rw [hc]; show cutM c0.msg = _; unfold cutM; rw [if_pos (by omega)]
    rw [set_blk bA11, show Int.toNat 300 = 300 from rfl, ← this, hc]; rfl
  · have h := of_decide_eq_false h
    have : c.msg = c0.msg := by rw [hc]; show cutM c0.msg = _; unfold cutM; rw [if_neg (by omega)]
    refine ⟨?_, g11⟩
    rw [bA11, hc] at *
    rw [show (encC ⟨c0.tree, c0.pars, c0.au, c0.co, cutM c0.msg⟩ a n k) = encC c0 a n k from by unfold encC; dsimp only at this ⊢; rw [this]]
  rintro w18 ⟨bA18, g18⟩
  obtain ⟨nt, hnt⟩ : ∃ nt, nt = cutM note := ⟨_, rfl⟩
  have hntz : nt.size ≤ 300 := by rw [hnt]; exact cutM_size _
  refine ⟨fun s w' => s = nt ∧ w' = w18, ⟨fun h => ?_, fun h => ?_⟩, ?_⟩
  · have h := of_decide_eq_true h
    refine ⟨⟨by decide, by omega⟩, ?_, rfl⟩
    rw [hnt]; unfold cutM; rw [if_pos (by omega)]; rfl
  · have h := of_decide_eq_false h
    refine ⟨?_, rfl⟩
    rw [hnt]; unfold cutM; rw [if_neg (by omega)]
  rintro s20 w21 ⟨hs, hw⟩
  obtain rfl : nt = s20 := hs.symm
  replace hw := hw.symm
  subst hw
  have hrc : ∀ {w'}, Fr (fun _ => False) W w' → Reads w' a (strV c.pars) := fun f => by rw [hcp]; exact hr.keep f (by simp)
  have hnc : c.pars.length = n := by rw [hcp, hn]
  have hpc : ∀ p ∈ c.pars, p.size ≤ 140737488355328 := by rw [hcp]; exact hp
  have htc : c.tree.size ≤ 140737488355328 := by rw [hct]; exact htr
  refine ⟨_, ⟨a, n, k⟩, _, _, _, _, _, _, _, boxC_load bA18, (format_spec c (hrc g18) hnc hpc htc (by omega) (h10.keep g18)).mono ?_⟩
  rintro e w32 ⟨rfl, f32⟩
  have bA32 := f32.keep bA18 (by simp)
  have g32 := g18.trans' f32
  refine ⟨_, _, rfl, fun h => ?_, fun h => ?_⟩
  · refine ⟨_, ⟨a, n, k⟩, _, _, _, _, _, _, _, boxC_load bA32, (rcheck15_spec c (hrc g32) hnc hpc htc).mono ?_⟩
    rintro e w45 ⟨rfl, f45⟩
    exact ⟨_, rfl, by rw [h], g32.trans' f45⟩
  rw [checkC_ne] at h
  have h0 : checkC c = 0 := by have := of_decide_eq_false h; omega
  clear h
  rw [if_pos h0]
  obtain ⟨k1, k2, k3, k4, k5⟩ := (checkC_iff c).1 h0
  have hSz := fmtC_size h0 hcm
  have hTz : tagS.size = 10 := rfl
  obtain ⟨nm, hnm⟩ : ∃ nm, nm = tagS ++ name := ⟨_, rfl⟩
  have hnms : nm.size = 10 + name.size := by rw [hnm, ByteArray.size_append, hTz]
  refine ⟨by rw [show ByteArray.size ⟨#[114, 101, 102, 115, 47, 116, 97, 103, 115, 47]⟩ = 10 from rfl]; omega, ?_⟩
  rw [show (⟨#[114, 101, 102, 115, 47, 116, 97, 103, 115, 47]⟩ : ByteArray) ++ name = nm from hnm.symm]
  refine (name_spec nm (by omega) (hml.keep g32)).mono ?_
  rintro e w48 ⟨rfl, f48⟩
  have bA48 := f48.keep bA32 (by simp)
  have g48 := g32.trans' f48
  refine ⟨_, rfl, fun _ => ⟨rfl, g48⟩, fun hb w50 hw50 => ?_⟩
  have hnb : nameB nm = true := by simpa using hb
  have hTN : TagN nm := ⟨hnb, by rw [hnm, bs_app]; exact ⟨_, rfl⟩⟩
  have f50 : Fr (fun _ => False) w48 w50 := by rw [hw50]; exact .alloc _ _ _
  have hb50 : w50.heap[w48.heap.size]? = some (.cells #[.int .i64 0, .string ⟨#[]⟩] T_api_Object (0, 0)) := by rw [hw50]; exact alloc_new _ _
  clear hw50
  obtain ⟨w51, hr51, hb51, f51⟩ := boxO_store hb50 rfl 1 (fmtC c)
  have hlt48 := lt_blk bA48
  generalize hO : w48.heap.size = O at hb50 hb51 f51 hr51 hlt48 ⊢
  have f48_51 : Fr (fun _ => False) w48 w51 := f50.trans f51 fun q hq e => by omega
  have bA51 := f48_51.keep bA48 (by simp)
  have g51 := g48.trans' f48_51
  refine ⟨w51, hr51, _, _, boxO_load hb51, (oid_spec 1 (fmtC c) hSz (h10.keep g51)).mono ?_⟩
  have kk1 : isKind 1 := .inl rfl
  have kk4 : isKind 4 := .inr (.inr (.inr rfl))
  rintro e w55 ⟨⟨_, rfl⟩ | ⟨hno, rfl⟩, f55⟩
  rotate_left
  · exact absurd kk1 hno
  obtain ⟨T, hT⟩ : ∃ T, T = idS 1 (fmtC c) := ⟨_, rfl⟩
  rw [← hT]
  have iT : isId T.data.toList = true := by rw [hT]; exact idO _ _
  have bA55 := f55.keep bA51 (by simp)
  have hb55 := f55.keep hb51 (by simp)
  have g55 := g51.trans' f55
  obtain ⟨t, ht⟩ : ∃ t : TgE, t = ⟨T, 1, v1S, c.co, nt⟩ := ⟨_, rfl⟩
  have to : isId t.obj.data.toList = true := by rw [ht]; exact iT
  have tk : isKind t.kind := by rw [ht]; exact kk1
  have tl : lineB t.name = true := by rw [ht]; exact v1_ok
  have tg : signedB t.tg = true := by rw [ht]; exact k5
  have tm : t.msg.size ≤ 300 := by rw [ht]; exact hntz
  have hUz := fmtT_size to tk tl tg tm
  have q := formatTag_spec t (checkT_ok t to tk tl tg) to tk tl tg (by omega) (w := w55) (h10.keep g55)
  have hencL : (encL t).toArray = #[.string T, .int .i64 1, .string v1S, .string c.co.who, .int .i64 c.co.time, .int .i64 c.co.zone, .string nt] := by rw [ht]; rfl
  rw [hencL] at q
  refine ⟨_, _, rfl, c.co.who, c.co.time, c.co.zone, sign_load (x := c.co) (by rw [cell_blk bA55]; rfl) (by rw [cell_blk bA55]; rfl) (by rw [cell_blk bA55]; rfl), q.mono ?_⟩
  rintro e w62 ⟨rfl, f62⟩
  obtain ⟨U, hU⟩ : ∃ U, U = fmtT t := ⟨_, rfl⟩
  rw [← hU] at hUz ⊢
  have bA62 := f62.keep bA55 (by simp)
  have hb62 := f62.keep hb55 (by simp)
  have g62 := g55.trans' f62
  refine ⟨_, _, rfl, fun h => (by cases h), fun _ w65 hw65 => ?_⟩
  have f65 : Fr (fun _ => False) w62 w65 := by rw [hw65]; exact .alloc _ _ _
  have hb65 : w65.heap[w62.heap.size]? = some (.cells #[.int .i64 0, .string ⟨#[]⟩] T_api_Object (0, 0)) := by rw [hw65]; exact alloc_new _ _
  clear hw65
  obtain ⟨w66, hr66, hbX66, f66⟩ := boxO_store hb65 rfl 4 U
  have hlt62 := lt_blk hb62
  generalize hX : w62.heap.size = X at hb65 hbX66 f66 hr66 hlt62 ⊢
  have f62_66 : Fr (fun _ => False) w62 w66 := f65.trans f66 fun q hq e => by omega
  have bA66 := f62_66.keep bA62 (by simp)
  have hb66 := f62_66.keep hb62 (by simp)
  have g66 := g62.trans' f62_66
  refine ⟨w66, hr66, _, _, boxO_load hbX66, (oid_spec 4 U hUz (h10.keep g66)).mono ?_⟩
  rintro e w70 ⟨⟨_, rfl⟩ | ⟨hno, rfl⟩, f70⟩
  rotate_left
  · exact absurd kk4 hno
  obtain ⟨L, hL⟩ : ∃ L, L = idS 4 U := ⟨_, rfl⟩
  rw [← hL]
  have iL : isId L.data.toList = true := by rw [hL]; exact idO _ _
  have bA70 := f70.keep bA66 (by simp)
  have hb70 := f70.keep hb66 (by simp)
  have hbX70 := f70.keep hbX66 (by simp)
  have g70 := g66.trans' f70
  have hL40 := isId_len iL
  have hT40 := isId_len iT
  refine ⟨_, _, rfl, fun h => ⟨?_, g70⟩, fun h => ?_⟩
  · rw [ne_bool]
    refine congrArg Value.bool (decide_eq_true fun e => ?_)
    rw [e] at hL40
    cases hL40
  rw [bs_eq] at h
  have hLT : L ≠ T := of_decide_eq_false h
  clear h
  have q := lwrite_spec 1 kk1 (fmtC c) hSz (h10.keep g70)
  rw [← hT] at q
  refine ⟨_, _, boxO_load hb70, q.mono ?_⟩
  rintro e w76 ⟨rfl, hF1, f76⟩
  obtain ⟨fa, hfa⟩ : ∃ f : FileE, f = ⟨pathO T, fileO 1 (fmtC c)⟩ := ⟨_, rfl⟩
  refine ⟨fa.path, fa.data, 0, by rw [hfa], fun w80 hw80 => ?_⟩
  have f80 : Fr (fun _ => False) w76 w80 := by rw [hw80]; exact .alloc _ _ _
  have hb80 : w80.heap[w76.heap.size]? = some (.cells #[.string ⟨#[]⟩, .string ⟨#[]⟩] T_api_File (0, 0)) := by rw [hw80]; exact alloc_new _ _
  clear hw80
  obtain ⟨w81, hr81, hbB81, f81⟩ := boxF_store hb80 rfl fa.path fa.data
  have hbX76 := f76.keep hbX70 (by simp)
  have hlt76 := lt_blk hbX76
  generalize hB : w76.heap.size = B at hb80 hbB81 f81 hr81 hlt76 ⊢
  have f76_81 : Fr (fun _ => False) w76 w81 := f80.trans f81 fun q hq e => by omega
  have f70_81 := f76.trans' f76_81
  have bA81 := f70_81.keep bA70 (by simp)
  have hbX81 := f70_81.keep hbX70 (by simp)
  have g81 := g70.trans' f70_81
  have q := lwrite_spec 4 kk4 U hUz (h10.keep g81)
  rw [← hL] at q
  refine ⟨w81, hr81, _, _, boxO_load hbX81, q.mono ?_⟩
  rintro e w85 ⟨rfl, hF2, f85⟩
  obtain ⟨fb, hfb⟩ : ∃ f : FileE, f = ⟨pathO L, fileO 4 U⟩ := ⟨_, rfl⟩
  refine ⟨fb.path, fb.data, 0, by rw [hfb], fun w89 hw89 => ?_⟩
  have f89 : Fr (fun _ => False) w85 w89 := by rw [hw89]; exact .alloc _ _ _
  have hb89 : w89.heap[w85.heap.size]? = some (.cells #[.string ⟨#[]⟩, .string ⟨#[]⟩] T_api_File (0, 0)) := by rw [hw89]; exact alloc_new _ _
  clear hw89
  obtain ⟨w90, hr90, hbC90, f90⟩ := boxF_store hb89 rfl fb.path fb.data
  have hbB85 := f85.keep hbB81 (by simp)
  have hlt85 := lt_blk hbB85
  generalize hC : w85.heap.size = C at hb89 hbC90 f90 hr90 hlt85 ⊢
  have f85_90 : Fr (fun _ => False) w85 w90 := f89.trans f90 fun q hq e => by omega
  have f81_90 := f85.trans' f85_90
  have bA90 := f81_90.keep bA81 (by simp)
  have hbB90 := f81_90.keep hbB81 (by simp)
  have g90 := g81.trans' f81_90
  have hfs1 := fileO_size kk1 hSz hF1
  have hfs2 := fileO_size kk4 hUz hF2
  refine ⟨w90, hr90, fun m w' => ∃ j : Nat, m = j ∧ j ≤ 3 ∧ Fr (fun _ => False) w90 w', fun m _ => 3 - m.toNat, ⟨0, rfl, by decide, .refl _ _⟩, ?_⟩
  rintro m w94 ⟨j, rfl, hj, f94⟩
  refine ⟨fun hlt => ?_, fun _ => ⟨rfl, g90.trans' f94⟩⟩
  have hlt := of_decide_eq_true hlt
  have hj3 : j < 3 := by omega
  clear hlt
  obtain ⟨Y, hY⟩ : ∃ Y, Y = if j = 2 then T else L := ⟨_, rfl⟩
  have iY : isId Y.data.toList = true := by
    rw [hY]
    split
    · exact iT
    · exact iL
  obtain ⟨N, hN⟩ : ∃ N : FileE, N = ⟨nm, L ++ ⟨#[10]⟩⟩ := ⟨_, rfl⟩
  obtain ⟨P, hP⟩ : ∃ P : FileE, P = ⟨sPacked, Y ++ ⟨#[32]⟩ ++ nm ++ ⟨#[10]⟩⟩ := ⟨_, rfl⟩
  have lab : LabF L T nm fa fb N P Y := ⟨iL, iT, hLT, hTN, by rw [hfa], by rw [hfb], hN, hP, iY⟩
  obtain ⟨nB, hnB⟩ : ∃ b : Bool, b = decide (j ≠ 1) := ⟨_, rfl⟩
  obtain ⟨pB, hpB⟩ : ∃ b : Bool, b = decide (0 < j) := ⟨_, rfl⟩
  have hnp : nB = true ∨ (pB = true ∧ Y = L) := by
    rw [hnB, hpB, hY]
    match j, hj3 with
    | 0, _ => exact .inl rfl
    | 1, _ => exact .inr ⟨rfl, rfl⟩
    | 2, _ => exact .inl rfl
  have nmz := hTN.size
  have zY := isId_len iY
  have zN : N.data.size = 41 := by rw [hN]; show (L ++ ⟨#[10]⟩).size = 41; rw [ByteArray.size_append, hL40]; rfl
  have zP : P.data.size ≤ 242 := by
    rw [hP]
    show (Y ++ ⟨#[32]⟩ ++ nm ++ ⟨#[10]⟩).size ≤ 242
    rw [ByteArray.size_append, ByteArray.size_append, ByteArray.size_append, zY, show ByteArray.size ⟨#[32]⟩ = 1 from rfl, show ByteArray.size ⟨#[10]⟩ = 1 from rfl]; omega
  have zA : fa.data.size ≤ 130100 := by rw [hfa]; exact hfs1
  have zB : fb.data.size ≤ 130100 := by rw [hfb]; exact hfs2
  have g94 := g90.trans' f94
  refine ⟨fa.path, fa.data, boxF_load (f94.keep hbB90 (by simp)), fb.path, fb.data, boxF_load (f94.keep hbC90 (by simp)), fun w99 hw99 => ?_⟩
  have o99 := own_litF w94 [fa, fb] 2 rfl (by decide) hw99
  have f99 : Fr (fun _ => False) w94 w99 := by rw [hw99]; exact .alloc _ _ _
  clear hw99
  have noAt : ∀ {w w' : World} {l : Sl} {xs : List FileE}, OwnK encF 2 w w94.heap.size T_api_File l xs → Fr (fun _ => False) w94 w → Fr (At l) w w' → Fr (fun _ => False) w94 w' := fun ho f f' => f.trans f' fun q hq ⟨y, hy, e⟩ => by have := (ho.blk hy).1; omega
  refine ⟨fun l w' => OwnK encF 2 w' w94.heap.size T_api_File l ([fa, fb] ++ if nB then [N] else []) ∧ Fr (fun _ => False) w94 w', ⟨fun h => ?_, fun h => ?_⟩, ?_⟩
  · have hnt' : nB = true := by
      rw [hnB]
      refine decide_eq_true fun e => ?_
      rw [e] at h
      simp at h
    rw [hnt', if_pos rfl]
    refine ⟨by rw [hL40]; decide, fun w101 hw101 => ?_⟩
    obtain ⟨w102, l103, hr102, o102, f102, _⟩ := append_oneK elF o99 (x := N) (by simp only [List.length_cons, List.length_nil, maxLen]; omega) (by simp only [List.length_cons, List.length_nil]; omega) f99.size (w2 := w101) (by rw [hw101, hN]; rfl)
    exact ⟨w102, l103, hr102, o102, noAt o99 f99 f102⟩
  · have hnf : nB = false := by
      rw [hnB]
      refine decide_eq_false fun e => e ?_
      have h' : ((j : Nat) : Int) = 1 := by simpa using h
      omega
    rw [hnf, if_neg (by simp), List.append_nil]
    exact ⟨o99, f99⟩
  rintro l104 w105 ⟨o105, f105⟩
  refine ⟨fun l w' => OwnK encF 2 w' w94.heap.size T_api_File l (labF fa fb N P nB pB) ∧ Fr (fun _ => False) w94 w', ⟨fun h w107 hw107 => ?_, fun h => ?_⟩, ?_⟩
  · have h := of_decide_eq_true h
    have hpt : pB = true := by rw [hpB]; exact decide_eq_true (by omega)
    have f107 : Fr (fun _ => False) w105 w107 := by rw [hw107]; exact .alloc _ _ _
    have hb107 : w107.heap[w105.heap.size]? = some (.cells #[.string L, .string L, .string T] T_string (0, 0)) := by rw [hw107]; exact alloc_new _ _
    have hc107 : w107.cell? ((⟨w105.heap.size, 0, none⟩ : Addr).add (j * 1)) = some (.string Y) := by
      rw [add_lit, cell_blk hb107, hY]
      match j, hj3 with
      | 0, _ => rfl
      | 1, _ => rfl
      | 2, _ => rfl
    have o107 := o105.keep f107 (by simp)
    refine ⟨⟨by omega, by show (j : Int) < 3; omega⟩, _, rfl, Y, by rw [Int.toNat_natCast]; exact hc107, by rw [zY]; decide, by rw [ByteArray.size_append, zY, show ByteArray.size ⟨#[32]⟩ = 1 from rfl]; omega, by rw [ByteArray.size_append, ByteArray.size_append, zY, show ByteArray.size ⟨#[32]⟩ = 1 from rfl, show ByteArray.size ⟨#[10]⟩ = 1 from rfl]; omega, fun w110 hw110 => ?_⟩
    have hlen : ([fa, fb] ++ if nB = true then [N] else []).length ≤ 3 := by cases nB <;> simp
    obtain ⟨w111, l112, hr111, o111, f111, _⟩ := append_oneK elF o107 (x := P) (by simp only [maxLen]; omega) (by omega) (f105.trans' f107).size (w2 := w110) (by rw [hw110, hP]; rfl)
    refine ⟨w111, l112, hr111, ?_, noAt o107 (f105.trans' f107) f111⟩
    rw [hpt]
    exact o111
  · have h := of_decide_eq_false h
    have hpf : pB = false := by rw [hpB]; exact decide_eq_false (by omega)
    rw [hpf]
    exact ⟨by unfold labF; rw [if_neg (by simp : ¬ false = true), List.append_nil]; exact o105, f105⟩
  rintro l113 w114 ⟨o114, f114⟩
  have g114 := g94.trans' f114
  have hlen : (labF fa fb N P nB pB).length ≤ 4 := by cases nB <;> cases pB <;> simp [labF]
  have htot := labF_tot (fa := fa) (fb := fb) (N := N) (P := P) nB pB
  have hsub := labF_sub fa fb N P nB pB
  refine (new_spec (n := l113.len) (c := l113.cap) (o114.reads elF.len) o114.len.symm (by have := o114.len; omega) (by omega) (fun x hx => by have := lab.psize x (hsub.subset hx); omega) (fun W' => AnyF.slices_SortFunc_none sortLays none 0 _ W')).mono ?_
  rintro e w116 ⟨v, rfl, f116, hNw⟩
  have g116 := g114.trans' f116
  rcases hNw with ⟨_, hbig⟩ | ⟨_, _, ys, hperm, hris, hNw⟩
  · omega
  rcases hNw with ⟨hno, rfl⟩ | ⟨_, b, lf, rfl, _, hS⟩
  · exact absurd (lab.newOK hperm) hno
  have hyd : ∀ x ∈ ys, x.data.size ≤ 140737488355328 := fun x hx => by
    have hx := hsub.subset (hperm.mem_iff.1 hx)
    simp only [List.mem_cons, List.mem_nil_iff, or_false] at hx
    rcases hx with rfl | rfl | rfl | rfl <;> omega
  refine ⟨some ⟨b, 0, none⟩, 0, rfl, fun h => (by cases h), fun _ => ⟨fun h => (by cases h), fun _ => (oopen_spec hS hris (lab.pack hperm)).mono ?_⟩⟩
  rintro e w120 ⟨rfl, hD120, f120⟩
  have g120 := g116.trans' f120
  refine ⟨_, _, rfl, (open_spec (hml.keep g120) (hS.keep f120) hris hyd).mono ?_⟩
  rintro e w124 ⟨f124, hO124⟩
  rw [lab.open hperm] at hO124
  obtain ⟨rb, mb, rfl, _, _, hR124⟩ := hO124
  have g124 := g120.trans' f124
  refine ⟨some ⟨rb, 0, none⟩, 0, rfl, fun h => (by cases h), fun _ => ⟨fun h => (by cases h), fun _ => ⟨fun h => (by cases h), fun _ => ⟨fun h => (by cases h), fun _ => ?_⟩⟩⟩⟩
  have f116_124 := f120.trans' f124
  refine (lookup_spec (hml.keep g124) hR124 (hS.keep f116_124) hris hyd nm (by omega)).mono ?_
  rintro e w128 ⟨rfl, f128⟩
  rw [lab.look hperm hnp]
  dsimp only
  have g128 := g124.trans' f128
  have f116_128 := f116_124.trans' f128
  have hD128 := (f124.trans' f128).keep hD120 (by simp)
  have qB : getE ys (pathO (idS 4 U)) = (fileO 4 U, 0) := by rw [← hL, lab.getB hperm, hfb]
  have qA : getE ys (pathO (idS 1 (fmtC c))) = (fileO 1 (fmtC c), 0) := by rw [← hT, lab.getA hperm, hfa]
  have q := dkind_spec kk4 hUz hF2 (h10.keep g128) (hS.keep f116_128) hris qB hD128 4
  rw [← hL, if_pos rfl, if_pos rfl] at q
  refine ⟨_, _, rfl, q.mono ?_⟩
  rintro e w132 ⟨rfl, f132⟩
  have g132 := g128.trans' f132
  have q := ParseTag_spec t to tk tl tg (by omega) (h10.keep g132)
  rw [← hU] at q
  refine ⟨_, _, rfl, q.mono ?_⟩
  rintro e w136 ⟨rfl, f136⟩
  have g136 := g132.trans' f136
  refine ⟨t.obj, t.kind, t.name, t.tg.who, t.tg.time, t.tg.zone, t.msg, 0, rfl, fun w145 hw145 => ?_⟩
  have f145 : Fr (fun _ => False) w136 w145 := by rw [hw145]; exact .alloc _ _ _
  have hb145 : w145.heap[w136.heap.size]? = some (.cells (encL ⟨⟨#[]⟩, 0, ⟨#[]⟩, noS, ⟨#[]⟩⟩).toArray T_api_Label (0, 0)) := by rw [hw145]; exact alloc_new _ _
  clear hw145
  obtain ⟨w146, hr146, hbT146, f146⟩ := boxL_store hb145 rfl t
  generalize hE : w136.heap.size = E at hb145 hbT146 f146 hr146 ⊢
  have f136_146 : Fr (fun _ => False) w136 w146 := f145.trans f146 fun q hq e => by omega
  have g146 := g136.trans' f136_146
  have f128_146 := (f132.trans' f136).trans' f136_146
  have tobj : t.obj = T := by rw [ht]
  have q := dkind_spec kk1 hSz hF1 (h10.keep g146) (hS.keep (f116_128.trans' f128_146)) hris qA (f128_146.keep hD128 (by simp)) 1
  rw [← hT, if_pos rfl, if_pos rfl] at q
  refine ⟨w146, hr146, T, by rw [cell_blk hbT146, ← tobj]; rfl, q.mono ?_⟩
  rintro e w149 ⟨rfl, f149⟩
  have g149 := g146.trans' f149
  refine ⟨_, _, rfl, (Parse_spec c h0 (by omega) (h10.keep g149)).mono ?_⟩
  rintro e w153 ⟨l, rfl, o153, f153⟩
  have g153 := g149.trans' f153
  refine ⟨_, l, _, _, _, _, _, _, _, 0, rfl, fun w164 hw164 => ?_⟩
  have f164 : Fr (fun _ => False) w153 w164 := by rw [hw164]; exact .alloc _ _ _
  have hb164 : w164.heap[w153.heap.size]? = some (.cells (encC ⟨⟨#[]⟩, [], noS, noS, ⟨#[]⟩⟩ none 0 0).toArray T_api_Change (0, 0)) := by rw [hw164]; exact alloc_new _ _
  clear hw164
  obtain ⟨w165, hr165, hbK165, f165⟩ := boxC_store hb164 rfl c l.a l.len l.cap
  generalize hK : w153.heap.size = K at hb164 hbK165 f165 hr165 ⊢
  have f153_165 : Fr (fun _ => False) w153 w165 := f164.trans f165 fun q hq e => by omega
  have g165 := g153.trans' f153_165
  have f146_165 := (f149.trans' f153).trans' f153_165
  have hbT165 := f146_165.keep hbT146 (by simp)
  have f90_165 := (((f94.trans' f114).trans' f116).trans' f116_128).trans' (f128_146.trans' f146_165)
  have bA165 := f90_165.keep bA90 (by simp)
  have o165 := o153.keep f153_165 (by simp)
  have tmsg : t.msg = nt := by rw [ht]
  refine ⟨w165, hr165, fun h => ?_, fun _ => ⟨fun h => (by cases h), fun _ => ⟨fun h => (by cases h), fun _ => ⟨fun h => (by cases h), fun _ => ⟨fun h => (by cases h), fun _ => ⟨fun h => (by cases h), fun _ => ⟨nt, by rw [cell_blk hbT165, ← tmsg]; rfl, fun h => ?_, fun _ => ?_⟩⟩⟩⟩⟩⟩⟩
  · simp at h
  · simp at h
  refine ⟨_, l, _, _, _, _, _, _, _, boxC_load hbK165, _, ⟨a, n, k⟩, _, _, _, _, _, _, _, boxC_load bA165, (same15_spec c o165.reads (hrc g165) (by have := o165.len; simpa [strV] using this.symm) hnc (by omega)).mono ?_⟩
  rintro e w186 ⟨rfl, f186⟩
  have e1 : IntKind.i64.wrap ((j : Int) + 1) = ((j + 1 : Nat) : Int) := by rw [wrap_i64 (by omega) (by omega)]; omega
  rw [e1]
  exact ⟨true, rfl, fun h => (by cases h), fun _ => ⟨⟨j + 1, rfl, hj3, f90_165.trans' f186⟩, by omega⟩⟩
end Go.Proofs.YtllegkmadljmaaaGreatDoor

/- Slices of structs that came in, opened to cells. No condition: for all programs. -/
set_option linter.unusedVariables false
namespace Vc
open Go Go.ChangeShapes Go.WideShapes Go.Deep
section
variable {H : Type} {enc : TypeId × Value → H} {P : Program} {w : World} {base : Nat} {spare : Nat → Bool} {held : Bool}
theorem weightsAll_mem {e : TypeId} : ∀ {ds : List (DataW H)} {d : DataW H}, d ∈ ds → ∀ n ∈ d.weights P e, n ∈ DataW.weightsAll P e ds
  | d0 :: ds, d, h, n, hn => by
    simp only [DataW.weightsAll, List.mem_append]
    rcases List.mem_cons.1 h with rfl | h
    · exact .inl hn
    · exact .inr (weightsAll_mem h n hn)
end
end Vc

/- Structs that came in, with structs inside them, opened to cells. No condition: for all programs. -/
set_option linter.unusedVariables false
namespace Vc
open Go Go.ChangeShapes Go.WideShapes Go.Deep
section
variable {H : Type} {enc : TypeId × Value → H} {P : Program} {w : World} {base : Nat} {spare : Nat → Bool} {held : Bool}
/-- A field of a struct that was read. -/
theorem field_of {t : TypeId} {fs : Array Field} {n : Nat} {cs : List Value} {y : DataW H × List MemPlace} (ht : P.underlying t = some (.struct fs)) (h : DataW.trod enc P w base spare held n t cs = some y) (i : Nat) (f : Field) (hf : fs[i]? = some f) :
    ∃ m z, DataW.trod enc P w base spare held m f.type ((cs.drop f.offset).take (P.cellsOf f.type)) = some z := by
  obtain ⟨ys, m, _, _, _, hyl, hall⟩ := DataW.trod_struct ht h
  have h1 := hall i f hf
  have hi := (Array.getElem?_eq_some_iff.1 hf).1
  rw [List.getElem?_eq_getElem (show i < ys.length by omega)] at h1
  exact ⟨m, _, h1⟩
theorem leaf_string {t : TypeId} {n o : Nat} {cs : List Value} {v : Value} {y : DataW H × List MemPlace} (ht : P.underlying t = some .string) (hC : P.cellsOf t = 1) (hv : cs[o]? = some v) (h : DataW.trod enc P w base spare held n t ((cs.drop o).take (P.cellsOf t)) = some y) : ∃ x, v = .string x := by
  rw [hC] at h
  obtain ⟨hl, hv⟩ := List.getElem?_eq_some_iff.1 hv
  rw [List.drop_eq_getElem_cons hl, hv] at h
  obtain ⟨x, e, _⟩ := DataW.trod_string ht h
  exact ⟨x, (List.cons.inj e).1⟩
theorem leaf_int {t : TypeId} {k : IntKind} {n o : Nat} {cs : List Value} {v : Value} {y : DataW H × List MemPlace} (ht : P.underlying t = some (.int k)) (hC : P.cellsOf t = 1) (hv : cs[o]? = some v) (h : DataW.trod enc P w base spare held n t ((cs.drop o).take (P.cellsOf t)) = some y) : ∃ x, v = .int k x ∧ (Lit.int k x).wf = true := by
  rw [hC] at h
  obtain ⟨hl, hv⟩ := List.getElem?_eq_some_iff.1 hv
  rw [List.drop_eq_getElem_cons hl, hv] at h
  obtain ⟨x, e, _, hw⟩ := DataW.trod_int ht h
  exact ⟨x, (List.cons.inj e).1, hw⟩
/-- As above, with the facts on what memory can hold. -/
theorem field_ofW {t : TypeId} {fs : Array Field} {n : Nat} {cs : List Value} {y : DataW H × List MemPlace} (ht : P.underlying t = some (.struct fs)) (hw : (y.1.weights P t).all (· ≤ reachBytes) = true) (h : DataW.trod enc P w base spare held n t cs = some y) (i : Nat) (f : Field) (hf : fs[i]? = some f) :
    ∃ m z, DataW.trod enc P w base spare held m f.type ((cs.drop f.offset).take (P.cellsOf f.type)) = some z ∧ (z.1.weights P f.type).all (· ≤ reachBytes) = true := by
  obtain ⟨ys, m, _, hxe, _, hyl, hall⟩ := DataW.trod_struct ht h
  have h1 := hall i f hf
  have hi := (Array.getElem?_eq_some_iff.1 hf).1
  rw [List.getElem?_eq_getElem (show i < ys.length by omega)] at h1
  refine ⟨m, _, h1, ?_⟩
  have hDe : y.1 = .agg (ys.map (·.1)) := by
    have := congrArg Prod.fst hxe
    simpa using this
  rw [hDe] at hw
  simp only [DataW.weights, ht] at hw
  rw [List.all_eq_true] at hw ⊢
  intro q hq
  refine hw q (DataW.weights_mem_each (j := i) (t := f.type) (d := (ys[i]'(by omega)).1) ?_ ?_ q hq)
  · rw [List.getElem?_map, Array.getElem?_toList, hf]; rfl
  · rw [List.getElem?_map, List.getElem?_eq_getElem (show i < ys.length by omega)]; rfl
theorem leaf_stringW {t : TypeId} {n o : Nat} {cs : List Value} {v : Value} {y : DataW H × List MemPlace} (ht : P.underlying t = some .string) (hC : P.cellsOf t = 1) (hv : cs[o]? = some v) (h : DataW.trod enc P w base spare held n t ((cs.drop o).take (P.cellsOf t)) = some y) (hw : (y.1.weights P t).all (· ≤ reachBytes) = true) : ∃ x, v = .string x ∧ x.size ≤ reachBytes := by
  rw [hC] at h
  obtain ⟨hl, hv⟩ := List.getElem?_eq_some_iff.1 hv
  rw [List.drop_eq_getElem_cons hl, hv] at h
  obtain ⟨x, e, d, _⟩ := DataW.trod_string ht h
  exact ⟨x, (List.cons.inj e).1, by simpa [d, DataW.weights] using hw⟩
/-- A slice of texts in a struct. -/
theorem leaf_textsW {t e : TypeId} {n o : Nat} {cs : List Value} {v : Value} {y : DataW H × List MemPlace} (ht : P.underlying t = some (.slice e)) (he : P.underlying e = some .string) (hC : P.cellsOf t = 1) (hCe : P.cellsOf e = 1) (hv : cs[o]? = some v) (h : DataW.trod enc P w base spare held n t ((cs.drop o).take (P.cellsOf t)) = some y) (hw : (y.1.weights P t).all (· ≤ reachBytes) = true) :
    ∃ a l c, v = .slice a l c ∧ IsRows 1 (fun vs => ∃ x, vs = [.string x] ∧ x.size ≤ reachBytes) w a l := by
  rw [hC] at h
  obtain ⟨hl, hv⟩ := List.getElem?_eq_some_iff.1 hv
  rw [List.drop_eq_getElem_cons hl, hv] at h
  rcases open_slice ht h with ⟨h0, _⟩ | ⟨b, l, c, m, n', D, Pl, hcs, hb, hl', hm, hmm, hx, hi'⟩
  · exact ⟨none, 0, 0, (List.cons.inj h0).1, fun i hi => by omega⟩
  · refine ⟨some b, l, c, (List.cons.inj hcs).1, fun i hi => ?_⟩
    obtain ⟨cs', hc, htr⟩ := hi' i (by rw [hmm]; split <;> omega)
    have hwD : ((D i).weights P e).all (· ≤ reachBytes) = true := by
      rw [List.all_eq_true] at hw ⊢
      intro q hq
      refine hw q ?_
      rw [hx]
      simp only [DataW.weights, ht, List.mem_cons, List.mem_append]
      exact .inr (.inl (weightsAll_mem (List.mem_map.2 ⟨i, List.mem_range.2 hi, rfl⟩) q hq))
    obtain ⟨_, hcl, hat⟩ := World.cells?_some hc
    rw [hCe] at hcl hat
    obtain ⟨u, rfl⟩ : ∃ u, cs' = [u] := List.length_eq_one_iff.1 hcl
    obtain ⟨x, e', d, _⟩ := DataW.trod_string he htr
    have d' := congrArg Prod.fst d
    dsimp only at d'
    rw [d'] at hwD
    refine ⟨b, [u], rfl, rfl, ⟨x, by rw [(List.cons.inj e').1], by simpa [DataW.weights] using hwD⟩, ?_⟩
    intro j z hz
    have hjl := (List.getElem?_eq_some_iff.1 hz).1
    rw [← hz, ← hat j hjl, add_add]
/-- A struct that comes by its value. -/
theorem okWide_agg {t : TypeId} {fs : Array Field} {r : Reach} {b0 k : Nat} {W : World} {v : Value} (ht : P.underlying t = some (.struct fs)) (hC : P.cellsOf t = k) (h : Value.okWide P W r b0 t v) : ∃ cs, v = .agg cs ∧ cs.size = k := by
  unfold Value.okWide at h
  rw [ht] at h
  obtain ⟨cs, h1, h2, _⟩ := h
  exact ⟨cs, h1, h2.trans hC⟩
end
end Vc

/- CartularyLabels: what the row's condition on the listed tables gives: Itoa's table; the commit that came in, opened. No condition. -/
set_option linter.unusedVariables false
namespace Go.Proofs.YtllegkmadljmaaaGreatDoor
open Go Vc HexM Go.Proofs Go.ChangeShapes Go.WideShapes Go.ChangeAt Go.RowKit

theorem strs_of {W : World} {a : Option Addr} : ∀ (n : Nat), IsRows 1 (fun vs => ∃ x, vs = [.string x] ∧ x.size ≤ reachBytes) W a n → ∃ xs : List ByteArray, xs.length = n ∧ Reads W a (strV xs) ∧ ∀ x ∈ xs, x.size ≤ reachBytes
  | 0, _ => ⟨[], rfl, .nil _ _, fun x hx => by simp at hx⟩
  | n + 1, h => by
    obtain ⟨xs, hE, hR, hB⟩ := strs_of n fun i hi => h i (by omega)
    obtain ⟨ad, vs, had, hl, ⟨x, rfl, hx⟩, hc⟩ := h n (by omega)
    refine ⟨xs ++ [x], by rw [List.length_append, hE]; rfl, fun i v hv => ?_, fun y hy => ?_⟩
    · rw [strV, List.map_append] at hv
      by_cases hi : i < xs.length
      · rw [List.getElem?_append_left (by rw [List.length_map]; exact hi)] at hv
        exact hR i v hv
      · rw [List.getElem?_append_right (by rw [List.length_map]; omega), List.length_map] at hv
        have hi0 : i - xs.length = 0 := by
          by_cases h : i - xs.length = 0
          · exact h
          · rw [List.getElem?_eq_none (by simp; omega)] at hv; cases hv
        rw [hi0] at hv
        simp only [List.map_cons, List.getElem?_cons_zero, Option.some.injEq] at hv
        subst hv
        refine ⟨ad, had, ?_⟩
        have := hc 0 (.string x) rfl
        rw [Nat.mul_one, Nat.add_zero] at this
        rw [show i = n by omega]
        exact this
    · rcases List.mem_append.1 hy with hy | hy
      · exact hB y hy
      · rw [List.mem_singleton] at hy
        rw [hy]; exact hx
theorem open_change {H : Type} {enc : TypeId × Value → H} {P : Program} {w : World} {base : Nat} {spare : Nat → Bool} {held : Bool} {t e : TypeId}
    {fuel : Nat} {cs : Array Value} {x : DataW H × List MemPlace} {f0 f1 f2 f3 f4 g0 g1 g2 : Field}
    (ht : P.underlying t = some (.struct #[f0, f1, f2, f3, f4])) (h0 : P.underlying f0.type = some .string) (h1 : P.underlying f1.type = some (.slice e)) (he : P.underlying e = some .string) (h2 : P.underlying f2.type = some (.struct #[g0, g1, g2]))
    (i0 : P.underlying g0.type = some .string) (i1 : P.underlying g1.type = some (.int .i64)) (i2 : P.underlying g2.type = some (.int .i64)) (h3 : f3.type = f2.type) (h4 : f4.type = f0.type)
    (ho : (f0.offset, f1.offset, f2.offset, f3.offset, f4.offset, g0.offset, g1.offset, g2.offset) = (0, 1, 2, 5, 8, 0, 1, 2))
    (hC : (P.cellsOf e, P.cellsOf f0.type, P.cellsOf f1.type, P.cellsOf f2.type, P.cellsOf g0.type, P.cellsOf g1.type, P.cellsOf g2.type) = (1, 1, 1, 3, 1, 1, 1))
    (hcs : cs.size = 9) (hw : (x.1.weights P t).all (· ≤ reachBytes) = true)
    (h : DataW.trod enc P w base spare held fuel t cs.toList = some x) : ∃ (c : ChE) (a : Option Addr) (n k : Nat), cs = (encC c a n k).toArray ∧ Reads w a (strV c.pars) ∧ c.pars.length = n ∧ (∀ p ∈ c.pars, p.size ≤ reachBytes) ∧ c.tree.size ≤ reachBytes := by
  simp only [Prod.mk.injEq] at ho hC
  obtain ⟨o0, o1, o2, o3, o4, p0, p1, p2⟩ := ho
  obtain ⟨ce, c0, c1, c2, d0, d1, d2⟩ := hC
  obtain ⟨cs⟩ := cs
  match cs, hcs with
  | [v0, v1, v2, v3, v4, v5, v6, v7, v8], _ =>
    obtain ⟨q0, z0, r0, k0⟩ := field_ofW ht hw h 0 f0 rfl
    obtain ⟨q1, z1, r1, k1⟩ := field_ofW ht hw h 1 f1 rfl
    obtain ⟨q2, z2, r2, _⟩ := field_ofW ht hw h 2 f2 rfl
    obtain ⟨q3, z3, r3, _⟩ := field_ofW ht hw h 3 f3 rfl
    obtain ⟨q4, z4, r4, _⟩ := field_ofW ht hw h 4 f4 rfl
    rw [h3] at r3
    rw [h4] at r4
    obtain ⟨s0, y0, u0⟩ := field_of h2 r2 0 g0 rfl
    obtain ⟨s1, y1, u1⟩ := field_of h2 r2 1 g1 rfl
    obtain ⟨s2, y2, u2⟩ := field_of h2 r2 2 g2 rfl
    obtain ⟨s3, y3, u3⟩ := field_of h2 r3 0 g0 rfl
    obtain ⟨s4, y4, u4⟩ := field_of h2 r3 1 g1 rfl
    obtain ⟨s5, y5, u5⟩ := field_of h2 r3 2 g2 rfl
    rw [o2, c2] at u0 u1 u2
    rw [o3, c2] at u3 u4 u5
    obtain ⟨x0, rfl, b0⟩ := leaf_stringW h0 c0 (v := v0) (by rw [o0]; rfl) r0 k0
    obtain ⟨a, n, k, rfl, hrows⟩ := leaf_textsW h1 he c1 ce (v := v1) (by rw [o1]; rfl) r1 k1
    obtain ⟨x2, rfl⟩ := leaf_string i0 d0 (v := v2) (by rw [p0]; rfl) u0
    obtain ⟨x3, rfl, _⟩ := leaf_int i1 d1 (v := v3) (by rw [p1]; rfl) u1
    obtain ⟨x4, rfl, _⟩ := leaf_int i2 d2 (v := v4) (by rw [p2]; rfl) u2
    obtain ⟨x5, rfl⟩ := leaf_string i0 d0 (v := v5) (by rw [p0]; rfl) u3
    obtain ⟨x6, rfl, _⟩ := leaf_int i1 d1 (v := v6) (by rw [p1]; rfl) u4
    obtain ⟨x7, rfl, _⟩ := leaf_int i2 d2 (v := v7) (by rw [p2]; rfl) u5
    obtain ⟨x8, rfl⟩ := leaf_string h0 c0 (v := v8) (by rw [o4]; rfl) r4
    obtain ⟨xs, hn, hR, hB⟩ := strs_of n hrows
    exact ⟨⟨x0, xs, ⟨x2, x3, x4⟩, ⟨x5, x6, x7⟩, x8⟩, a, n, k, rfl, hR, hn, hB, b0⟩
theorem tab10_reads {W : World} (h : Lib.VarReads Tryz.prog W "internal/strconv.uint64pow10" Rows.laid_internal_strconv_uint64pow10) : Tab10 W := by
  obtain ⟨g, t, cs, fuel, p, hg, ht, hv, hdd⟩ := h
  obtain rfl := Option.some.inj ((show Tryz.prog.globalNamed "internal/strconv.uint64pow10" = some G_strconv_uint64pow10 by kernel_rfl).symm.trans hg)
  have hu : ∀ n, (Tryz.prog.globals[G_strconv_uint64pow10]?).map (·.type) = some n → Tryz.prog.underlying n = some (.array 20 T_uint64) ∧ Tryz.prog.cellsOf n = 20 := fun n hn => by
    obtain rfl := Option.some.inj ((show (Tryz.prog.globals[G_strconv_uint64pow10]?).map (·.type) = some T_20_uint64 by kernel_rfl).symm.trans hn)
    exact ⟨by kernel_rfl, by kernel_rfl⟩
  have := Lib.cells_of_tab (k := .u64) (zs := Lib.pow10Tab) (hu t ht).1 (by kernel_rfl) (by kernel_rfl) (hu t ht).2 hdd
  unfold Tab10 Lib.TabIs
  rw [hv, ← this]
theorem tab10_of {W : World} (h : laidMetH Tryz.prog Rows.cartularyLabelsRow.laid W) : Tab10 W := by
  rw [MakeChecks.laidMetH_plain _ _ _ (by kernel_rfl)] at h
  exact tab10_reads (Lib.laidMet.reads h (n := _) (d := Rows.laid_internal_strconv_uint64pow10) (.tail _ (.tail _ (.head _))))
/-- The walk at what came in. -/
theorem labels_of {W : World} {cs : Array Value} {note name : ByteArray} (hO : ∃ (c : ChE) (a : Option Addr) (n k : Nat), cs = (encC c a n k).toArray ∧ Reads W a (strV c.pars) ∧ c.pars.length = n ∧ (∀ p ∈ c.pars, p.size ≤ reachBytes) ∧ c.tree.size ≤ reachBytes) (hb : name.size ≤ reachBytes) (h10 : Tab10 W) (hml : MaxL W) :
    Calls Tryz.prog F_cartularytop_CartularyLabels #[.agg cs, .string note, .string name] W fun e w' => e = .returned (.bool true) ∧ RowKit.Below W.heap.size W w' := by
  obtain ⟨c, a, n, k, rfl, hr, hn, hp, ht⟩ := hO
  have hB : reachBytes ≤ 140737488355300 := by decide
  exact labels_walk c hr hn (fun p h => by have := hp p h; omega) (by omega) note name (by omega) h10 hml
end Go.Proofs.YtllegkmadljmaaaGreatDoor

/- The statement CartularyLabelsSaid of this seat: for every input the law returns true and its arguments read as they did. No condition. -/
namespace Go.Proofs.YtllegkmadljmaaaGreatDoor.cartularyLabels
open Go.ChangeShapes Go.WideShapes Go.ChangeAt Go.RowKit
open Go.ChangeMaps (open_string shut_string)
set_option linter.unusedVariables false

theorem own : ownKnob Tryz.prog.godebug = none := by kernel_rfl
theorem laidOut : laidOutB Tryz.prog = true := by kernel_rfl

set_option maxRecDepth 100000 in
theorem lifted (os : Os) (started : os.Started) (H : Type) (enc : TypeId × Value → H) :
    ReturnsInHanded {} Tryz.checked os 3 .any (fun w args => (Rows.cartularyLabelsSpec.pre enc Tryz.prog Tryz.f3 [] false w args ∧ laidMetH Tryz.prog Rows.cartularyLabelsRow.laid w) ∧ sizedMet enc Tryz.prog Tryz.f3 (OpenSpec.ofChange Rows.cartularyLabelsSpec) false w args)
      (Rows.cartularyLabelsSpec.post enc Tryz.prog Tryz.f3 false true false false) := by
  refine handed_shaped (C := Tryz.checked) (X := fun w _ => laidMetH Tryz.prog Rows.cartularyLabelsRow.laid w) (fun _ _ _ hh h => h.of_heap hh) own started (by kernel_rfl) Tryz.func3
    (ChangeSpec.witness_shaped (enc := enc) (C := Tryz.checked) (os := os) (X := fun w _ => laidMetH Tryz.prog Rows.cartularyLabelsRow.laid w) false (World.laidAll Tryz.prog os Rows.cartularyLabelsRow.laid) #[.agg #[.string ByteArray.empty, .slice none 0 0, .string ByteArray.empty, .int .i64 0, .int .i64 0, .string ByteArray.empty, .int .i64 0, .int .i64 0, .string ByteArray.empty], .string ByteArray.empty, .string ByteArray.empty] 8 (World.laidAll_os _ _ _)
      (World.shaped_of_ZipB (by kernel_rfl) (by kernel_rfl)) (by kernel_rfl) (by kernel_rfl) (by kernel_rfl)
      (by rw [MakeChecks.laidMetH_plain _ _ _ (by kernel_rfl)]; exact laidMet_laidAll _ (by kernel_rfl) (by kernel_rfl))) ?_
  intro W base args ds gs before hval0 hW _ hsz hL hS _
  have hval : ∀ (j : Nat) t v, Tryz.f3.params[j]? = some t → args[j]? = some v → Value.okWide Tryz.prog W .any base t v := hval0
  have hW' := hW
  obtain ⟨p, q, hA0, hV, rfl, hfz, hnd⟩ := hW
  have hA : DataW.TrodAll enc Tryz.prog W 0 (fun _ => true) true Tryz.f3.params.toList args.toList ds p := hA0
  rw [Tryz.params3] at hA hval
  obtain ⟨v0, vs0, d0, ds0, p0, q0, hargs, rfl, rfl, h0, r0⟩ := trodAll_cons hA
  obtain ⟨v1, vs1, d1, ds1, p1, q1, rfl, rfl, rfl, h1, r1⟩ := trodAll_cons r0
  obtain ⟨v2, vs2, d2, ds2, p2, q2, rfl, rfl, rfl, h2, r2⟩ := trodAll_cons r1
  obtain ⟨rfl, rfl, rfl⟩ := trodAll_nil r2
  obtain rfl : args = #[v0, v1, v2] := by cases args; simp_all
  obtain ⟨rfl, rfl⟩ := trodVars_none hV
  obtain ⟨cs0, rfl, n0⟩ := Vc.okWide_agg (k := 9) Tryz.underlying26 (by kernel_rfl) (hval 0 26 v0 rfl rfl)
  have k0 := h0
  have lt0 : ∀ x ∈ p0, x.block < W.heap.size := by obtain ⟨m, hm⟩ := k0; exact DataW.trod_lt m _ _ _ hm
  obtain ⟨fuel0, hf0⟩ := h0
  have w0 := open_change Tryz.underlying26 Tryz.underlying9 Tryz.underlying22 Tryz.underlying9 Tryz.underlying24 Tryz.underlying9 Tryz.underlying3 Tryz.underlying3 rfl rfl rfl (by kernel_rfl) n0 (List.all_eq_true.2 fun q hq => List.all_eq_true.1 hsz q (DataW.weights_mem_each (j := 0) (t := 26) rfl rfl q hq)) hf0
  obtain ⟨a1, rfl, rfl, rfl, w1⟩ := open_string Tryz.underlying9 (hval 1 9 v1 rfl rfl) h1
  have b1 : a1.size ≤ reachBytes := by have := sized_string hsz (j := 1) (t := 9) rfl rfl; simpa using this
  obtain ⟨a2, rfl, rfl, rfl, w2⟩ := open_string Tryz.underlying9 (hval 2 9 v2 rfl rfl) h2
  have b2 : a2.size ≤ reachBytes := by have := sized_string hsz (j := 2) (t := 9) rfl rfl; simpa using this
  clear hA0 hval0
  refine (labels_of w0 b2 (tab10_of hL) (maxL_of hS)).mono fun e W' ⟨he, bel⟩ => ?_
  subst he
  exact ⟨_, rfl, _, _, _, [], _, [], hW', trodAll_mk1 (shut_bool Tryz.underlying4 _), (trodAll_cons_mk (Below.trod laidOut (by kernel_rfl) (of_decide_eq_true (by kernel_rfl)) k0 bel lt0) (trodAll_cons_mk (shut_string Tryz.underlying9 w1) (trodAll_cons_mk (shut_string Tryz.underlying9 w2) trodAll_mk0))), rfl, bel.frame _, fun h => by cases h⟩

theorem over : Rows.cartularyLabelsRow.holds Tryz.pinned (OpenSpec.ofChange Rows.cartularyLabelsSpec) :=
  OpenClaim.holds_of_wide 3 Tryz.f3 rfl rfl rfl rfl rfl rfl rfl ⟨rfl, rfl, rfl, rfl, rfl⟩ rfl rfl rfl rfl rfl (by kernel_rfl) Tryz.func3 (by kernel_rfl)
    (of_decide_eq_true (by kernel_rfl)) (by unfold Func.isWrapper; first | (rw [if_pos (by decide +kernel)]; kernel_rfl) | (rw [if_neg (by decide +kernel)]; exact ⟨rfl, rfl⟩))
    (fun os started H enc _ => lifted os started H enc)

/-- The statement. -/
theorem proved : Rows.CartularyLabelsCardSaid :=
  Claim7.holds_tied_plain_at .later [] [.data, .data, .data, .data, .sentinel, .sentinel, .pinned] true (true, "2f08fc4eda01d7c9ad8efe724a74205f6acb5d5e8fcea40d050df8a18419e03c") true over (fun _ h => by cases h) (by kernel_rfl) (fun _ h => by cases h) cartularyLabels_row_tie rfl ⟨rfl, rfl⟩ (by kernel_rfl) rfl
    (fun f fn hf hfn => by
      obtain rfl : f = 3 := Option.some.inj ((show Tryz.prog.funcNamed "cartulary/cartularytop.CartularyLabels" = some 3 by kernel_rfl).symm.trans hf) |>.symm
      obtain rfl : fn = Tryz.f3 := (Option.some.inj (Tryz.func3.symm.trans hfn)).symm
      exact ⟨by kernel_rfl, fun j t ht => by
        rw [Tryz.params3] at ht
        have hm : t ∈ [26, 9] := by simpa using Array.mem_of_getElem? ht
        have hall : ([26, 9].all fun u => !Tryz.prog.wantsStandIn u) = true := by kernel_rfl
        exact (show Tryz.prog.wantsStandIn t = false by simpa using List.all_eq_true.1 hall t hm)⟩)
    (by kernel_rfl)
#print axioms proved
end Go.Proofs.YtllegkmadljmaaaGreatDoor.cartularyLabels

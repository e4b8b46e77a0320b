/- Texts of this seat in one: made by a program of ours. -/
import Derived.Test.YtopjkjiobdigaaaGreatDoorCartularyFoldersQ0
import Derived.Test.YtopjkjiobdigaaaGreatDoorCartularyFoldersQ1
import Derived.Test.YtopjkjiobdigaaaGreatDoorCartularyFoldersQ2
import Derived.Test.YtopjkjiobdigaaaGreatDoorCartularyFoldersQ4
import Derived.Test.YtopjkjiobdigaaaGreatDoorProg
import Derived.Shelf.Strings.IndexAnyAll
import Derived.Sort.Walk0
import Derived.Shelf.Strings.Builder1
import Derived.Laws.IdiomCopy
import Derived.Laws.IdiomStrings
/- Formulas of 4 Go functions of this seat (written by a program of the author's, vcgen.py), and that each is enough for the call. No condition. -/
set_option linter.unusedVariables false
namespace Go.Proofs.YtopjkjiobdigaaaGreatDoor
open Go Vc Go.Proofs
set_option maxRecDepth 100000
/-- loose.Path -/
def vc_loose_Path (x0 : ByteArray) (w : World) (R : Value → World → Prop) : Prop :=
  Calls Tryz.prog (33 : Nat) (Array.mk [Value.string x0]) (w) (fun e1 w2 =>
    ∃ b3 : Bool, (e1 = Ending.returned (Value.bool b3) ∧
     ((((!b3) = true →
        R (Value.tuple (Array.mk [Value.string (ByteArray.mk (Array.mk [])), Value.int IntKind.i64 4])) w2)) ∧
      ((!b3) = false →
        (((0 : Int) ≤ (2 : Int) ∧
          2 ≤ (↑(ByteArray.size x0) : Int)) ∧
         (ByteArray.size (ByteArray.mk (Array.mk [111, 98, 106, 101, 99, 116, 115, 47])) + ByteArray.size (ByteArray.extract x0 0 (Int.toNat 2)) ≤ 9223372036854775807 ∧
          (ByteArray.size (ByteArray.mk (Array.mk [111, 98, 106, 101, 99, 116, 115, 47]) ++ ByteArray.extract x0 0 (Int.toNat 2)) + ByteArray.size (ByteArray.mk (Array.mk [47])) ≤ 9223372036854775807 ∧
           (((0 : Int) ≤ (2 : Int) ∧
             2 ≤ (↑(ByteArray.size x0) : Int)) ∧
            (ByteArray.size (ByteArray.mk (Array.mk [111, 98, 106, 101, 99, 116, 115, 47]) ++ ByteArray.extract x0 0 (Int.toNat 2) ++ ByteArray.mk (Array.mk [47])) + ByteArray.size (ByteArray.extract x0 (Int.toNat 2) (ByteArray.size x0)) ≤ 9223372036854775807 ∧
             ∀ w4 : World,
             (Drew w2 w4 →
               R (Value.tuple (Array.mk [Value.string (ByteArray.mk (Array.mk [111, 98, 106, 101, 99, 116, 115, 47]) ++ ByteArray.extract x0 0 (Int.toNat 2) ++ ByteArray.mk (Array.mk [47]) ++ ByteArray.extract x0 (Int.toNat 2) (ByteArray.size x0)), Value.int IntKind.i64 0])) w4))))))))))
theorem vc_loose_Path_ok {x0 : ByteArray} {w : World} {R : Value → World → Prop} {R' : Ending → World → Prop} (h : vc_loose_Path x0 w R) (hR : ∀ v w', R v w' → R' (.returned v) w') :
    Calls Tryz.prog 25 #[.string x0] w R' :=
  calls_of_body (vs := [(.string x0, false)]) (ty := ty) (ann := ⟨[], [], [(3, .quiet)], []⟩) (c := Tryz.f25.body.getD .skip) (by kernel_rfl) Tryz.func25 (by kernel_rfl) (by kernel_rfl) (Eq.mp (by kernel_rfl) h) hR
/-- loose.Unpack -/
def vc_loose_Unpack (x0 : ByteArray) (w : World) (R : Value → World → Prop) : Prop :=
  ∀ w1 : World,
  (w1 = World.alloc w (Obj.cells (Array.mk [Value.int IntKind.i64 0, Value.string (ByteArray.mk (Array.mk []))]) 29) →
    Calls Tryz.prog (134 : Nat) (Array.mk [Value.string x0, Value.int IntKind.i64 0, Value.int IntKind.i64 65536]) (w1) (fun e2 w3 =>
      ∃ s4 : ByteArray, ∃ n5 : Int, ∃ n6 : Int, (e2 = Ending.returned (Value.tuple (Array.mk [Value.string s4, Value.int IntKind.i64 n5, Value.int IntKind.i64 n6])) ∧
       ((((n6 != 0) = true →
          ∃ w7 : World, (Sem.run Tryz.prog (storeVar 29 (Addr.mk (Array.size (World.heap w)) 0 none) (Value.agg (Array.mk [Value.int IntKind.i64 0, Value.string (ByteArray.mk (Array.mk []))]))) w3 = Result.ok PUnit.unit w7 ∧
           ∃ n8 : Int, ∃ s9 : ByteArray, (Sem.run Tryz.prog (loadVar 29 (Addr.mk (Array.size (World.heap w)) 0 none)) w7 = Result.ok (Value.agg (Array.mk [Value.int IntKind.i64 n8, Value.string s9])) w7 ∧
            R (Value.tuple (Array.mk [Value.agg (Array.mk [Value.int IntKind.i64 n8, Value.string s9]), Value.int IntKind.i64 n6])) w7)))) ∧
        ((n6 != 0) = false →
          ((((n5 != (↑(ByteArray.size x0) : Int)) = true →
             ∃ w10 : World, (Sem.run Tryz.prog (storeVar 29 (Addr.mk (Array.size (World.heap w)) 0 none) (Value.agg (Array.mk [Value.int IntKind.i64 0, Value.string (ByteArray.mk (Array.mk []))]))) w3 = Result.ok PUnit.unit w10 ∧
              ∃ n11 : Int, ∃ s12 : ByteArray, (Sem.run Tryz.prog (loadVar 29 (Addr.mk (Array.size (World.heap w)) 0 none)) w10 = Result.ok (Value.agg (Array.mk [Value.int IntKind.i64 n11, Value.string s12])) w10 ∧
               R (Value.tuple (Array.mk [Value.agg (Array.mk [Value.int IntKind.i64 n11, Value.string s12]), Value.int IntKind.i64 3])) w10)))) ∧
           ((n5 != (↑(ByteArray.size x0) : Int)) = false →
             Calls Tryz.prog (135 : Nat) (Array.mk [Value.string s4]) (w3) (fun e13 w14 =>
               ∃ n15 : Int, ∃ s16 : ByteArray, ∃ n17 : Int, (e13 = Ending.returned (Value.tuple (Array.mk [Value.agg (Array.mk [Value.int IntKind.i64 n15, Value.string s16]), Value.int IntKind.i64 n17])) ∧
                ∃ w18 : World, (Sem.run Tryz.prog (storeVar 29 (Addr.mk (Array.size (World.heap w)) 0 none) (Value.agg (Array.mk [Value.int IntKind.i64 n15, Value.string s16]))) w14 = Result.ok PUnit.unit w18 ∧
                 ∃ n19 : Int, ∃ s20 : ByteArray, (Sem.run Tryz.prog (loadVar 29 (Addr.mk (Array.size (World.heap w)) 0 none)) w18 = Result.ok (Value.agg (Array.mk [Value.int IntKind.i64 n19, Value.string s20])) w18 ∧
                  R (Value.tuple (Array.mk [Value.agg (Array.mk [Value.int IntKind.i64 n19, Value.string s20]), Value.int IntKind.i64 n17])) w18)))))))))))
theorem vc_loose_Unpack_ok {x0 : ByteArray} {w : World} {R : Value → World → Prop} {R' : Ending → World → Prop} (h : vc_loose_Unpack x0 w R) (hR : ∀ v w', R v w' → R' (.returned v) w') :
    Calls Tryz.prog 106 #[.string x0] w R' :=
  calls_of_body (vs := [(.string x0, false)]) (ty := ty) (ann := ⟨[], [], [], []⟩) (c := Tryz.f106.body.getD .skip) (by kernel_rfl) Tryz.func106 (by kernel_rfl) (by kernel_rfl) (Eq.mp (by kernel_rfl) h) hR
/-- loose.Read -/
def vc_loose_Read (x0 : Nat) (x1 : ByteArray) (w : World) (R : Value → World → Prop) : Prop :=
  ∀ w1 : World,
  (w1 = World.alloc w (Obj.cells (Array.mk [Value.int IntKind.i64 0, Value.string (ByteArray.mk (Array.mk []))]) 29) →
    Calls Tryz.prog (25 : Nat) (Array.mk [Value.string x1]) (w1) (fun e2 w3 =>
      ∃ s4 : ByteArray, ∃ n5 : Int, (e2 = Ending.returned (Value.tuple (Array.mk [Value.string s4, Value.int IntKind.i64 n5])) ∧
       ((((n5 != 0) = true →
          ∃ w6 : World, (Sem.run Tryz.prog (storeVar 29 (Addr.mk (Array.size (World.heap w)) 0 none) (Value.agg (Array.mk [Value.int IntKind.i64 0, Value.string (ByteArray.mk (Array.mk []))]))) w3 = Result.ok PUnit.unit w6 ∧
           ∃ n7 : Int, ∃ s8 : ByteArray, (Sem.run Tryz.prog (loadVar 29 (Addr.mk (Array.size (World.heap w)) 0 none)) w6 = Result.ok (Value.agg (Array.mk [Value.int IntKind.i64 n7, Value.string s8])) w6 ∧
            R (Value.tuple (Array.mk [Value.agg (Array.mk [Value.int IntKind.i64 n7, Value.string s8]), Value.int IntKind.i64 n5])) w6)))) ∧
        ((n5 != 0) = false →
          Calls Tryz.prog (34 : Nat) (Array.mk [Value.pointer (some (Addr.mk x0 0 none)), Value.string s4]) (w3) (fun e9 w10 =>
            ∃ s11 : ByteArray, ∃ n12 : Int, (e9 = Ending.returned (Value.tuple (Array.mk [Value.string s11, Value.int IntKind.i64 n12])) ∧
             ((((n12 != 0) = true →
                ∃ w13 : World, (Sem.run Tryz.prog (storeVar 29 (Addr.mk (Array.size (World.heap w)) 0 none) (Value.agg (Array.mk [Value.int IntKind.i64 0, Value.string (ByteArray.mk (Array.mk []))]))) w10 = Result.ok PUnit.unit w13 ∧
                 ∃ n14 : Int, ∃ s15 : ByteArray, (Sem.run Tryz.prog (loadVar 29 (Addr.mk (Array.size (World.heap w)) 0 none)) w13 = Result.ok (Value.agg (Array.mk [Value.int IntKind.i64 n14, Value.string s15])) w13 ∧
                  R (Value.tuple (Array.mk [Value.agg (Array.mk [Value.int IntKind.i64 n14, Value.string s15]), Value.int IntKind.i64 n12])) w13)))) ∧
              ((n12 != 0) = false →
                Calls Tryz.prog (106 : Nat) (Array.mk [Value.string s11]) (w10) (fun e16 w17 =>
                  ∃ n18 : Int, ∃ s19 : ByteArray, ∃ n20 : Int, (e16 = Ending.returned (Value.tuple (Array.mk [Value.agg (Array.mk [Value.int IntKind.i64 n18, Value.string s19]), Value.int IntKind.i64 n20])) ∧
                   ∀ w21 : World,
                   (w21 = World.alloc w17 (Obj.cells (Array.mk [Value.int IntKind.i64 0, Value.string (ByteArray.mk (Array.mk []))]) 29) →
                     ∃ w22 : World, (Sem.run Tryz.prog (storeVar 29 (Addr.mk (Array.size (World.heap w17)) 0 none) (Value.agg (Array.mk [Value.int IntKind.i64 n18, Value.string s19]))) w21 = Result.ok PUnit.unit w22 ∧
                      ((((n20 != 0) = true →
                         ∃ w23 : World, (Sem.run Tryz.prog (storeVar 29 (Addr.mk (Array.size (World.heap w)) 0 none) (Value.agg (Array.mk [Value.int IntKind.i64 0, Value.string (ByteArray.mk (Array.mk []))]))) w22 = Result.ok PUnit.unit w23 ∧
                          ∃ n24 : Int, ∃ s25 : ByteArray, (Sem.run Tryz.prog (loadVar 29 (Addr.mk (Array.size (World.heap w)) 0 none)) w23 = Result.ok (Value.agg (Array.mk [Value.int IntKind.i64 n24, Value.string s25])) w23 ∧
                           R (Value.tuple (Array.mk [Value.agg (Array.mk [Value.int IntKind.i64 n24, Value.string s25]), Value.int IntKind.i64 n20])) w23)))) ∧
                       ((n20 != 0) = false →
                         ∃ n26 : Int, ∃ s27 : ByteArray, (Sem.run Tryz.prog (loadVar 29 (Addr.mk (Array.size (World.heap w17)) 0 none)) w22 = Result.ok (Value.agg (Array.mk [Value.int IntKind.i64 n26, Value.string s27])) w22 ∧
                          Calls Tryz.prog (10 : Nat) (Array.mk [Value.agg (Array.mk [Value.int IntKind.i64 n26, Value.string s27])]) (w22) (fun e28 w29 =>
                            ∃ s30 : ByteArray, ∃ n31 : Int, (e28 = Ending.returned (Value.tuple (Array.mk [Value.string s30, Value.int IntKind.i64 n31])) ∧
                             ((((!ByteArray.toList s30 == ByteArray.toList x1) = true →
                                ∃ w32 : World, (Sem.run Tryz.prog (storeVar 29 (Addr.mk (Array.size (World.heap w)) 0 none) (Value.agg (Array.mk [Value.int IntKind.i64 0, Value.string (ByteArray.mk (Array.mk []))]))) w29 = Result.ok PUnit.unit w32 ∧
                                 ∃ n33 : Int, ∃ s34 : ByteArray, (Sem.run Tryz.prog (loadVar 29 (Addr.mk (Array.size (World.heap w)) 0 none)) w32 = Result.ok (Value.agg (Array.mk [Value.int IntKind.i64 n33, Value.string s34])) w32 ∧
                                  R (Value.tuple (Array.mk [Value.agg (Array.mk [Value.int IntKind.i64 n33, Value.string s34]), Value.int IntKind.i64 5])) w32)))) ∧
                              ((!ByteArray.toList s30 == ByteArray.toList x1) = false →
                                ∃ n35 : Int, ∃ s36 : ByteArray, (Sem.run Tryz.prog (loadVar 29 (Addr.mk (Array.size (World.heap w17)) 0 none)) w29 = Result.ok (Value.agg (Array.mk [Value.int IntKind.i64 n35, Value.string s36])) w29 ∧
                                 ∃ w37 : World, (Sem.run Tryz.prog (storeVar 29 (Addr.mk (Array.size (World.heap w)) 0 none) (Value.agg (Array.mk [Value.int IntKind.i64 n35, Value.string s36]))) w29 = Result.ok PUnit.unit w37 ∧
                                  ∃ n38 : Int, ∃ s39 : ByteArray, (Sem.run Tryz.prog (loadVar 29 (Addr.mk (Array.size (World.heap w)) 0 none)) w37 = Result.ok (Value.agg (Array.mk [Value.int IntKind.i64 n38, Value.string s39])) w37 ∧
                                   R (Value.tuple (Array.mk [Value.agg (Array.mk [Value.int IntKind.i64 n38, Value.string s39]), Value.int IntKind.i64 0])) w37)))))))))))))))))))))))
theorem vc_loose_Read_ok {x0 : Nat} {x1 : ByteArray} {w : World} {R : Value → World → Prop} {R' : Ending → World → Prop} (h : vc_loose_Read x0 x1 w R) (hR : ∀ v w', R v w' → R' (.returned v) w') :
    Calls Tryz.prog 68 #[.pointer (some ⟨x0, 0, none⟩), .string x1] w R' :=
  calls_of_body (vs := [(.pointer (some ⟨x0, 0, none⟩), true), (.string x1, false)]) (ty := ty) (ann := ⟨[], [], [], []⟩) (c := Tryz.f68.body.getD .skip) (by kernel_rfl) Tryz.func68 (by kernel_rfl) (by kernel_rfl) (Eq.mp (by kernel_rfl) h) hR
/-- loose.Write -/
def vc_loose_Write (x0_0 : Int) (x0_1 : ByteArray) (w : World) (R : Value → World → Prop) : Prop :=
  ∀ w1 : World,
  (w1 = World.alloc w (Obj.cells (Array.mk [Value.int IntKind.i64 x0_0, Value.string x0_1]) 29) →
    ∀ w2 : World,
    (w2 = World.alloc w1 (Obj.cells (Array.mk [Value.string (ByteArray.mk (Array.mk [])), Value.string (ByteArray.mk (Array.mk []))]) 31) →
      ∃ n3 : Int, ∃ s4 : ByteArray, (Sem.run Tryz.prog (loadVar 29 (Addr.mk (Array.size (World.heap w)) 0 none)) w2 = Result.ok (Value.agg (Array.mk [Value.int IntKind.i64 n3, Value.string s4])) w2 ∧
       Calls Tryz.prog (24 : Nat) (Array.mk [Value.agg (Array.mk [Value.int IntKind.i64 n3, Value.string s4])]) (w2) (fun e5 w6 =>
         ∃ s7 : ByteArray, ∃ n8 : Int, (e5 = Ending.returned (Value.tuple (Array.mk [Value.string s7, Value.int IntKind.i64 n8])) ∧
          ((((n8 != 0) = true →
             ∃ w9 : World, (Sem.run Tryz.prog (storeVar 31 (Addr.mk (Array.size (World.heap w1)) 0 none) (Value.agg (Array.mk [Value.string (ByteArray.mk (Array.mk [])), Value.string (ByteArray.mk (Array.mk []))]))) w6 = Result.ok PUnit.unit w9 ∧
              ∃ s10 : ByteArray, ∃ s11 : ByteArray, (Sem.run Tryz.prog (loadVar 31 (Addr.mk (Array.size (World.heap w1)) 0 none)) w9 = Result.ok (Value.agg (Array.mk [Value.string s10, Value.string s11])) w9 ∧
               R (Value.tuple (Array.mk [Value.agg (Array.mk [Value.string s10, Value.string s11]), Value.int IntKind.i64 n8])) w9)))) ∧
           ((n8 != 0) = false →
             ∃ n12 : Int, ∃ s13 : ByteArray, (Sem.run Tryz.prog (loadVar 29 (Addr.mk (Array.size (World.heap w)) 0 none)) w6 = Result.ok (Value.agg (Array.mk [Value.int IntKind.i64 n12, Value.string s13])) w6 ∧
              Calls Tryz.prog (10 : Nat) (Array.mk [Value.agg (Array.mk [Value.int IntKind.i64 n12, Value.string s13])]) (w6) (fun e14 w15 =>
                ∃ s16 : ByteArray, ∃ n17 : Int, (e14 = Ending.returned (Value.tuple (Array.mk [Value.string s16, Value.int IntKind.i64 n17])) ∧
                 Calls Tryz.prog (25 : Nat) (Array.mk [Value.string s16]) (w15) (fun e18 w19 =>
                   ∃ s20 : ByteArray, ∃ n21 : Int, (e18 = Ending.returned (Value.tuple (Array.mk [Value.string s20, Value.int IntKind.i64 n21])) ∧
                    Calls Tryz.prog (26 : Nat) (Array.mk [Value.string s7]) (w19) (fun e22 w23 =>
                      ∃ s24 : ByteArray, (e22 = Ending.returned (Value.string s24) ∧
                       ∃ w25 : World, (Sem.run Tryz.prog (storeVar 31 (Addr.mk (Array.size (World.heap w1)) 0 none) (Value.agg (Array.mk [Value.string s20, Value.string s24]))) w23 = Result.ok PUnit.unit w25 ∧
                        ∃ s26 : ByteArray, ∃ s27 : ByteArray, (Sem.run Tryz.prog (loadVar 31 (Addr.mk (Array.size (World.heap w1)) 0 none)) w25 = Result.ok (Value.agg (Array.mk [Value.string s26, Value.string s27])) w25 ∧
                         R (Value.tuple (Array.mk [Value.agg (Array.mk [Value.string s26, Value.string s27]), Value.int IntKind.i64 0])) w25))))))))))))))))
theorem vc_loose_Write_ok {x0_0 : Int} {x0_1 : ByteArray} {w : World} {R : Value → World → Prop} {R' : Ending → World → Prop} (h : vc_loose_Write x0_0 x0_1 w R) (hR : ∀ v w', R v w' → R' (.returned v) w') :
    Calls Tryz.prog 7 #[.agg #[.int .i64 x0_0, .string x0_1]] w R' :=
  calls_of_body (vs := [(.agg #[.int .i64 x0_0, .string x0_1], false)]) (ty := ty) (ann := ⟨[], [], [], []⟩) (c := Tryz.f7.body.getD .skip) (by kernel_rfl) Tryz.func7 (by kernel_rfl) (by kernel_rfl) (Eq.mp (by kernel_rfl) h) hR
end Go.Proofs.YtopjkjiobdigaaaGreatDoor

/- The package loose on an object of at most 65000 bytes: Path, Write, Unpack, Read. Conditions: as named. -/
set_option linter.unusedVariables false
namespace Go.Proofs.YtopjkjiobdigaaaGreatDoor
open Go Vc HexM ShaM SumM Go.Proofs

theorem boxF_store {w : World} {g : Nat} {cs : Array Value} (h : w.heap[g]? = some (.cells cs T_api_File (0, 0))) (hc : cs.size = 2) (p d : ByteArray) :
    ∃ w', (storeVar T_api_File ⟨g, 0, none⟩ (.agg #[.string p, .string d])).run Tryz.prog w = .ok () w' ∧ w'.heap[g]? = some (.cells #[.string p, .string d] T_api_File (0, 0)) ∧ Fr (· = g) w w' :=
  ⟨_, run_storeVar_row (P := Tryz.prog) w g T_api_File T_api_File _ #[.string p, .string d] h (by kernel_rfl) (by rw [hc]; rfl) (by simp [Value.oneCell']), setRow_heap w g _ #[.string p, .string d] T_api_File (0, 0) h, setRow_fr (· = g) w g _ rfl⟩
theorem boxF_load {w : World} {g : Nat} {p d : ByteArray} (h : w.heap[g]? = some (.cells #[.string p, .string d] T_api_File (0, 0))) : (loadVar T_api_File ⟨g, 0, none⟩).run Tryz.prog w = .ok (.agg #[.string p, .string d]) w :=
  load_agg (vs := [.string p, .string d]) (agg_of (by kernel_rfl)) (by kernel_rfl) fun k v hv => by rw [add_lit, Nat.zero_add, cell_blk h]; simpa using hv
theorem lpath_spec (id : ByteArray) (h : isId id.data.toList = true) (w : World) : Calls Tryz.prog F_loose_Path #[.string id] w fun e w' => e = .returned (.tuple #[.string (pathO id), .int .i64 0]) ∧ Fr (fun _ => False) w w' := by
  refine vc_loose_Path_ok (R := fun v w' => v = .tuple #[.string (pathO id), .int .i64 0] ∧ Fr (fun _ => False) w w') ?_ (fun v w' h => ⟨by rw [h.1], h.2⟩)
  have h40 := (isId_parts h).1
  have hsz : ∀ i j, (id.extract i j).size ≤ 40 := fun i j => by rw [ByteArray.size_extract]; omega
  refine (id_spec id (by omega) w).mono ?_
  rintro e w2 ⟨rfl, f2⟩
  rw [h]
  refine ⟨_, rfl, fun hb => (by cases hb), fun _ => ⟨⟨by omega, by omega⟩, ?_, ?_, ⟨by omega, by omega⟩, ?_, fun w4 d4 => ⟨rfl, f2.trans' (.drew _ d4)⟩⟩⟩
  · exact Nat.le_trans (Nat.add_le_add (Nat.le_of_eq (rfl : _ = 8)) (hsz _ _)) (by decide)
  · rw [ByteArray.size_append]
    exact Nat.le_trans (Nat.add_le_add (Nat.add_le_add (Nat.le_of_eq (rfl : _ = 8)) (hsz _ _)) (Nat.le_of_eq (rfl : _ = 1))) (by decide)
  · rw [ByteArray.size_append, ByteArray.size_append]
    exact Nat.le_trans (Nat.add_le_add (Nat.add_le_add (Nat.add_le_add (Nat.le_of_eq (rfl : _ = 8)) (hsz _ _)) (Nat.le_of_eq (rfl : _ = 1))) (hsz _ _)) (by decide)
theorem idO (k : Int) (d : ByteArray) : isId (idS k d).data.toList = true := by
  unfold idS
  rw [bs_mk]
  exact isId_hex (dig1_len _)
/-- An object's file. -/
noncomputable def fileO (k : Int) (d : ByteArray) : ByteArray := ⟨(frameS (deflT (encS k d)) (encS k d).data.toList).toArray⟩
/-- What is known of the stream in it. -/
def FileOK (k : Int) (d : ByteArray) : Prop := DefM.Stream (deflT (encS k d)) (encS k d).data.toList ∧ (deflT (encS k d)).length ≤ 2 * (encS k d).size + 5
theorem fileO_len (k : Int) (d : ByteArray) : (fileO k d).size = (deflT (encS k d)).length + 6 := by
  unfold fileO frameS
  rw [bs_mksize, List.length_append, List.length_append, bigB_length]
  simp only [List.length_cons, List.length_nil]
  omega
theorem fileO_size {k : Int} (hk : isKind k) {d : ByteArray} (hd : d.size ≤ 65000) (h : FileOK k d) : (fileO k d).size ≤ 130100 := by
  have h1 := encS_size hk hd
  have h2 := h.2
  rw [fileO_len]; omega
theorem fileO_read {k : Int} (hk : isKind k) {d : ByteArray} (hd : d.size ≤ 65000) (h : FileOK k d) : ZlM.read (fileO k d).data.toList 0 65536 = ((encS k d).data.toList, (deflT (encS k d)).length + 6, 0) := by
  have h1 := encS_size hk hd
  have := zread_stream (front := []) (back := []) (q := bigB 4 (adler (encS k d).data.toList)) h.1 (most := 65536) (by rw [bs_len]; omega) (Nat.le_refl _) (bigB_length _ _)
  rw [if_pos rfl] at this
  unfold fileO frameS
  rw [bs_mk]
  simpa using this
theorem lwrite_spec (k : Int) (hk : isKind k) (d : ByteArray) (hd : d.size ≤ 65000) {w : World} (ht : Tab10 w) : Calls Tryz.prog F_loose_Write #[.agg #[.int .i64 k, .string d]] w fun e w' =>
    e = .returned (.tuple #[.agg #[.string (pathO (idS k d)), .string (fileO k d)], .int .i64 0]) ∧ FileOK k d ∧ Fr (fun _ => False) w w' := by
  refine vc_loose_Write_ok (x0_0 := k) (x0_1 := d) (R := fun v w' => v = .tuple #[.agg #[.string (pathO (idS k d)), .string (fileO k d)], .int .i64 0] ∧ FileOK k d ∧ Fr (fun _ => False) w w') ?_ (fun v w' h => ⟨by rw [h.1], h.2⟩)
  intro w1 h1 w2 h2
  have f1 : Fr (fun _ => False) w w1 := by rw [h1]; exact .alloc _ _ _
  have f2 : Fr (fun _ => False) w1 w2 := by rw [h2]; exact .alloc _ _ _
  have hO2 : w2.heap[w.heap.size]? = some (.cells #[.int .i64 k, .string d] T_api_Object (0, 0)) := f2.keep (by rw [h1]; exact alloc_new _ _) (by simp)
  have hF2 : w2.heap[w1.heap.size]? = some (.cells #[.string ⟨#[]⟩, .string ⟨#[]⟩] T_api_File (0, 0)) := by rw [h2]; exact alloc_new _ _
  have hs1 : w.heap.size < w1.heap.size := by rw [h1]; simp
  clear h1 h2
  have g2 := f1.trans' f2
  refine ⟨k, d, boxO_load hO2, (oencode_spec k d hd (ht.keep g2)).mono ?_⟩
  rintro e w6 ⟨⟨_, rfl⟩ | ⟨hno, rfl⟩, f6⟩
  rotate_left
  · exact absurd hk hno
  have g6 := g2.trans' f6
  refine ⟨_, _, rfl, fun h => (by cases h), fun _ => ⟨k, d, boxO_load (f6.keep hO2 (by simp)), (oid_spec k d hd (ht.keep g6)).mono ?_⟩⟩
  rintro e w15 ⟨⟨_, rfl⟩ | ⟨hno, rfl⟩, f15⟩
  rotate_left
  · exact absurd hk hno
  refine ⟨_, _, rfl, (lpath_spec _ (idO k d) w15).mono ?_⟩
  rintro e w19 ⟨rfl, f19⟩
  have hes := encS_size hk hd
  refine ⟨_, _, rfl, (zwrite_spec (encS k d) (by omega) w19).mono ?_⟩
  rintro e w23 ⟨rfl, hst, hlen, f23⟩
  have f2_23 := ((f6.trans' f15).trans' f19).trans' f23
  obtain ⟨w25, hr25, hb25, f25⟩ := boxF_store (f2_23.keep hF2 (by simp)) rfl (pathO (idS k d)) (fileO k d)
  exact ⟨_, rfl, w25, hr25, _, _, boxF_load hb25, rfl, ⟨hst, hlen⟩, (g2.trans' f2_23).trans f25 fun q hq e => by omega⟩
theorem lunpack_spec {k : Int} (hk : isKind k) {d : ByteArray} (hd : d.size ≤ 65000) (h : FileOK k d) {w : World} (ht : Tab10 w) : Calls Tryz.prog F_loose_Unpack #[.string (fileO k d)] w fun e w' =>
    e = .returned (.tuple #[.agg #[.int .i64 k, .string d], .int .i64 0]) ∧ Fr (fun _ => False) w w' := by
  refine vc_loose_Unpack_ok (R := fun v w' => v = .tuple #[.agg #[.int .i64 k, .string d], .int .i64 0] ∧ Fr (fun _ => False) w w') ?_ (fun v w' h => ⟨by rw [h.1], h.2⟩)
  intro w1 h1
  have f1 : Fr (fun _ => False) w w1 := by rw [h1]; exact .alloc _ _ _
  have hO1 : w1.heap[w.heap.size]? = some (.cells #[.int .i64 0, .string ⟨#[]⟩] T_api_Object (0, 0)) := by rw [h1]; exact alloc_new _ _
  clear h1
  have hfs := fileO_size hk hd h
  refine (zread_spec (fileO k d) (by omega) 0 65536 w1).mono ?_
  rintro e w3 ⟨rfl, _, f3⟩
  rw [fileO_read hk hd h]
  refine ⟨_, _, _, rfl, fun h => (by cases h), fun _ => ⟨fun hne => ?_, fun _ => ?_⟩⟩
  · rw [fileO_len] at hne
    simp at hne
  · have g3 := f1.trans' f3
    dsimp only
    rw [bs_self]
    refine (odecode_spec k hk d hd (ht.keep g3)).mono ?_
    rintro e w14 ⟨rfl, f14⟩
    obtain ⟨w18, hr18, hb18, f18⟩ := boxO_store ((f3.trans' f14).keep hO1 (by simp)) rfl k d
    exact ⟨_, _, _, rfl, w18, hr18, _, _, boxO_load hb18, rfl, (g3.trans' f14).trans f18 fun q hq e => by omega⟩
theorem lread_spec {k : Int} (hk : isKind k) {d : ByteArray} (hd : d.size ≤ 65000) (h : FileOK k d) {w : World} (ht : Tab10 w) {b : Nat} {l : Sl} {ys : List FileE} {size : Int} (hS : IsSnap w b l ys size) (hr : Rising ys)
    (hg : getE ys (pathO (idS k d)) = (fileO k d, 0)) : Calls Tryz.prog F_loose_Read #[.pointer (some ⟨b, 0, none⟩), .string (idS k d)] w fun e w' =>
    e = .returned (.tuple #[.agg #[.int .i64 k, .string d], .int .i64 0]) ∧ Fr (fun _ => False) w w' := by
  refine vc_loose_Read_ok (R := fun v w' => v = .tuple #[.agg #[.int .i64 k, .string d], .int .i64 0] ∧ Fr (fun _ => False) w w') ?_ (fun v w' h => ⟨by rw [h.1], h.2⟩)
  intro w1 h1
  have f1 : Fr (fun _ => False) w w1 := by rw [h1]; exact .alloc _ _ _
  have hO1 : w1.heap[w.heap.size]? = some (.cells #[.int .i64 0, .string ⟨#[]⟩] T_api_Object (0, 0)) := by rw [h1]; exact alloc_new _ _
  clear h1
  refine (lpath_spec _ (idO k d) w1).mono ?_
  rintro e w3 ⟨rfl, f3⟩
  refine ⟨_, _, rfl, fun h => (by cases h), fun _ => (get_spec (hS.keep (f1.trans' f3)) hr (pathO (idS k d))).mono ?_⟩
  rintro e w10 ⟨rfl, f10⟩
  rw [hg]
  have g10 := (f1.trans' f3).trans' f10
  refine ⟨_, _, rfl, fun h => (by cases h), fun _ => (lunpack_spec hk hd h (ht.keep g10)).mono ?_⟩
  rintro e w17 ⟨rfl, f17⟩
  refine ⟨_, _, _, rfl, fun w21 h21 => ?_⟩
  have f21 : Fr (fun _ => False) w17 w21 := by rw [h21]; exact .alloc _ _ _
  have hP21 : w21.heap[w17.heap.size]? = some (.cells #[.int .i64 0, .string ⟨#[]⟩] T_api_Object (0, 0)) := by rw [h21]; exact alloc_new _ _
  clear h21
  obtain ⟨w22, hr22, hb22, f22⟩ := boxO_store hP21 rfl k d
  have hs17 := ((f3.trans' f10).trans' f17).size
  have hlt1 := lt_blk hO1
  have g22 : Fr (fun _ => False) w w22 := ((g10.trans' f17).trans' f21).trans f22 fun q hq e => by have := (g10.trans' f17).size; omega
  have hO22 : w22.heap[w.heap.size]? = some (.cells #[.int .i64 0, .string ⟨#[]⟩] T_api_Object (0, 0)) := f22.keep ((((f3.trans' f10).trans' f17).trans' f21).keep hO1 (by simp)) (by omega)
  refine ⟨w22, hr22, fun h => (by cases h), fun _ => ⟨_, _, boxO_load hb22, (oid_spec k d hd (ht.keep g22)).mono ?_⟩⟩
  rintro e w29 ⟨⟨_, rfl⟩ | ⟨hno, rfl⟩, f29⟩
  rotate_left
  · exact absurd hk hno
  refine ⟨_, _, rfl, fun hne => ?_, fun _ => ⟨_, _, boxO_load (f29.keep hb22 (by simp)), ?_⟩⟩
  · simp at hne
  · obtain ⟨w37, hr37, hb37, f37⟩ := boxO_store (f29.keep hO22 (by simp)) rfl k d
    exact ⟨w37, hr37, _, _, boxO_load hb37, rfl, (g22.trans' f29).trans f37 fun q hq e => by omega⟩
end Go.Proofs.YtopjkjiobdigaaaGreatDoor

/- Formulas of 3 Go functions of this seat (written by a program of the author's, vcgen.py), and that each is enough for the call. No condition. -/
set_option linter.unusedVariables false
namespace Go.Proofs.YtopjkjiobdigaaaGreatDoor
open Go Vc Go.Proofs
set_option maxRecDepth 100000
/-- odb.Open -/
def vc_odb_Open (x0 : Nat) (w : World) (R : Value → World → Prop) : Prop :=
  ∀ w1 : World,
  (w1 = World.alloc w (Obj.cells (Array.mk [Value.pointer (some (Addr.mk x0 0 none)), Value.slice none 0 0]) 77) →
    Calls Tryz.prog (31 : Nat) (Array.mk [Value.pointer (some (Addr.mk x0 0 none)), Value.string (ByteArray.mk (Array.mk [111, 98, 106, 101, 99, 116, 115, 47, 112, 97, 99, 107, 47, 112, 97, 99, 107, 45]))]) (w1) (fun e2 w3 =>
      ∃ l4 : Sl, (e2 = Ending.returned (Value.slice l4.1 l4.2 l4.3) ∧
       ∃ I5 : Int → World → Prop, ∃ I6 : Int → World → Nat, (I5 0 w3 ∧
        ∀ n7 : Int,
        ∀ w8 : World,
        (I5 n7 w8 →
          (((decide (n7 < (↑l4.2 : Int)) = true →
             ((0 ≤ n7 ∧
               n7 < (↑l4.2 : Int)) ∧
              ∃ a9 : Addr, (l4.1 = some a9 ∧
               ∃ s10 : ByteArray, (World.cell? w8 (Addr.add a9 (Int.toNat n7 * 1)) = some (Value.string s10) ∧
                (((0 : Int) ≤ (18 : Int) ∧
                  18 ≤ (↑(ByteArray.size s10) : Int)) ∧
                 Calls Tryz.prog (32 : Nat) (Array.mk [Value.string (ByteArray.extract s10 (Int.toNat 18) (ByteArray.size s10)), Value.string (ByteArray.mk (Array.mk [46, 105, 100, 120]))]) (w8) (fun e11 w12 =>
                   ∃ s13 : ByteArray, ∃ b14 : Bool, (e11 = Ending.returned (Value.tuple (Array.mk [Value.string s13, Value.bool b14])) ∧
                    ((((!b14) = true →
                       (I5 (IntKind.wrap IntKind.i64 (n7 + 1)) w12 ∧
                        I6 (IntKind.wrap IntKind.i64 (n7 + 1)) w12 < I6 n7 w8))) ∧
                     ((!b14) = false →
                       Calls Tryz.prog (33 : Nat) (Array.mk [Value.string s13]) (w12) (fun e15 w16 =>
                         ∃ b17 : Bool, (e15 = Ending.returned (Value.bool b17) ∧
                          ((((!b17) = true →
                             (I5 (IntKind.wrap IntKind.i64 (n7 + 1)) w16 ∧
                              I6 (IntKind.wrap IntKind.i64 (n7 + 1)) w16 < I6 n7 w8))) ∧
                           ((!b17) = false →
                             Calls Tryz.prog (34 : Nat) (Array.mk [Value.pointer (some (Addr.mk x0 0 none)), Value.string s10]) (w16) (fun e18 w19 =>
                               ∃ s20 : ByteArray, ∃ n21 : Int, (e18 = Ending.returned (Value.tuple (Array.mk [Value.string s20, Value.int IntKind.i64 n21])) ∧
                                Calls Tryz.prog (35 : Nat) (Array.mk [Value.string s20]) (w19) (fun e22 w23 =>
                                  ∃ p24 : Option Addr, ∃ n25 : Int, (e22 = Ending.returned (Value.tuple (Array.mk [Value.pointer p24, Value.int IntKind.i64 n25])) ∧
                                   ((((n25 != 0) = true →
                                      R (Value.tuple (Array.mk [Value.pointer none, Value.int IntKind.i64 n25])) w23)) ∧
                                    ((n25 != 0) = false →
                                      (ByteArray.size (ByteArray.mk (Array.mk [111, 98, 106, 101, 99, 116, 115, 47, 112, 97, 99, 107, 47, 112, 97, 99, 107, 45])) + ByteArray.size s13 ≤ 9223372036854775807 ∧
                                       (ByteArray.size (ByteArray.mk (Array.mk [111, 98, 106, 101, 99, 116, 115, 47, 112, 97, 99, 107, 47, 112, 97, 99, 107, 45]) ++ s13) + ByteArray.size (ByteArray.mk (Array.mk [46, 112, 97, 99, 107])) ≤ 9223372036854775807 ∧
                                        Calls Tryz.prog (34 : Nat) (Array.mk [Value.pointer (some (Addr.mk x0 0 none)), Value.string (ByteArray.mk (Array.mk [111, 98, 106, 101, 99, 116, 115, 47, 112, 97, 99, 107, 47, 112, 97, 99, 107, 45]) ++ s13 ++ ByteArray.mk (Array.mk [46, 112, 97, 99, 107]))]) (w23) (fun e26 w27 =>
                                          ∃ s28 : ByteArray, ∃ n29 : Int, (e26 = Ending.returned (Value.tuple (Array.mk [Value.string s28, Value.int IntKind.i64 n29])) ∧
                                           ((((n29 != 0) = true →
                                              R (Value.tuple (Array.mk [Value.pointer none, Value.int IntKind.i64 n29])) w27)) ∧
                                            ((n29 != 0) = false →
                                              Calls Tryz.prog (36 : Nat) (Array.mk [Value.string s28]) (w27) (fun e30 w31 =>
                                                ∃ n32 : Int, ∃ n33 : Int, (e30 = Ending.returned (Value.tuple (Array.mk [Value.int IntKind.i64 n32, Value.int IntKind.i64 n33])) ∧
                                                 ((((n33 != 0) = true →
                                                    R (Value.tuple (Array.mk [Value.pointer none, Value.int IntKind.i64 n33])) w31)) ∧
                                                  ((n33 != 0) = false →
                                                    Calls Tryz.prog (37 : Nat) (Array.mk [Value.pointer p24]) (w31) (fun e34 w35 =>
                                                      ∃ n36 : Int, (e34 = Ending.returned (Value.int IntKind.i64 n36) ∧
                                                       ((((n32 != n36) = true →
                                                          R (Value.tuple (Array.mk [Value.pointer none, Value.int IntKind.i64 4])) w35)) ∧
                                                        ((n32 != n36) = false →
                                                          ((0 ≤ IntKind.wrap IntKind.i64 ((↑(ByteArray.size s28) : Int) - 20) ∧
                                                            IntKind.wrap IntKind.i64 ((↑(ByteArray.size s28) : Int) - 20) ≤ (↑(ByteArray.size s28) : Int)) ∧
                                                           Calls Tryz.prog (38 : Nat) (Array.mk [Value.string (ByteArray.extract s28 (Int.toNat (IntKind.wrap IntKind.i64 ((↑(ByteArray.size s28) : Int) - 20))) (ByteArray.size s28))]) (w35) (fun e37 w38 =>
                                                             ∃ s39 : ByteArray, (e37 = Ending.returned (Value.string s39) ∧
                                                              Calls Tryz.prog (39 : Nat) (Array.mk [Value.pointer p24]) (w38) (fun e40 w41 =>
                                                                ∃ s42 : ByteArray, (e40 = Ending.returned (Value.string s42) ∧
                                                                 ((((!ByteArray.toList s39 == ByteArray.toList s42) = true →
                                                                    R (Value.tuple (Array.mk [Value.pointer none, Value.int IntKind.i64 5])) w41)) ∧
                                                                  ((!ByteArray.toList s39 == ByteArray.toList s42) = false →
                                                                    ∃ l43 : Sl, (World.cell? w41 (Addr.mk (Array.size (World.heap w)) 1 none) = some (Value.slice l43.1 l43.2 l43.3) ∧
                                                                     ∀ w44 : World,
                                                                     (w44 = World.alloc w41 (Obj.cells (Array.mk [Value.string s28, Value.pointer p24]) 86) →
                                                                       ∃ w45 : World, ∃ l46 : Sl, (Sem.run Tryz.prog (Builtin.append_ (Array.mk [75, 75]) 75 (Array.mk [Value.slice l43.1 l43.2 l43.3, Value.slice (some (Addr.mk (Array.size (World.heap w41)) 0 none)) 1 1])) w44 = Result.ok (Value.slice l46.1 l46.2 l46.3) w45 ∧
                                                                        (Wr w45 (Addr.mk (Array.size (World.heap w)) 1 none) ∧
                                                                         ∀ w47 : World,
                                                                         (w47 = World.setCell w45 (Addr.mk (Array.size (World.heap w)) 1 none) (Value.slice l46.1 l46.2 l46.3) →
                                                                           (I5 (IntKind.wrap IntKind.i64 (n7 + 1)) w47 ∧
                                                                            I6 (IntKind.wrap IntKind.i64 (n7 + 1)) w47 < I6 n7 w8))))))))))))))))))))))))))))))))))))))))))))))) ∧
           (decide (n7 < (↑l4.2 : Int)) = false →
             R (Value.tuple (Array.mk [Value.pointer (some (Addr.mk (Array.size (World.heap w)) 0 none)), Value.int IntKind.i64 0])) w8)))))))
theorem vc_odb_Open_ok {x0 : Nat} {w : World} {R : Value → World → Prop} {R' : Ending → World → Prop} (h : vc_odb_Open x0 w R) (hR : ∀ v w', R v w' → R' (.returned v) w') :
    Calls Tryz.prog 9 #[.pointer (some ⟨x0, 0, none⟩)] w R' :=
  calls_of_body (vs := [(.pointer (some ⟨x0, 0, none⟩), true)]) (ty := ty) (ann := ⟨[], [(3, [(21, .int .i64)])], [], []⟩) (c := Tryz.f9.body.getD .skip) (by kernel_rfl) Tryz.func9 (by kernel_rfl) (by kernel_rfl) (Eq.mp (by kernel_rfl) h) hR
/-- (*odb.Odb).Get -/
def vc_odb_Odb_Get (x0 : Nat) (x1 : ByteArray) (w : World) (R : Value → World → Prop) : Prop :=
  ∀ w1 : World,
  (w1 = World.alloc w (Obj.cells (Array.mk [Value.int IntKind.i64 0, Value.string (ByteArray.mk (Array.mk []))]) 29) →
    ∃ p2 : Option Addr, (World.cell? w1 (Addr.mk x0 0 none) = some (Value.pointer p2) ∧
     Calls Tryz.prog (68 : Nat) (Array.mk [Value.pointer p2, Value.string x1]) (w1) (fun e3 w4 =>
       ∃ n5 : Int, ∃ s6 : ByteArray, ∃ n7 : Int, (e3 = Ending.returned (Value.tuple (Array.mk [Value.agg (Array.mk [Value.int IntKind.i64 n5, Value.string s6]), Value.int IntKind.i64 n7])) ∧
        ∀ w8 : World,
        (w8 = World.alloc w4 (Obj.cells (Array.mk [Value.int IntKind.i64 0, Value.string (ByteArray.mk (Array.mk []))]) 29) →
          ∃ w9 : World, (Sem.run Tryz.prog (storeVar 29 (Addr.mk (Array.size (World.heap w4)) 0 none) (Value.agg (Array.mk [Value.int IntKind.i64 n5, Value.string s6]))) w8 = Result.ok PUnit.unit w9 ∧
           ((((n7 != 7) = true →
              ∃ n10 : Int, ∃ s11 : ByteArray, (Sem.run Tryz.prog (loadVar 29 (Addr.mk (Array.size (World.heap w4)) 0 none)) w9 = Result.ok (Value.agg (Array.mk [Value.int IntKind.i64 n10, Value.string s11])) w9 ∧
               ∃ w12 : World, (Sem.run Tryz.prog (storeVar 29 (Addr.mk (Array.size (World.heap w)) 0 none) (Value.agg (Array.mk [Value.int IntKind.i64 n10, Value.string s11]))) w9 = Result.ok PUnit.unit w12 ∧
                ∃ n13 : Int, ∃ s14 : ByteArray, (Sem.run Tryz.prog (loadVar 29 (Addr.mk (Array.size (World.heap w)) 0 none)) w12 = Result.ok (Value.agg (Array.mk [Value.int IntKind.i64 n13, Value.string s14])) w12 ∧
                 R (Value.tuple (Array.mk [Value.agg (Array.mk [Value.int IntKind.i64 n13, Value.string s14]), Value.int IntKind.i64 n7])) w12))))) ∧
            ((n7 != 7) = false →
              ∃ l15 : Sl, (World.cell? w9 (Addr.mk x0 1 none) = some (Value.slice l15.1 l15.2 l15.3) ∧
               ∃ I16 : Int → World → Prop, ∃ I17 : Int → World → Nat, (I16 0 w9 ∧
                ∀ n18 : Int,
                ∀ w19 : World,
                (I16 n18 w19 →
                  (((decide (n18 < (↑l15.2 : Int)) = true →
                     ((0 ≤ n18 ∧
                       n18 < (↑l15.2 : Int)) ∧
                      ∃ a20 : Addr, (l15.1 = some a20 ∧
                       ∃ s21 : ByteArray, ∃ p22 : Option Addr, (Sem.run Tryz.prog (loadVar 86 (Addr.add a20 (Int.toNat n18 * 2))) w19 = Result.ok (Value.agg (Array.mk [Value.string s21, Value.pointer p22])) w19 ∧
                        ∀ w23 : World,
                        (w23 = World.alloc w19 (Obj.cells (Array.mk [Value.string (ByteArray.mk (Array.mk [])), Value.pointer none]) 86) →
                          ∃ w24 : World, (Sem.run Tryz.prog (storeVar 86 (Addr.mk (Array.size (World.heap w19)) 0 none) (Value.agg (Array.mk [Value.string s21, Value.pointer p22]))) w23 = Result.ok PUnit.unit w24 ∧
                           ∃ p25 : Option Addr, (World.cell? w24 (Addr.mk (Array.size (World.heap w19)) 1 none) = some (Value.pointer p25) ∧
                            Calls Tryz.prog (69 : Nat) (Array.mk [Value.pointer p25, Value.string x1]) (w24) (fun e26 w27 =>
                              ∃ s28 : ByteArray, ∃ n29 : Int, ∃ n30 : Int, ∃ n31 : Int, (e26 = Ending.returned (Value.tuple (Array.mk [Value.agg (Array.mk [Value.string s28, Value.int IntKind.i64 n29, Value.int IntKind.u32 n30]), Value.int IntKind.i64 n31])) ∧
                               ∀ w32 : World,
                               (w32 = World.alloc w27 (Obj.cells (Array.mk [Value.string (ByteArray.mk (Array.mk [])), Value.int IntKind.i64 0, Value.int IntKind.u32 0]) 121) →
                                 ∃ w33 : World, (Sem.run Tryz.prog (storeVar 121 (Addr.mk (Array.size (World.heap w27)) 0 none) (Value.agg (Array.mk [Value.string s28, Value.int IntKind.i64 n29, Value.int IntKind.u32 n30]))) w32 = Result.ok PUnit.unit w33 ∧
                                  ((((n31 == 0) = true →
                                     ∃ s34 : ByteArray, ∃ p35 : Option Addr, (Sem.run Tryz.prog (loadVar 86 (Addr.mk (Array.size (World.heap w19)) 0 none)) w33 = Result.ok (Value.agg (Array.mk [Value.string s34, Value.pointer p35])) w33 ∧
                                      Calls Tryz.prog (70 : Nat) (Array.mk [Value.agg (Array.mk [Value.string s34, Value.pointer p35]), Value.string x1]) (w33) (fun e36 w37 =>
                                        ∃ n38 : Int, ∃ s39 : ByteArray, ∃ n40 : Int, (e36 = Ending.returned (Value.tuple (Array.mk [Value.agg (Array.mk [Value.int IntKind.i64 n38, Value.string s39]), Value.int IntKind.i64 n40])) ∧
                                         ∃ w41 : World, (Sem.run Tryz.prog (storeVar 29 (Addr.mk (Array.size (World.heap w)) 0 none) (Value.agg (Array.mk [Value.int IntKind.i64 n38, Value.string s39]))) w37 = Result.ok PUnit.unit w41 ∧
                                          ∃ n42 : Int, ∃ s43 : ByteArray, (Sem.run Tryz.prog (loadVar 29 (Addr.mk (Array.size (World.heap w)) 0 none)) w41 = Result.ok (Value.agg (Array.mk [Value.int IntKind.i64 n42, Value.string s43])) w41 ∧
                                           R (Value.tuple (Array.mk [Value.agg (Array.mk [Value.int IntKind.i64 n42, Value.string s43]), Value.int IntKind.i64 n40])) w41))))))) ∧
                                   ((n31 == 0) = false →
                                     (I16 (IntKind.wrap IntKind.i64 (n18 + 1)) w33 ∧
                                      I17 (IntKind.wrap IntKind.i64 (n18 + 1)) w33 < I17 n18 w19))))))))))))))) ∧
                   (decide (n18 < (↑l15.2 : Int)) = false →
                     ∃ w44 : World, (Sem.run Tryz.prog (storeVar 29 (Addr.mk (Array.size (World.heap w)) 0 none) (Value.agg (Array.mk [Value.int IntKind.i64 0, Value.string (ByteArray.mk (Array.mk []))]))) w19 = Result.ok PUnit.unit w44 ∧
                      ∃ n45 : Int, ∃ s46 : ByteArray, (Sem.run Tryz.prog (loadVar 29 (Addr.mk (Array.size (World.heap w)) 0 none)) w44 = Result.ok (Value.agg (Array.mk [Value.int IntKind.i64 n45, Value.string s46])) w44 ∧
                       R (Value.tuple (Array.mk [Value.agg (Array.mk [Value.int IntKind.i64 n45, Value.string s46]), Value.int IntKind.i64 7])) w44)))))))))))))))
theorem vc_odb_Odb_Get_ok {x0 : Nat} {x1 : ByteArray} {w : World} {R : Value → World → Prop} {R' : Ending → World → Prop} (h : vc_odb_Odb_Get x0 x1 w R) (hR : ∀ v w', R v w' → R' (.returned v) w') :
    Calls Tryz.prog 41 #[.pointer (some ⟨x0, 0, none⟩), .string x1] w R' :=
  calls_of_body (vs := [(.pointer (some ⟨x0, 0, none⟩), true), (.string x1, false)]) (ty := ty) (ann := ⟨[], [(5, [(30, .int .i64)])], [], []⟩) (c := Tryz.f41.body.getD .skip) (by kernel_rfl) Tryz.func41 (by kernel_rfl) (by kernel_rfl) (Eq.mp (by kernel_rfl) h) hR
/-- (*odb.Odb).Kind -/
def vc_odb_Odb_Kind (x0 : Nat) (x1 : ByteArray) (x2 : Int) (w : World) (R : Value → World → Prop) : Prop :=
  Calls Tryz.prog (41 : Nat) (Array.mk [Value.pointer (some (Addr.mk x0 0 none)), Value.string x1]) (w) (fun e1 w2 =>
    ∃ n3 : Int, ∃ s4 : ByteArray, ∃ n5 : Int, (e1 = Ending.returned (Value.tuple (Array.mk [Value.agg (Array.mk [Value.int IntKind.i64 n3, Value.string s4]), Value.int IntKind.i64 n5])) ∧
     ∀ w6 : World,
     (w6 = World.alloc w2 (Obj.cells (Array.mk [Value.int IntKind.i64 0, Value.string (ByteArray.mk (Array.mk []))]) 29) →
       ∃ w7 : World, (Sem.run Tryz.prog (storeVar 29 (Addr.mk (Array.size (World.heap w2)) 0 none) (Value.agg (Array.mk [Value.int IntKind.i64 n3, Value.string s4]))) w6 = Result.ok PUnit.unit w7 ∧
        ((((n5 == 0) = true →
           ∃ n8 : Int, (World.cell? w7 (Addr.mk (Array.size (World.heap w2)) 0 none) = some (Value.int IntKind.i64 n8) ∧
            ((((n8 != x2) = true →
               (((((10 : Int) != (0 : Int)) = true →
                  R (Value.tuple (Array.mk [Value.string (ByteArray.mk (Array.mk [])), Value.int IntKind.i64 10])) w7)) ∧
                (((10 : Int) != (0 : Int)) = false →
                  ∃ s9 : ByteArray, (World.cell? w7 (Addr.mk (Array.size (World.heap w2)) 1 none) = some (Value.string s9) ∧
                   R (Value.tuple (Array.mk [Value.string s9, Value.int IntKind.i64 0])) w7))))) ∧
             ((n8 != x2) = false →
               ((((n5 != 0) = true →
                  R (Value.tuple (Array.mk [Value.string (ByteArray.mk (Array.mk [])), Value.int IntKind.i64 n5])) w7)) ∧
                ((n5 != 0) = false →
                  ∃ s10 : ByteArray, (World.cell? w7 (Addr.mk (Array.size (World.heap w2)) 1 none) = some (Value.string s10) ∧
                   R (Value.tuple (Array.mk [Value.string s10, Value.int IntKind.i64 0])) w7)))))))) ∧
         ((n5 == 0) = false →
           ((((n5 != 0) = true →
              R (Value.tuple (Array.mk [Value.string (ByteArray.mk (Array.mk [])), Value.int IntKind.i64 n5])) w7)) ∧
            ((n5 != 0) = false →
              ∃ s11 : ByteArray, (World.cell? w7 (Addr.mk (Array.size (World.heap w2)) 1 none) = some (Value.string s11) ∧
               R (Value.tuple (Array.mk [Value.string s11, Value.int IntKind.i64 0])) w7)))))))))
theorem vc_odb_Odb_Kind_ok {x0 : Nat} {x1 : ByteArray} {x2 : Int} {w : World} {R : Value → World → Prop} {R' : Ending → World → Prop} (h : vc_odb_Odb_Kind x0 x1 x2 w R) (hR : ∀ v w', R v w' → R' (.returned v) w') :
    Calls Tryz.prog 11 #[.pointer (some ⟨x0, 0, none⟩), .string x1, .int .i64 x2] w R' :=
  calls_of_body (vs := [(.pointer (some ⟨x0, 0, none⟩), true), (.string x1, false), (.int .i64 x2, false)]) (ty := ty) (ann := ⟨[], [], [], []⟩) (c := Tryz.f11.body.getD .skip) (by kernel_rfl) Tryz.func11 (by kernel_rfl) (by kernel_rfl) (Eq.mp (by kernel_rfl) h) hR
end Go.Proofs.YtopjkjiobdigaaaGreatDoor

/- The package odb over one loose object, no pack: Open, Get, Kind. Conditions: as named. -/
set_option linter.unusedVariables false
namespace Go.Proofs.YtopjkjiobdigaaaGreatDoor
open Go Vc HexM ShaM SumM Go.Proofs

theorem oopen_spec {w : World} {b : Nat} {l : Sl} {ys : List FileE} {size : Int} (hS : IsSnap w b l ys size) (hr : Rising ys) (hp : underE ys packS = []) : Calls Tryz.prog F_odb_Open #[.pointer (some ⟨b, 0, none⟩)] w fun e w' =>
    e = .returned (.tuple #[.pointer (some ⟨w.heap.size, 0, none⟩), .int .i64 0]) ∧ w'.heap[w.heap.size]? = some (.cells #[.pointer (some ⟨b, 0, none⟩), .slice none 0 0] T_odb_Odb (0, 0)) ∧ Fr (fun _ => False) w w' := by
  refine vc_odb_Open_ok (R := fun v w' => v = .tuple #[.pointer (some ⟨w.heap.size, 0, none⟩), .int .i64 0] ∧ w'.heap[w.heap.size]? = some (.cells #[.pointer (some ⟨b, 0, none⟩), .slice none 0 0] T_odb_Odb (0, 0)) ∧ Fr (fun _ => False) w w') ?_ (fun v w' h => ⟨by rw [h.1], h.2⟩)
  intro w1 h1
  have f1 : Fr (fun _ => False) w w1 := by rw [h1]; exact .alloc _ _ _
  have hD1 : w1.heap[w.heap.size]? = some (.cells #[.pointer (some ⟨b, 0, none⟩), .slice none 0 0] T_odb_Odb (0, 0)) := by rw [h1]; exact alloc_new _ _
  clear h1
  refine (under_spec (hS.keep f1) hr packS).mono ?_
  rintro e w3 ⟨o, rfl, ho, f3⟩
  rw [hp] at ho
  have hl0 : o.len = 0 := by have := ho.len; simpa [strV] using this
  refine ⟨o, rfl, fun i w' => i = 0 ∧ w' = w3, fun _ _ => 0, ⟨rfl, rfl⟩, ?_⟩
  rintro i w8 ⟨hi, hw⟩
  subst hi
  replace hw := hw.symm
  subst hw
  refine ⟨fun hlt => ?_, fun _ => ⟨rfl, f3.keep hD1 (by simp), f1.trans' f3⟩⟩
  have := of_decide_eq_true hlt
  omega
theorem oget_spec {k : Int} (hk : isKind k) {d : ByteArray} (hd : d.size ≤ 65000) (h : FileOK k d) {w : World} (ht : Tab10 w) {D b : Nat} {l : Sl} {ys : List FileE} {size : Int} (hS : IsSnap w b l ys size) (hr : Rising ys)
    (hg : getE ys (pathO (idS k d)) = (fileO k d, 0)) {s2 : Value} (hD : w.heap[D]? = some (.cells #[.pointer (some ⟨b, 0, none⟩), s2] T_odb_Odb (0, 0))) :
    Calls Tryz.prog F_odb_Odb_Get #[.pointer (some ⟨D, 0, none⟩), .string (idS k d)] w fun e w' => e = .returned (.tuple #[.agg #[.int .i64 k, .string d], .int .i64 0]) ∧ Fr (fun _ => False) w w' := by
  refine vc_odb_Odb_Get_ok (R := fun v w' => v = .tuple #[.agg #[.int .i64 k, .string d], .int .i64 0] ∧ Fr (fun _ => False) w w') ?_ (fun v w' h => ⟨by rw [h.1], h.2⟩)
  intro w1 h1
  have f1 : Fr (fun _ => False) w w1 := by rw [h1]; exact .alloc _ _ _
  have hO1 : w1.heap[w.heap.size]? = some (.cells #[.int .i64 0, .string ⟨#[]⟩] T_api_Object (0, 0)) := by rw [h1]; exact alloc_new _ _
  clear h1
  have hlt1 := lt_blk hO1
  refine ⟨some ⟨b, 0, none⟩, by rw [cell_blk (f1.keep hD (by simp))]; rfl, (lread_spec hk hd h (ht.keep f1) (hS.keep f1) hr hg).mono ?_⟩
  rintro e w4 ⟨rfl, f4⟩
  refine ⟨_, _, _, rfl, fun w8 h8 => ?_⟩
  have f8 : Fr (fun _ => False) w4 w8 := by rw [h8]; exact .alloc _ _ _
  have hP8 : w8.heap[w4.heap.size]? = some (.cells #[.int .i64 0, .string ⟨#[]⟩] T_api_Object (0, 0)) := by rw [h8]; exact alloc_new _ _
  clear h8
  have hs4 := f4.size
  obtain ⟨w9, hr9, hb9, f9⟩ := boxO_store hP8 rfl k d
  have hO9 := f9.keep ((f4.trans' f8).keep hO1 (by simp)) (by omega)
  refine ⟨w9, hr9, fun _ => ⟨_, _, boxO_load hb9, ?_⟩, fun h => (by cases h)⟩
  obtain ⟨w12, hr12, hb12, f12⟩ := boxO_store hO9 rfl k d
  refine ⟨w12, hr12, _, _, boxO_load hb12, rfl, ?_⟩
  exact (((f1.trans' f4).trans' f8).trans f9 fun q hq e => by have := f1.size; omega).trans f12 fun q hq e => by omega
theorem dkind_spec {k : Int} (hk : isKind k) {d : ByteArray} (hd : d.size ≤ 65000) (h : FileOK k d) {w : World} (ht : Tab10 w) {D b : Nat} {l : Sl} {ys : List FileE} {size : Int} (hS : IsSnap w b l ys size) (hr : Rising ys)
    (hg : getE ys (pathO (idS k d)) = (fileO k d, 0)) {s2 : Value} (hD : w.heap[D]? = some (.cells #[.pointer (some ⟨b, 0, none⟩), s2] T_odb_Odb (0, 0))) (q : Int) :
    Calls Tryz.prog F_odb_Odb_Kind #[.pointer (some ⟨D, 0, none⟩), .string (idS k d), .int .i64 q] w fun e w' => e = .returned (.tuple #[.string (if k = q then d else ⟨#[]⟩), .int .i64 (if k = q then 0 else 10)]) ∧ Fr (fun _ => False) w w' := by
  refine vc_odb_Odb_Kind_ok (R := fun v w' => v = .tuple #[.string (if k = q then d else ⟨#[]⟩), .int .i64 (if k = q then 0 else 10)] ∧ Fr (fun _ => False) w w') ?_ (fun v w' h => ⟨by rw [h.1], h.2⟩)
  refine (oget_spec hk hd h ht hS hr hg hD).mono ?_
  rintro e w2 ⟨rfl, f2⟩
  refine ⟨_, _, _, rfl, fun w6 h6 => ?_⟩
  have f6 : Fr (fun _ => False) w2 w6 := by rw [h6]; exact .alloc _ _ _
  have hP6 : w6.heap[w2.heap.size]? = some (.cells #[.int .i64 0, .string ⟨#[]⟩] T_api_Object (0, 0)) := by rw [h6]; exact alloc_new _ _
  clear h6
  obtain ⟨w7, hr7, hb7, f7⟩ := boxO_store hP6 rfl k d
  have g7 : Fr (fun _ => False) w w7 := (f2.trans' f6).trans f7 fun q hq e => by have := f2.size; omega
  refine ⟨w7, hr7, fun _ => ⟨k, by rw [cell_blk hb7]; rfl, fun hne => ⟨fun _ => ⟨?_, g7⟩, fun h => (by cases h)⟩, fun heq => ⟨fun h => (by cases h), fun _ => ⟨d, by rw [cell_blk hb7]; rfl, ?_, g7⟩⟩⟩, fun h => (by cases h)⟩
  · have hne : k ≠ q := by simpa using hne
    rw [if_neg hne, if_neg hne]
  · have heq : k = q := by simpa using heq
    rw [if_pos heq, if_pos heq]
end Go.Proofs.YtopjkjiobdigaaaGreatDoor

/- IndexByte of the package strings. No condition. -/
set_option linter.unusedVariables false
namespace Go.Proofs.YtopjkjiobdigaaaGreatDoor
open Go Vc Go.Proofs

theorem indexByte_spec (s : ByteArray) (c : Nat) (hc : c < 256) (w : World) : Calls Tryz.prog F_strings_IndexByte #[.string s, .int .u8 (c : Int)] w fun e w' => e = .returned (.int .i64 (Lib.indexByte s.data.toList (UInt8.ofNat c))) ∧ w' = w := by
  refine vc_strings_IndexByte_ok (R := fun v w' => v = .int .i64 (Lib.indexByte s.data.toList (UInt8.ofNat c)) ∧ w' = w) ?_ (fun v w' h => ⟨by rw [h.1], h.2⟩)
  refine (indexByteL_spec s c w).mono ?_
  rintro e w2 ⟨rfl, rfl⟩
  refine ⟨_, rfl, ?_, rfl⟩
  simp
end Go.Proofs.YtopjkjiobdigaaaGreatDoor

/- Go's text functions of this seat: IndexRune, IndexAny and ContainsAny where what is looked for is ASCII; any text. -/
set_option linter.unusedVariables false
namespace Go.Proofs.YtopjkjiobdigaaaGreatDoor
open Go Vc Go.Proofs

theorem validRune_spec (r : Int) (w : World) : Calls Tryz.prog F_utf8_ValidRune #[.int .i32 r] w fun e w' => (∃ b : Bool, e = .returned (.bool b)) ∧ w' = w := by
  refine vc_utf8_ValidRune_ok (R := fun v w' => (∃ b : Bool, v = .bool b) ∧ w' = w) ?_ (fun v w' ⟨⟨b, h⟩, h2⟩ => ⟨⟨b, by rw [h]⟩, h2⟩)
  have t : ∀ b : Bool, (∃ b' : Bool, Value.bool b = .bool b') ∧ w = w := fun b => ⟨⟨b, rfl⟩, rfl⟩
  exact ⟨fun _ => ⟨fun _ => t _, fun _ => ⟨fun _ => ⟨fun _ => t _, fun _ => t _⟩, fun _ => t _⟩⟩, fun _ => ⟨fun _ => ⟨fun _ => t _, fun _ => t _⟩, fun _ => t _⟩⟩
/-- All bytes are ASCII. -/
def Ascii (s : ByteArray) : Prop := ∀ j, j < s.size → byt s j < 128
theorem indexRune_low (s : ByteArray) (r : Nat) (hr : r < 128) (w : World) : Calls Tryz.prog F_strings_IndexRune #[.string s, .int .i32 (r : Int)] w fun e w' => e = .returned (.int .i64 (Lib.indexByte s.data.toList (UInt8.ofNat r))) ∧ w' = w := by
  refine vc_strings_IndexRune_ok (R := fun v w' => v = .int .i64 (Lib.indexByte s.data.toList (UInt8.ofNat r)) ∧ w' = w) ?_ (fun v w' h => ⟨by rw [h.1], h.2⟩)
  refine ⟨fun b w' => b = true ∧ w' = w, ⟨fun _ => ⟨by simp; omega, rfl⟩, fun h => absurd (of_decide_eq_false h) (by omega)⟩, ?_⟩
  rintro b w3 ⟨rfl, rfl⟩
  refine ⟨fun _ => ?_, fun h => by cases h⟩
  rw [wrap_u8 (by omega) (by omega)]
  refine (indexByte_spec s r (by omega) w3).mono ?_
  rintro e w5 ⟨rfl, rfl⟩
  exact ⟨_, rfl, rfl, rfl⟩
theorem ascii_none {s : ByteArray} (hs : Ascii s) {c : UInt8} (hc : 128 ≤ c.toNat) (i j : Nat) (hj : j ≤ s.size) : Lib.indexByte (s.extract i j).data.toList c = -1 := by
  refine fnd_no fun k hk he => ?_
  have hk' : k < j - i := by rw [ByteArray.size_extract] at hk; omega
  rw [byt_extract hj hk'] at he
  have := hs (i + k) (by omega)
  omega
theorem indexRune_high (s : ByteArray) (hs : Ascii s) (hl : s.size ≤ 1000000) (r : Nat) (hr : 128 ≤ r) (hr2 : r ≤ 1114111) (w : World) : Calls Tryz.prog F_strings_IndexRune #[.string s, .int .i32 (r : Int)] w fun e w' => e = .returned (.int .i64 (-1)) ∧ Fr (fun _ => False) w w' := by
  refine vc_strings_IndexRune_ok (R := fun v w' => v = .int .i64 (-1) ∧ Fr (fun _ => False) w w') ?_ (fun v w' h => ⟨by rw [h.1], h.2⟩)
  refine ⟨fun b w' => b = false ∧ w' = w, ⟨fun _ => ⟨by simp; omega, rfl⟩, fun _ => ⟨rfl, rfl⟩⟩, ?_⟩
  rintro b w3 ⟨rfl, rfl⟩
  refine ⟨fun h => (by cases h), fun _ => ⟨fun _ => ?_, fun _ => ?_⟩⟩
  · obtain ⟨w7, hr7, hi7, hf7⟩ := iter_new (P := Tryz.prog) (w := w3) (t := 9) (s := s) (by kernel_rfl)
    refine ⟨w7, _, hr7, fun w' => ∃ p, IsIter w' w3.heap.size s p ∧ p ≤ s.size ∧ Fr (fun _ => False) w3 w', itLeft w3.heap.size, ⟨0, hi7, Nat.zero_le _, hf7⟩, ?_⟩
    rintro w11 ⟨p, hi, hp, hf⟩
    by_cases hps : p < s.size
    · refine .inr ?_
      obtain ⟨w13, hr13, hi13, hf13⟩ := iter_next (P := Tryz.prog) hi hps 0
      have hd := dec_low hps (hs p hps)
      rw [hd] at hr13 hi13
      have hb := hs p hps
      refine ⟨w13, _, _, hr13, fun _ => ⟨fun h => ?_, fun _ => ⟨⟨p + 1, hi13, by omega, hf.trans hf13 fun k hk e => by omega⟩, ?_⟩⟩, fun h => (by cases h)⟩
      · exfalso
        have := eq_of_beq h
        simp only at this
        omega
      · rw [hi13.left, hi.left]; omega
    · exact .inl ⟨w11, iter_end hi (by omega) 0, fun h => (by cases h), fun _ => ⟨rfl, hf⟩⟩
  · refine (validRune_spec _ w3).mono ?_
    rintro e w17 ⟨⟨b, rfl⟩, rfl⟩
    refine ⟨b, rfl, fun _ => ⟨rfl, .refl _ _⟩, fun _ => ?_⟩
    obtain ⟨e1, e2, e3⟩ := enc_high hr
    refine ⟨w17, Utf8.encode r, run_convert_int_string w17 _ _ _ _ (by kernel_rfl) (by kernel_rfl), ?_⟩
    generalize Utf8.encode (r : Int) = t at e1 e2 e3 ⊢
    have ew : IntKind.i64.wrap ((t.size : Int) - 1) = ((t.size - 1 : Nat) : Int) := by rw [wrap_i64 (by omega) (by omega)]; omega
    rw [ew]
    refine ⟨fun i w' => i = ((t.size - 1 : Nat) : Int) ∧ w' = w17, fun _ _ => 0, ⟨rfl, rfl⟩, ?_⟩
    rintro i w24 ⟨rfl, rfl⟩
    refine ⟨fun hlt => ?_, fun _ => ⟨rfl, .refl _ _⟩⟩
    have hlt := of_decide_eq_true hlt
    have hne : (byteAt s ((t.size - 1 : Nat) : Int) != byteAt t ((t.size - 1 : Nat) : Int)) = true := by
      rw [byteAt_nat, byteAt_nat]
      have := hs (t.size - 1) (by omega)
      simp; omega
    refine ⟨fun _ _ => False, ⟨⟨by omega, by omega⟩, ⟨by omega, by omega⟩, fun w26 d26 => ⟨fun _ w27 d27 => ?_, fun h => (by rw [hne] at h; cases h)⟩⟩, fun _ _ h => h.elim⟩
    have ew2 : IntKind.i64.wrap (((t.size - 1 : Nat) : Int) + 1) = ((t.size : Nat) : Int) := by rw [wrap_i64 (by omega) (by omega)]; omega
    rw [ew2]
    refine ⟨fun w' => True, trivial, ⟨by omega, by omega⟩, ⟨by omega, by omega⟩, ?_⟩
    rw [byteAt_nat]
    refine (indexByte_spec _ _ (byt_lt _ _) w27).mono ?_
    rintro e w30 ⟨rfl, hw⟩
    rw [ascii_none hs (by rw [toNat_of _ (byt_lt _ _)]; exact e3) _ _ (Nat.le_refl _)]
    refine ⟨_, rfl, trivial, fun _ => ⟨rfl, ?_⟩, fun h => absurd h (by decide)⟩
    subst hw
    exact (Fr.drew _ d26).trans' (.drew _ d27)
theorem shouldSet_spec (n : Int) (w : World) : Calls Tryz.prog F_strings_shouldUseASCIISet #[.int .i64 n] w fun e w' => e = .returned (.bool (decide (n > 8))) ∧ w' = w :=
  vc_strings_shouldUseASCIISet_ok (R := fun v w' => v = .bool (decide (n > 8)) ∧ w' = w) ⟨rfl, rfl⟩ (fun v w' h => ⟨by rw [h.1], h.2⟩)
theorem indexAny_spec (s cs : ByteArray) (hs : s.size ≤ 4000000000) (h2 : 2 ≤ cs.size) (hl : cs.size ≤ 1000000) (hc : Ascii cs) (w : World) :
    Calls Tryz.prog F_strings_IndexAny #[.string s, .string cs] w fun e w' => e = .returned (.int .i64 (Lib.indexAny s.data.toList cs.data.toList)) ∧ Fr (fun _ => False) w w' := by
  by_cases h8 : 8 < s.size
  · refine (Any.strings_IndexAny_long lays153 (fun w => by kernel_rfl) (by kernel_rfl) s cs w h2 h8 (by omega) (by omega) (fun j b hb => ?_)).mono ?_
    · obtain ⟨h1, h3⟩ := bs_get? hb
      have := hc j h1; omega
    · rintro e w' ⟨rfl, rfl⟩
      exact ⟨rfl, (Fr.alloc _ _ _).trans' (.alloc _ _ _)⟩
  · refine vc_strings_IndexAny_ok (R := fun v w' => v = .int .i64 (Lib.indexAny s.data.toList cs.data.toList) ∧ Fr (fun _ => False) w w') ?_ (fun v w' h => ⟨by rw [h.1], h.2⟩)
    refine ⟨fun h => ?_, fun _ => ⟨fun h => ?_, fun _ => ⟨fun w' => w' = w, ?_, ?_⟩⟩⟩
    · rw [bs_eq] at h
      have := of_decide_eq_true h
      rw [bs_empty] at this; omega
    · have := eq_of_beq h; omega
    · refine (shouldSet_spec _ w).mono ?_
      rintro e w9 ⟨rfl, rfl⟩
      rw [decide_eq_false (show ¬ ((s.size : Int) > 8) by omega)]
      exact ⟨_, rfl, fun h => (by cases h), fun _ => rfl⟩
    · rintro w24 rfl
      obtain ⟨w7, hr7, hi7, hf7⟩ := iter_new (P := Tryz.prog) (w := w24) (t := 9) (s := s) (by kernel_rfl)
      refine ⟨w7, _, hr7, fun w' => ∃ p, IsIter w' w24.heap.size s p ∧ p ≤ s.size ∧ Fr (fun _ => False) w24 w' ∧ Lib.NoAny s.data.toList cs.data.toList p, itLeft w24.heap.size, ⟨0, hi7, Nat.zero_le _, hf7, .zero _ _⟩, ?_⟩
      rintro w11 ⟨p, hi, hp, hf, hn⟩
      by_cases hps : p < s.size
      · refine .inr ?_
        obtain ⟨w13, hr13, hi13, hf13⟩ := iter_next (P := Tryz.prog) hi hps 0
        have hfn : Fr (fun _ => False) w24 w13 := hf.trans hf13 fun k hk e => by omega
        refine ⟨w13, _, _, hr13, fun _ => ?_, fun h => (by cases h)⟩
        by_cases hb : byt s p < 128
        · rw [dec_low hps hb]
          rw [dec_low hps hb] at hi13
          refine (indexRune_low cs (byt s p) hb w13).mono ?_
          rintro e w35 ⟨rfl, rfl⟩
          have hcon := Lib.contains_iff_indexByte cs.data.toList (UInt8.ofNat (byt s p))
          refine ⟨_, rfl, fun h => ⟨?_, hfn⟩, fun h => ⟨⟨p + 1, hi13, by omega, hfn, hn.succ (bs_get hps) ?_⟩, ?_⟩⟩
          · have h := of_decide_eq_true h
            rw [decide_eq_true (show (0 : Int) ≤ Lib.indexByte cs.data.toList (UInt8.ofNat (byt s p)) from h)] at hcon
            rw [Lib.indexAny_hit hn (bs_get hps) hcon]
          · have h := of_decide_eq_false h
            rw [hcon]
            exact decide_eq_false h
          · rw [hi13.left, hi.left]; omega
        · obtain ⟨d1, d2, d3, d4, d5⟩ := dec_high hps (by omega)
          refine (indexRune_high cs hc hl _ d1 d2 w13).mono ?_
          rintro e w35 ⟨rfl, hf35⟩
          refine ⟨_, rfl, fun h => absurd h (by decide), fun h => ⟨⟨_, hi13.keep hf35 (by simp), d4, hfn.trans' hf35, ?_⟩, ?_⟩⟩
          · intro j b hj hb'
            by_cases hjp : j < p
            · exact hn j b hjp hb'
            · obtain ⟨h1, h3⟩ := bs_get? hb'
              have h4 := d5 j (by omega) hj
              refine Bool.eq_false_iff.2 fun hcont => ?_
              obtain ⟨k, hk, hkb⟩ := List.getElem_of_mem (List.contains_iff_mem.1 hcont)
              have := bs_get? (s := cs) (i := k) (c := b) (by rw [List.getElem?_eq_getElem hk, hkb])
              have := hc k this.1
              omega
          · rw [(hi13.keep hf35 (by simp)).left, hi.left]; omega
      · refine .inl ⟨w11, iter_end hi (by omega) 0, fun h => (by cases h), fun _ => ⟨?_, hf⟩⟩
        have : p = s.size := by omega
        subst this
        rw [Lib.indexAny_none (by rw [bs_len]; exact hn)]
theorem containsAny_eq (s cs : List UInt8) : decide (Lib.indexAny s cs ≥ 0) = s.any fun c => cs.contains c := by
  induction s with
  | nil => rfl
  | cons b l ih =>
    have hg := Lib.indexAny_ge cs l
    rw [Lib.indexAny, List.any_cons, ← ih]
    cases hb : cs.contains b
    · simp only [Bool.false_eq_true, if_false, Bool.false_or]
      by_cases h : Lib.indexAny l cs = -1
      · rw [h]; rfl
      · rw [if_neg (by simpa using h)]
        refine decide_eq_decide.2 ?_
        omega
    · simp
theorem containsAny_spec (s cs : ByteArray) (hs : s.size ≤ 4000000000) (h2 : 2 ≤ cs.size) (hl : cs.size ≤ 1000000) (hc : Ascii cs) (w : World) :
    Calls Tryz.prog F_strings_ContainsAny #[.string s, .string cs] w fun e w' => e = .returned (.bool (s.data.toList.any fun c => cs.data.toList.contains c)) ∧ Fr (fun _ => False) w w' := by
  refine vc_strings_ContainsAny_ok (R := fun v w' => v = .bool (s.data.toList.any fun c => cs.data.toList.contains c) ∧ Fr (fun _ => False) w w') ?_ (fun v w' h => ⟨by rw [h.1], h.2⟩)
  refine (indexAny_spec s cs hs h2 hl hc w).mono ?_
  rintro e w2 ⟨rfl, hf⟩
  exact ⟨_, rfl, by rw [containsAny_eq], hf⟩
end Go.Proofs.YtopjkjiobdigaaaGreatDoor

/- EqualFold of any text against '.git'. Conditions: the table that folds ASCII letters lies as its initialiser lays it. -/
set_option linter.unusedVariables false
namespace Go.Proofs.YtopjkjiobdigaaaGreatDoor
open Go Vc Go.Proofs

theorem wrap_i32 {x : Int} (h0 : -2147483648 ≤ x) (h1 : x < 2147483648) : IntKind.i32.wrap x = x := by
  unfold IntKind.wrap
  simp only [IntKind.bits, IntKind.signed, Bool.true_and]
  split <;> rename_i h <;> simp only [ge_iff_le, decide_eq_true_eq] at h <;> omega
/-- What of the table is read. -/
def FoldTab (w : World) : Prop := ∀ c d : Nat, (c, d) ∈ [(46, 46), (103, 71), (71, 103), (105, 73), (73, 105), (116, 84), (84, 116)] → w.cell? ⟨G_unicode_asciiFold, c, none⟩ = some (.int .u16 (d : Int))
theorem FoldTab.keep {w w1 : World} (h : FoldTab w) {X : Nat → Prop} (hf : Fr X w w1) (hx : ¬ X G_unicode_asciiFold) : FoldTab w1 := fun c d hcd => hf.cell (h c d hcd) hx
theorem simpleFold_spec {c d : Nat} {w : World} (hc : c < 128) (hd : d < 128) (h : w.cell? ⟨G_unicode_asciiFold, c, none⟩ = some (.int .u16 (d : Int))) :
    Calls Tryz.prog F_unicode_SimpleFold #[.int .i32 (c : Int)] w fun e w' => e = .returned (.int .i32 (d : Int)) ∧ w' = w := by
  refine vc_unicode_SimpleFold_ok (R := fun v w' => v = .int .i32 (d : Int) ∧ w' = w) ?_ (fun v w' h => ⟨by rw [h.1], h.2⟩)
  refine ⟨fun h => absurd (of_decide_eq_true h) (by omega), fun _ => ⟨fun h => absurd (of_decide_eq_true h) (by omega), fun _ => ⟨fun _ => ⟨⟨by omega, by omega⟩, d, ?_, ?_, rfl⟩, fun h => ?_⟩⟩⟩
  · rw [add_lit, Int.toNat_natCast, Nat.mul_one, Nat.zero_add]; exact h
  · rw [wrap_i32 (by omega) (by omega)]
  · have h := of_decide_eq_false h
    rw [wrap_i64 (by omega) (by omega)] at h; omega
abbrev gitS : ByteArray := ⟨#[46, 103, 105, 116]⟩
def low (c : Nat) : Nat := if 65 ≤ c ∧ c ≤ 90 then c + 32 else c
/-- Is it '.git', in whatever letters? -/
def isGit (s : ByteArray) : Bool := decide (s.size = 4) && (List.range 4).all fun j => low (byt s j) == byt gitS j
theorem isGit_iff {s : ByteArray} : isGit s = true ↔ s.size = 4 ∧ ∀ j, j < 4 → low (byt s j) = byt gitS j := by
  unfold isGit
  simp only [Bool.and_eq_true, decide_eq_true_eq, List.all_eq_true, List.mem_range, beq_iff_eq]
theorem isGit_no {s : ByteArray} (h : ¬ (s.size = 4 ∧ ∀ j, j < 4 → low (byt s j) = byt gitS j)) : isGit s = false := Bool.eq_false_iff.2 fun e => h (isGit_iff.1 e)
theorem git_cases {k : Nat} (h : k < 4) : (k = 0 ∧ byt gitS k = 46) ∨ (k = 1 ∧ byt gitS k = 103) ∨ (k = 2 ∧ byt gitS k = 105) ∨ (k = 3 ∧ byt gitS k = 116) := by
  match k, h with
  | 0, _ => exact .inl ⟨rfl, rfl⟩
  | 1, _ => exact .inr (.inl ⟨rfl, rfl⟩)
  | 2, _ => exact .inr (.inr (.inl ⟨rfl, rfl⟩))
  | 3, _ => exact .inr (.inr (.inr ⟨rfl, rfl⟩))
theorem not_git {s : ByteArray} {k : Nat} (hk : k < 4) (h : low (byt s k) ≠ byt gitS k) : isGit s = false := isGit_no fun h' => h (h'.2 k hk)
theorem or_high {a b : Nat} (ha : a < 256) (hb : b < 128) : 128 ≤ a ||| b ↔ 128 ≤ a := by
  have h7 : ∀ x, x < 256 → (128 ≤ x ↔ x.testBit 7 = true) := fun x hx => by
    rw [Nat.testBit_eq_decide_div_mod_eq, decide_eq_true_eq]; omega
  have hor : a ||| b < 256 := Nat.or_lt_two_pow (n := 8) ha (by omega)
  rw [h7 _ hor, h7 _ ha, Nat.testBit_or, Bool.or_eq_true]
  constructor
  · rintro (h | h)
    · exact h
    · rw [← h7 _ (by omega)] at h; omega
  · exact .inl
theorem decodeLow_spec (s : ByteArray) (h0 : 0 < s.size) (hb : byt s 0 < 128) (w : World) : Calls Tryz.prog F_utf8_DecodeRuneInString #[.string s] w fun e w' => e = .returned (.tuple #[.int .i32 (byt s 0 : Nat), .int .i64 1]) ∧ w' = w := by
  refine vc_utf8_DecodeRuneInString_ok (R := fun v w' => v = .tuple #[.int .i32 (byt s 0 : Nat), .int .i64 1] ∧ w' = w) ?_ (fun v w' h => ⟨by rw [h.1], h.2⟩)
  have hba : byteAt s 0 = (byt s 0 : Nat) := byteAt_nat s 0
  rw [vc_utf8_DecodeRuneInString, hba]
  refine ⟨fun _ => ⟨⟨by decide, by omega⟩, fun _ => ⟨⟨by decide, by omega⟩, by rw [wrap_i32 (by omega) (by omega)], rfl⟩, fun h => absurd (of_decide_eq_false h) (by omega)⟩, fun h => ?_⟩
  rw [bs_eq] at h
  have h : decide (s = ⟨#[]⟩) = true := by simpa using h
  have := of_decide_eq_true h
  rw [bs_empty] at this; omega
theorem equalFold_spec (s : ByteArray) (hs : s.size ≤ 140737488355328) (w : World) (ht : FoldTab w) (hG : G_unicode_asciiFold < w.heap.size) :
    Calls Tryz.prog F_strings_EqualFold #[.string s, .string gitS] w fun e w' => e = .returned (.bool (isGit s)) ∧ Fr (fun _ => False) w w' := by
  refine vc_strings_EqualFold_ok (R := fun v w' => v = .bool (isGit s) ∧ Fr (fun _ => False) w w') ?_ (fun v w' h => ⟨by rw [h.1], h.2⟩)
  have hg : gitS.size = 4 := rfl
  refine ⟨fun a b n w' => a = s ∧ b = gitS ∧ w' = w ∧ ∃ k : Nat, n = k ∧ k < s.size ∧ k < 4 ∧ 128 ≤ byt s k, fun _ _ _ _ => 0, ⟨fun n w' => w' = w ∧ ∃ k : Nat, n = k ∧ k ≤ s.size ∧ k ≤ 4 ∧ ∀ j, j < k → low (byt s j) = byt gitS j, fun n _ => 4 - n.toNat, ⟨rfl, 0, rfl, Nat.zero_le _, Nat.zero_le _, fun j hj => by omega⟩, ?_⟩, ?_, trivial⟩
  · rintro n w6 ⟨hw, k, rfl, hk, hk4, hall⟩
    replace hw := hw.symm
    subst hw
    have hmin : (if ((gitS.size : Nat) : Int) < (s.size : Int) then ((gitS.size : Nat) : Int) else (s.size : Int)) = ((min s.size 4 : Nat) : Int) := by rw [hg]; split <;> omega
    rw [hmin]
    refine ⟨fun hlt => ?_, fun hge => ?_⟩
    · have hlt := of_decide_eq_true hlt
      have hk4' : k < 4 := by omega
      have hks : k < s.size := by omega
      have hb := byt_lt s k
      rw [byteAt_nat, byteAt_nat]
      have hgc := git_cases hk4'
      have hor : (BitVec.ofInt 8 ((byt s k : Nat) : Int) ||| BitVec.ofInt 8 ((byt gitS k : Nat) : Int)).toNat = byt s k ||| byt gitS k := or_nat 8 _ _ (by omega) (by omega)
      have hol : byt s k ||| byt gitS k < 256 := Nat.or_lt_two_pow (n := 8) hb (by omega)
      have hoh := or_high (a := byt s k) (b := byt gitS k) hb (by omega)
      rw [hor, wrap_u8 (by omega) (by omega)]
      refine ⟨⟨by omega, by omega⟩, ⟨by omega, by rw [hg]; omega⟩, fun h => ?_, fun h => ?_⟩
      · have h := of_decide_eq_true h
        exact ⟨rfl, rfl, rfl, k, rfl, hks, hk4', hoh.1 (by omega)⟩
      · have h := of_decide_eq_false h
        have hlo : byt s k < 128 := by
          by_cases hh : 128 ≤ byt s k
          · have := hoh.2 hh; omega
          · omega
        have e1 : IntKind.i64.wrap ((k : Int) + 1) = ((k + 1 : Nat) : Int) := by rw [wrap_i64 (by omega) (by omega)]; omega
        rw [e1]
        have step : low (byt s k) = byt gitS k → (w = w ∧ ∃ k' : Nat, ((k + 1 : Nat) : Int) = k' ∧ k' ≤ s.size ∧ k' ≤ 4 ∧ ∀ j, j < k' → low (byt s j) = byt gitS j) := fun he =>
          ⟨rfl, k + 1, rfl, by omega, by omega, fun j hj => by
            by_cases hjk : j = k
            · rw [hjk]; exact he
            · exact hall j (by omega)⟩
        refine ⟨fun he => ⟨step ?_, by dsimp only; omega⟩, fun hne => ?_⟩
        · have he := eq_of_beq he
          unfold low; split <;> omega
        · have hne : byt gitS k ≠ byt s k := fun e => by rw [e] at hne; simp at hne
          refine ⟨fun a b w' => w' = w ∧ ((a = (byt s k : Nat) ∧ b = (byt gitS k : Nat) ∧ byt s k < byt gitS k) ∨ (a = (byt gitS k : Nat) ∧ b = (byt s k : Nat) ∧ byt gitS k < byt s k)), ⟨fun hl => ⟨rfl, .inr ⟨rfl, rfl, ?_⟩⟩, fun hl => ⟨rfl, .inl ⟨rfl, rfl, ?_⟩⟩⟩, ?_⟩
          · have := of_decide_eq_true hl; omega
          · have := of_decide_eq_false hl; omega
          · rintro a b w10 ⟨hw, hab⟩
            replace hw := hw.symm
            subst hw
            have bad : ¬ (65 ≤ byt s k ∧ byt s k ≤ 90 ∧ byt gitS k = byt s k + 32) → isGit s = false := fun hn => not_git hk4' (by unfold low; split <;> omega)
            have hret : isGit s = false → (Value.bool false = .bool (isGit s) ∧ Fr (fun _ => False) w w) := fun h => ⟨by rw [h], .refl _ _⟩
            rcases hab with ⟨rfl, rfl, hlt2⟩ | ⟨rfl, rfl, hlt2⟩
            · refine ⟨fun h65 => ⟨fun h90 => ?_, fun h90 => hret (bad ?_)⟩, fun h65 => hret (bad ?_)⟩
              · have h65 := of_decide_eq_true h65
                have h90 := of_decide_eq_true h90
                have e2 : IntKind.u8.wrap (IntKind.u8.wrap ((byt s k : Int) + 97) - 65) = ((byt s k + 32 : Nat) : Int) := by rw [wrap_u8 (x := (byt s k : Int) + 97) (by omega) (by omega), wrap_u8 (by omega) (by omega)]; omega
                rw [e2]
                refine ⟨fun he => ⟨step ?_, by dsimp only; omega⟩, fun he => hret (bad ?_)⟩
                · have he := eq_of_beq he
                  unfold low; rw [if_pos (by omega)]; omega
                · have he : byt gitS k ≠ byt s k + 32 := fun e => by rw [e] at he; simp at he
                  omega
              · have := of_decide_eq_false h90; omega
              · have := of_decide_eq_false h65; omega
            · refine ⟨fun h65 => ⟨fun h90 => ?_, fun h90 => hret (bad ?_)⟩, fun h65 => hret (bad ?_)⟩
              · have h65 := of_decide_eq_true h65
                have h90 := of_decide_eq_true h90
                exfalso
                clear step hret bad
                omega
              · exact fun hh => by have := hh.2.2; clear step hret bad hh; omega
              · exact fun hh => by have := hh.2.2; clear step hret bad hh; omega
    · have hge := of_decide_eq_false hge
      rw [hg]
      refine ⟨?_, .refl _ _⟩
      by_cases h4 : s.size = 4
      · have hk : k = 4 := by omega
        have : isGit s = true := isGit_iff.2 ⟨h4, fun j hj => hall j (by omega)⟩
        rw [this, h4]; rfl
      · have : isGit s = false := isGit_no fun h => h4 h.1
        rw [this]
        congr 1
        rw [beq_eq_false_iff_ne]
        omega
  · rintro a b n w14 ⟨rfl, rfl, rfl, k, rfl, hks, hk4, hhi⟩
    have hgc := git_cases hk4
    have hng : isGit a = false := not_git hk4 (by unfold low; split <;> omega)
    rw [Int.toNat_natCast]
    have hxs : (a.extract k a.size).size = a.size - k := by simp
    have hgx : (gitS.extract k gitS.size).size = 4 - k := by rw [ByteArray.size_extract, hg]; omega
    obtain ⟨w15, hr15, hi15, hf15⟩ := iter_new (P := Tryz.prog) (w := w14) (t := 9) (s := a.extract k a.size) (by kernel_rfl)
    refine ⟨⟨by omega, by omega⟩, ⟨by omega, by rw [hg]; omega⟩, w15, _, hr15, fun t w' => t = gitS.extract k gitS.size ∧ w' = w15, fun _ _ => 0, ⟨rfl, rfl⟩, ?_⟩
    rintro t w20 ⟨rfl, rfl⟩
    refine .inr ?_
    have hx0 : byt (a.extract k a.size) 0 = byt a k := by rw [byt_extract (Nat.le_refl _) (by omega), Nat.add_zero]
    obtain ⟨d1, d2, d3, d4, d5⟩ := dec_high (s := a.extract k a.size) (p := 0) (by omega) (by rw [hx0]; exact hhi)
    obtain ⟨w22, hr22, hi22, hf22⟩ := iter_next (P := Tryz.prog) hi15 (show 0 < (a.extract k a.size).size by omega) 0
    have hfr : Fr (fun _ => False) w14 w22 := hf15.trans hf22 fun k' hk' e => by omega
    have ht22 : FoldTab w22 := ht.keep hfr (by simp)
    generalize (Utf8.decode (a.extract k a.size) 0).1 = r at d1 d2 hr22
    refine ⟨w22, _, _, hr22, fun _ => ⟨fun h => ?_, fun _ => ?_⟩, fun h => (by cases h)⟩
    · have := eq_of_beq h; omega
    have hg0 : byt (gitS.extract k gitS.size) 0 = byt gitS k := by rw [byt_extract (Nat.le_refl _) (by rw [hg]; omega), Nat.add_zero]
    refine (decodeLow_spec (gitS.extract k gitS.size) (by omega) (by omega) w22).mono ?_
    rw [hg0]
    rintro e w26 ⟨rfl, hw⟩
    replace hw := hw.symm
    subst hw
    have hret : Value.bool false = .bool (isGit a) ∧ Fr (fun _ => False) w14 w22 := ⟨by rw [hng], hfr⟩
    refine ⟨_, _, rfl, ⟨by decide, by omega⟩, fun h => ?_, fun _ => ⟨fun p q w' => p = (byt gitS k : Nat) ∧ q = (r : Int) ∧ w' = w22, ⟨fun _ => ⟨rfl, rfl, rfl⟩, fun h => ?_⟩, ?_⟩⟩
    · have := eq_of_beq h; omega
    · have := of_decide_eq_false h; omega
    rintro p q w32 ⟨rfl, rfl, hw⟩
    subst hw
    refine ⟨fun h => ?_, fun _ => ?_⟩
    · have := of_decide_eq_true h; omega
    have fold1 : ∃ d : Nat, d < 128 ∧ w32.cell? ⟨G_unicode_asciiFold, byt gitS k, none⟩ = some (.int .u16 (d : Int)) ∧ (d = byt gitS k ∨ (byt gitS k = d + 32 ∧ w32.cell? ⟨G_unicode_asciiFold, d, none⟩ = some (.int .u16 ((byt gitS k : Nat) : Int)))) := by
      rcases hgc with ⟨_, h⟩ | ⟨_, h⟩ | ⟨_, h⟩ | ⟨_, h⟩ <;> rw [h]
      · exact ⟨46, by decide, ht22 46 46 (by decide), .inl rfl⟩
      · exact ⟨71, by decide, ht22 103 71 (by decide), .inr ⟨rfl, ht22 71 103 (by decide)⟩⟩
      · exact ⟨73, by decide, ht22 105 73 (by decide), .inr ⟨rfl, ht22 73 105 (by decide)⟩⟩
      · exact ⟨84, by decide, ht22 116 84 (by decide), .inr ⟨rfl, ht22 84 116 (by decide)⟩⟩
    obtain ⟨d, hd, hcd, hdd⟩ := fold1
    refine (simpleFold_spec (by omega) hd hcd).mono ?_
    rintro e w34 ⟨rfl, hw⟩
    replace hw := hw.symm
    subst hw
    refine ⟨_, rfl, fun n w' => w' = w32 ∧ (n = (d : Int) ∨ n = ((byt gitS k : Nat) : Int)), fun n w' => if n = ((byt gitS k : Nat) : Int) then 0 else 1, ⟨rfl, .inl rfl⟩, ?_⟩
    rintro n w39 ⟨hw, hn⟩
    replace hw := hw.symm
    subst hw
    refine ⟨fun hne => ⟨fun _ => ?_, fun h => ⟨fun h2 => ?_, fun _ => hret⟩⟩, fun heq => ⟨fun h2 => ?_, fun _ => hret⟩⟩
    · have hne : n ≠ ((byt gitS k : Nat) : Int) := fun e => by rw [e] at hne; simp at hne
      have hnd : n = (d : Int) := by omega
      subst hnd
      rcases hdd with hdd | ⟨h32, hc2⟩
      · rw [hdd] at hne; exact absurd rfl hne
      · refine (simpleFold_spec hd (by omega) hc2).mono ?_
        rintro e w41 ⟨rfl, hw⟩
        subst hw
        refine ⟨_, rfl, ⟨rfl, .inr rfl⟩, ?_⟩
        dsimp only
        rw [if_pos rfl, if_neg (by omega)]; decide
    · have := eq_of_beq h2; omega
    · have := eq_of_beq h2
      omega
end Go.Proofs.YtopjkjiobdigaaaGreatDoor

/- Formulas of 2 Go functions of this seat (written by a program of the author's, vcgen.py), and that each is enough for the call. No condition. -/
set_option linter.unusedVariables false
namespace Go.Proofs.YtopjkjiobdigaaaGreatDoor
open Go Vc Go.Proofs
set_option maxRecDepth 100000
/-- cartularyref01.Hexed -/
def vc_cartularyref01_Hexed (x0 : ByteArray) (w : World) (R : Value → World → Prop) : Prop :=
  ∃ I1 : Int → World → Prop, ∃ I2 : Int → World → Nat, (I1 0 w ∧
   ∀ n3 : Int,
   ∀ w4 : World,
   (I1 n3 w4 →
     (((decide (n3 < (↑(ByteArray.size x0) : Int)) = true →
        ((0 ≤ n3 ∧
          n3 < (↑(ByteArray.size x0) : Int)) ∧
         (((decide (byteAt x0 n3 ≥ 48) = true →
            ((0 ≤ n3 ∧
              n3 < (↑(ByteArray.size x0) : Int)) ∧
             (((decide (byteAt x0 n3 ≤ 57) = true →
                (I1 (IntKind.wrap IntKind.i64 (n3 + 1)) w4 ∧
                 I2 (IntKind.wrap IntKind.i64 (n3 + 1)) w4 < I2 n3 w4))) ∧
              (decide (byteAt x0 n3 ≤ 57) = false →
                ((0 ≤ n3 ∧
                  n3 < (↑(ByteArray.size x0) : Int)) ∧
                 (((decide (byteAt x0 n3 ≥ 97) = true →
                    ((0 ≤ n3 ∧
                      n3 < (↑(ByteArray.size x0) : Int)) ∧
                     ((((!decide (byteAt x0 n3 ≤ 102)) = true →
                        R (Value.bool false) w4)) ∧
                      ((!decide (byteAt x0 n3 ≤ 102)) = false →
                        (I1 (IntKind.wrap IntKind.i64 (n3 + 1)) w4 ∧
                         I2 (IntKind.wrap IntKind.i64 (n3 + 1)) w4 < I2 n3 w4)))))) ∧
                  (decide (byteAt x0 n3 ≥ 97) = false →
                    R (Value.bool false) w4)))))))) ∧
          (decide (byteAt x0 n3 ≥ 48) = false →
            ((0 ≤ n3 ∧
              n3 < (↑(ByteArray.size x0) : Int)) ∧
             (((decide (byteAt x0 n3 ≥ 97) = true →
                ((0 ≤ n3 ∧
                  n3 < (↑(ByteArray.size x0) : Int)) ∧
                 ((((!decide (byteAt x0 n3 ≤ 102)) = true →
                    R (Value.bool false) w4)) ∧
                  ((!decide (byteAt x0 n3 ≤ 102)) = false →
                    (I1 (IntKind.wrap IntKind.i64 (n3 + 1)) w4 ∧
                     I2 (IntKind.wrap IntKind.i64 (n3 + 1)) w4 < I2 n3 w4)))))) ∧
              (decide (byteAt x0 n3 ≥ 97) = false →
                R (Value.bool false) w4)))))))) ∧
      (decide (n3 < (↑(ByteArray.size x0) : Int)) = false →
        ((2 : Int) ≠ (0 : Int) ∧
         R (Value.bool (Int.tmod (↑(ByteArray.size x0) : Int) 2 == 0)) w4)))))
theorem vc_cartularyref01_Hexed_ok {x0 : ByteArray} {w : World} {R : Value → World → Prop} {R' : Ending → World → Prop} (h : vc_cartularyref01_Hexed x0 w R) (hR : ∀ v w', R v w' → R' (.returned v) w') :
    Calls Tryz.prog 50 #[.string x0] w R' :=
  calls_of_body (vs := [(.string x0, false)]) (ty := ty) (ann := ⟨[], [(2, [(3, .int .i64)])], [], []⟩) (c := Tryz.f50.body.getD .skip) (by kernel_rfl) Tryz.func50 (by kernel_rfl) (by kernel_rfl) (Eq.mp (by kernel_rfl) h) hR
/-- cartularyref09.Id -/
def vc_cartularyref09_Id (x0 : ByteArray) (w : World) (R : Value → World → Prop) : Prop :=
  (((((↑(ByteArray.size x0) : Int) == 40) = true →
     Calls Tryz.prog (50 : Nat) (Array.mk [Value.string x0]) (w) (fun e1 w2 =>
       ∃ b3 : Bool, (e1 = Ending.returned (Value.bool b3) ∧
        R (Value.bool b3) w2)))) ∧
   (((↑(ByteArray.size x0) : Int) == 40) = false →
     R (Value.bool false) w))
theorem vc_cartularyref09_Id_ok {x0 : ByteArray} {w : World} {R : Value → World → Prop} {R' : Ending → World → Prop} (h : vc_cartularyref09_Id x0 w R) (hR : ∀ v w', R v w' → R' (.returned v) w') :
    Calls Tryz.prog 22 #[.string x0] w R' :=
  calls_of_body (vs := [(.string x0, false)]) (ty := ty) (ann := ⟨[], [], [], []⟩) (c := Tryz.f22.body.getD .skip) (by kernel_rfl) Tryz.func22 (by kernel_rfl) (by kernel_rfl) (Eq.mp (by kernel_rfl) h) hR
end Go.Proofs.YtopjkjiobdigaaaGreatDoor

/- The reference's Hexed and Id. Conditions: as named. -/
set_option linter.unusedVariables false
namespace Go.Proofs.YtopjkjiobdigaaaGreatDoor
open Go Vc HexM Go.Proofs

theorem hexed_ok {c : Nat} : (dg c).isSome = true ↔ (48 ≤ c ∧ c ≤ 57) ∨ (97 ≤ c ∧ c ≤ 102) := by
  unfold dg
  split
  · rename_i h; simp; omega
  · split
    · rename_i h; simp; omega
    · simp; omega
theorem digits_iff {s : ByteArray} : digits s.data.toList = true ↔ ∀ k, k < s.size → (dg (byt s k)).isSome = true := by
  unfold digits
  rw [List.all_eq_true]
  constructor
  · intro h k hk
    have := h _ (List.mem_of_getElem? (bs_get hk))
    rwa [toNat_of _ (byt_lt _ _)] at this
  · intro h x hx
    obtain ⟨k, hk, rfl⟩ := List.getElem_of_mem hx
    rw [bs_len] at hk
    have := h k hk
    rwa [bs_byt hk] at this
/-- The reference's 'Hexed'. -/
theorem hexed_spec (s : ByteArray) (hs : s.size ≤ 140737488355328) (w : World) : Calls Tryz.prog F_cartularyref01_Hexed #[.string s] w fun e w' => e = .returned (.bool (unhexL s.data.toList).isSome) ∧ w' = w := by
  refine vc_cartularyref01_Hexed_ok (R := fun v w' => v = .bool (unhexL s.data.toList).isSome ∧ w' = w) ?_ (fun v w' h => ⟨by rw [h.1], h.2⟩)
  refine ⟨fun n w' => w' = w ∧ ∃ k : Nat, n = k ∧ k ≤ s.size ∧ ∀ j, j < k → (dg (byt s j)).isSome = true, fun n _ => s.size - n.toNat, ⟨rfl, 0, rfl, Nat.zero_le _, fun j hj => by omega⟩, ?_⟩
  rintro n w4 ⟨hw, k, rfl, hk, hall⟩
  replace hw := hw.symm
  subst hw
  have e1 : IntKind.i64.wrap ((k : Int) + 1) = ((k + 1 : Nat) : Int) := by rw [wrap_i64 (by omega) (by omega)]; omega
  rw [e1]
  refine ⟨fun hlt => ?_, fun hge => ?_⟩
  · have hlt := of_decide_eq_true hlt
    rw [byteAt_nat]
    have step : (dg (byt s k)).isSome = true → (w = w ∧ ∃ k' : Nat, ((k + 1 : Nat) : Int) = k' ∧ k' ≤ s.size ∧ ∀ j, j < k' → (dg (byt s j)).isSome = true) ∧ s.size - (((k + 1 : Nat) : Int)).toNat < s.size - ((k : Int)).toNat := fun h =>
      ⟨⟨rfl, k + 1, rfl, by omega, fun j hj => by
        by_cases hjk : j = k
        · rw [hjk]; exact h
        · exact hall j (by omega)⟩, by omega⟩
    have bad : ¬ (dg (byt s k)).isSome = true → (Value.bool false = .bool (unhexL s.data.toList).isSome ∧ w = w) := fun h => by
      have := unhexL_bad k s.data.toList _ (bs_get (by omega)) (by rw [toNat_of _ (byt_lt _ _)]; simpa using h)
      rw [this]; exact ⟨rfl, rfl⟩
    rw [hexed_ok] at step bad
    refine ⟨⟨by omega, by omega⟩, fun h1 => ⟨⟨by omega, by omega⟩, fun h2 => step ?_, fun h2 => ⟨⟨by omega, by omega⟩, fun h3 => ⟨⟨by omega, by omega⟩, fun h4 => bad ?_, fun h4 => step ?_⟩, fun h3 => bad ?_⟩⟩, fun h1 => ⟨⟨by omega, by omega⟩, fun h3 => ⟨⟨by omega, by omega⟩, fun h4 => bad ?_, fun h4 => step ?_⟩, fun h3 => bad ?_⟩⟩
    all_goals (simp at *; omega)
  · have hge := of_decide_eq_false hge
    have : k = s.size := by omega
    subst this
    refine ⟨by decide, ?_, rfl⟩
    rw [unhexL_iff, digits_iff.2 hall, Bool.true_and, bs_len, show (2 : Int) = ((2 : Nat) : Int) from rfl, ← Int.ofNat_tmod]
    congr 1
    rw [Bool.eq_iff_iff, beq_iff_eq, beq_iff_eq]; omega
theorem rid_spec (s : ByteArray) (hs : s.size ≤ 140737488355328) (w : World) : Calls Tryz.prog F_cartularyref09_Id #[.string s] w fun e w' => e = .returned (.bool (isId s.data.toList)) ∧ w' = w := by
  refine vc_cartularyref09_Id_ok (R := fun v w' => v = .bool (isId s.data.toList) ∧ w' = w) ?_ (fun v w' h => ⟨by rw [h.1], h.2⟩)
  refine ⟨fun h => (hexed_spec s hs w).mono ?_, fun h => ⟨?_, rfl⟩⟩
  · rintro e w2 ⟨rfl, hw⟩
    refine ⟨_, rfl, ?_, hw⟩
    have h := eq_of_beq h
    unfold isId
    rw [bs_len, show (s.size == 40) = true by rw [beq_iff_eq]; omega, Bool.and_true]
  · unfold isId
    rw [bs_len, show (s.size == 40) = false by
      rw [beq_eq_false_iff_ne]; intro e; rw [e] at h; simp at h, Bool.and_false]
end Go.Proofs.YtopjkjiobdigaaaGreatDoor

/- A folder's entries: what they are, when they are in form, what bytes they have. No condition. -/
set_option linter.unusedVariables false
namespace TreeM
open Go Vc HexM

structure Ent where
  mode : Int
  name : ByteArray
  id : ByteArray
def encE (x : Ent) : List Value := [.int .i64 x.mode, .string x.name, .string x.id]
def s40000 : ByteArray := ⟨#[52, 48, 48, 48, 48]⟩
def s100644 : ByteArray := ⟨#[49, 48, 48, 54, 52, 52]⟩
def s100755 : ByteArray := ⟨#[49, 48, 48, 55, 53, 53]⟩
def s120000 : ByteArray := ⟨#[49, 50, 48, 48, 48, 48]⟩
def s160000 : ByteArray := ⟨#[49, 54, 48, 48, 48, 48]⟩
def modeText (m : Int) : ByteArray := if m = 16384 then s40000 else if m = 33188 then s100644 else if m = 33261 then s100755 else if m = 40960 then s120000 else if m = 57344 then s160000 else ⟨#[]⟩
def textMode (s : ByteArray) : Int := if s = s40000 then 16384 else if s = s100644 then 33188 else if s = s100755 then 33261 else if s = s120000 then 40960 else if s = s160000 then 57344 else 0
theorem modeText_size (m : Int) : (modeText m).size ≤ 6 := by
  unfold modeText
  repeat' split
  all_goals decide
/-- A text of which a slash or a nought is part. -/
def slashed (s : ByteArray) : Bool := s.data.toList.any fun c => [(47 : UInt8), 0].contains c
def nameOK (isGit : ByteArray → Bool) (s : ByteArray) : Bool := decide (s ≠ ⟨#[]⟩) && decide (s.size ≤ 100) && decide (s ≠ ⟨#[46]⟩) && decide (s ≠ ⟨#[46, 46]⟩) && !isGit s && !slashed s
def keyE (x : Ent) : ByteArray := if x.mode = 16384 then x.name ++ ⟨#[47]⟩ else x.name
def klt (x y : Ent) : Bool := Op.bytesLess (keyE x).data.toList (keyE y).data.toList
theorem klt_trans {x y z : Ent} (h : klt x y = true) (h' : klt y z = true) : klt x z = true := by
  unfold klt at h h' ⊢
  rw [Proofs.bytesLess_eq, decide_eq_true_eq] at h h' ⊢
  exact List.lt_trans h h'
section
variable (git : ByteArray → Bool)
def entOK (x : Ent) : Bool := decide (modeText x.mode ≠ ⟨#[]⟩) && nameOK git x.name && isId x.id.data.toList
def okAt (xs : List Ent) (i : Nat) : Bool := match xs[i]? with
  | some x => entOK git x && ((xs.take i).all fun y => decide (y.name ≠ x.name)) && (match i with | 0 => true | j + 1 => match xs[j]? with | some y => klt y x | none => false)
  | none => false
def good (xs : List Ent) : Bool := (List.range xs.length).all (okAt git xs)
def checkE (xs : List Ent) : Int := if 500 < xs.length then 2 else if good git xs = true then 0 else 4
def okR (xs : List Ent) (i : Nat) : Bool := match xs[i]? with
  | some x => entOK git x && (xs.take i).all fun y => decide (y.name ≠ x.name) && klt y x
  | none => false
variable {git : ByteArray → Bool} {xs : List Ent} {i : Nat} {x : Ent}
theorem good_iff : good git xs = true ↔ ∀ i, i < xs.length → okAt git xs i = true := by
  unfold good; rw [List.all_eq_true]
  exact ⟨fun h i hi => h i (List.mem_range.2 hi), fun h i hi => h i (List.mem_range.1 hi)⟩
theorem okAt_iff (hx : xs[i]? = some x) : okAt git xs i = true ↔ entOK git x = true ∧ (∀ j y, j < i → xs[j]? = some y → y.name ≠ x.name) ∧ ∀ y, 0 < i → xs[i - 1]? = some y → klt y x = true := by
  unfold okAt
  rw [hx]
  simp only [Bool.and_eq_true, List.all_eq_true, decide_eq_true_eq]
  constructor
  · rintro ⟨⟨h1, h2⟩, h3⟩
    refine ⟨h1, fun j y hj hy => h2 y (List.mem_of_getElem? (i := j) (by rw [List.getElem?_take, if_pos hj, hy])), fun y hi hy => ?_⟩
    cases i with
    | zero => omega
    | succ j => simp only [Nat.add_sub_cancel] at hy; simp only [hy] at h3; exact h3
  · rintro ⟨h1, h2, h3⟩
    refine ⟨⟨h1, fun y hy => ?_⟩, ?_⟩
    · obtain ⟨j, hj⟩ := List.mem_iff_getElem?.1 hy
      rw [List.getElem?_take] at hj
      split at hj
      · rename_i hji; exact h2 j y hji hj
      · cases hj
    · cases i with
      | zero => rfl
      | succ j =>
        have hjl : j < xs.length := by have := (List.getElem?_eq_some_iff.1 hx).1; omega
        have := h3 xs[j] (by omega) (by simp [List.getElem?_eq_getElem hjl])
        simp only [List.getElem?_eq_getElem hjl]; exact this
theorem okR_iff (hx : xs[i]? = some x) : okR git xs i = true ↔ entOK git x = true ∧ ∀ j y, j < i → xs[j]? = some y → y.name ≠ x.name ∧ klt y x = true := by
  unfold okR
  rw [hx]
  simp only [Bool.and_eq_true, List.all_eq_true, decide_eq_true_eq]
  constructor
  · rintro ⟨h1, h2⟩
    exact ⟨h1, fun j y hj hy => h2 y (List.mem_of_getElem? (i := j) (by rw [List.getElem?_take, if_pos hj, hy]))⟩
  · rintro ⟨h1, h2⟩
    refine ⟨h1, fun y hy => ?_⟩
    obtain ⟨j, hj⟩ := List.mem_iff_getElem?.1 hy
    rw [List.getElem?_take] at hj
    split at hj
    · rename_i hji; exact h2 j y hji hj
    · cases hj
/-- In order from one to the next: in order. -/
theorem chain (h : ∀ j, j < i → okAt git xs j = true) : ∀ d j x y, j + d < i → xs[j]? = some x → xs[j + d]? = some y → 0 < d → klt x y = true
  | 0, _, _, _, _, _, _, h0 => by omega
  | d + 1, j, x, y, hlt, hx, hy, _ => by
    have hl : j + d < xs.length := by have := (List.getElem?_eq_some_iff.1 hy).1; omega
    have h1 := (okAt_iff hy).1 (h (j + (d + 1)) hlt)
    have h2 := h1.2.2 xs[j + d] (by omega) (by rw [show j + (d + 1) - 1 = j + d by omega, List.getElem?_eq_getElem hl])
    by_cases hd : d = 0
    · subst hd
      have hl' : j < xs.length := hl
      have : xs[j + 0] = x := by
        have := List.getElem?_eq_getElem hl'
        rw [hx] at this
        exact (Option.some.inj this).symm
      rw [this] at h2; exact h2
    · exact klt_trans (chain h d j x xs[j + d] (by omega) hx (List.getElem?_eq_getElem hl) (by omega)) h2
theorem ok_both (h : ∀ j, j < i → okAt git xs j = true) (hi : i < xs.length) : okAt git xs i = okR git xs i := by
  have hx := List.getElem?_eq_getElem hi
  rw [Bool.eq_iff_iff, okAt_iff hx, okR_iff hx]
  refine ⟨fun ⟨h1, h2, h3⟩ => ⟨h1, fun j y hj hy => ⟨h2 j y hj hy, ?_⟩⟩, fun ⟨h1, h2⟩ => ⟨h1, fun j y hj hy => (h2 j y hj hy).1, fun y h0 hy => (h2 (i - 1) y (by omega) hy).2⟩⟩
  have hl : i - 1 < xs.length := by omega
  have hlast := h3 xs[i - 1] (by omega) (List.getElem?_eq_getElem hl)
  by_cases hji : j = i - 1
  · subst hji
    have : xs[i - 1] = y := by rw [List.getElem?_eq_getElem hl] at hy; exact Option.some.inj hy
    rw [this] at hlast; exact hlast
  · exact klt_trans (chain h (i - 1 - j) j y xs[i - 1] (by omega) hy (by rw [show j + (i - 1 - j) = i - 1 by omega]; exact List.getElem?_eq_getElem hl) (by omega)) hlast
theorem check_bad (hl : xs.length ≤ 500) (hi : i < xs.length) (h : okAt git xs i = false) : checkE git xs = 4 := by
  unfold checkE
  rw [if_neg (by omega), if_neg]
  intro hg
  rw [good_iff.1 hg i hi] at h; cases h
theorem check_good (hl : xs.length ≤ 500) (h : ∀ j, j < xs.length → okAt git xs j = true) : checkE git xs = 0 := by
  unfold checkE
  rw [if_neg (by omega), if_pos (good_iff.2 h)]
theorem check_ok (h : checkE git xs = 0) : xs.length ≤ 500 ∧ ∀ j, j < xs.length → okAt git xs j = true := by
  unfold checkE at h
  split at h
  · cases h
  · split at h
    · rename_i hl hg; exact ⟨by omega, good_iff.1 hg⟩
    · cases h
end
/-- An entry's bytes. -/
def entB (x : Ent) : List UInt8 := (modeText x.mode).data.toList ++ [32] ++ x.name.data.toList ++ [0] ++ (unhexL x.id.data.toList).getD []
def bytesE (xs : List Ent) : List UInt8 := xs.flatMap entB
end TreeM

/- Formulas of 8 Go functions of this seat (written by a program of the author's, vcgen.py), and that each is enough for the call. No condition. -/
set_option linter.unusedVariables false
namespace Go.Proofs.YtopjkjiobdigaaaGreatDoor
open Go Vc Go.Proofs
set_option maxRecDepth 100000
/-- tree.mode -/
def vc_tree_mode (x0 : ByteArray) (w : World) (R : Value → World → Prop) : Prop :=
  ((((ByteArray.toList x0 == ByteArray.toList (ByteArray.mk (Array.mk [52, 48, 48, 48, 48]))) = true →
     R (Value.int IntKind.i64 16384) w)) ∧
   ((ByteArray.toList x0 == ByteArray.toList (ByteArray.mk (Array.mk [52, 48, 48, 48, 48]))) = false →
     ((((ByteArray.toList x0 == ByteArray.toList (ByteArray.mk (Array.mk [49, 48, 48, 54, 52, 52]))) = true →
        R (Value.int IntKind.i64 33188) w)) ∧
      ((ByteArray.toList x0 == ByteArray.toList (ByteArray.mk (Array.mk [49, 48, 48, 54, 52, 52]))) = false →
        ((((ByteArray.toList x0 == ByteArray.toList (ByteArray.mk (Array.mk [49, 48, 48, 55, 53, 53]))) = true →
           R (Value.int IntKind.i64 33261) w)) ∧
         ((ByteArray.toList x0 == ByteArray.toList (ByteArray.mk (Array.mk [49, 48, 48, 55, 53, 53]))) = false →
           ((((ByteArray.toList x0 == ByteArray.toList (ByteArray.mk (Array.mk [49, 50, 48, 48, 48, 48]))) = true →
              R (Value.int IntKind.i64 40960) w)) ∧
            ((ByteArray.toList x0 == ByteArray.toList (ByteArray.mk (Array.mk [49, 50, 48, 48, 48, 48]))) = false →
              ((((ByteArray.toList x0 == ByteArray.toList (ByteArray.mk (Array.mk [49, 54, 48, 48, 48, 48]))) = true →
                 R (Value.int IntKind.i64 57344) w)) ∧
               ((ByteArray.toList x0 == ByteArray.toList (ByteArray.mk (Array.mk [49, 54, 48, 48, 48, 48]))) = false →
                 R (Value.int IntKind.i64 0) w))))))))))
theorem vc_tree_mode_ok {x0 : ByteArray} {w : World} {R : Value → World → Prop} {R' : Ending → World → Prop} (h : vc_tree_mode x0 w R) (hR : ∀ v w', R v w' → R' (.returned v) w') :
    Calls Tryz.prog 43 #[.string x0] w R' :=
  calls_of_body (vs := [(.string x0, false)]) (ty := ty) (ann := ⟨[], [], [], []⟩) (c := Tryz.f43.body.getD .skip) (by kernel_rfl) Tryz.func43 (by kernel_rfl) (by kernel_rfl) (Eq.mp (by kernel_rfl) h) hR
/-- tree.text -/
def vc_tree_text (x0 : Int) (w : World) (R : Value → World → Prop) : Prop :=
  ((((x0 == 16384) = true →
     R (Value.string (ByteArray.mk (Array.mk [52, 48, 48, 48, 48]))) w)) ∧
   ((x0 == 16384) = false →
     ((((x0 == 33188) = true →
        R (Value.string (ByteArray.mk (Array.mk [49, 48, 48, 54, 52, 52]))) w)) ∧
      ((x0 == 33188) = false →
        ((((x0 == 33261) = true →
           R (Value.string (ByteArray.mk (Array.mk [49, 48, 48, 55, 53, 53]))) w)) ∧
         ((x0 == 33261) = false →
           ((((x0 == 40960) = true →
              R (Value.string (ByteArray.mk (Array.mk [49, 50, 48, 48, 48, 48]))) w)) ∧
            ((x0 == 40960) = false →
              ((((x0 == 57344) = true →
                 R (Value.string (ByteArray.mk (Array.mk [49, 54, 48, 48, 48, 48]))) w)) ∧
               ((x0 == 57344) = false →
                 R (Value.string (ByteArray.mk (Array.mk []))) w))))))))))
theorem vc_tree_text_ok {x0 : Int} {w : World} {R : Value → World → Prop} {R' : Ending → World → Prop} (h : vc_tree_text x0 w R) (hR : ∀ v w', R v w' → R' (.returned v) w') :
    Calls Tryz.prog 18 #[.int .i64 x0] w R' :=
  calls_of_body (vs := [(.int .i64 x0, false)]) (ty := ty) (ann := ⟨[], [], [], []⟩) (c := Tryz.f18.body.getD .skip) (by kernel_rfl) Tryz.func18 (by kernel_rfl) (by kernel_rfl) (Eq.mp (by kernel_rfl) h) hR
/-- tree.Name -/
def vc_tree_Name (x0 : ByteArray) (w : World) (R : Value → World → Prop) : Prop :=
  ((((!ByteArray.toList x0 == ByteArray.toList (ByteArray.mk (Array.mk []))) = true →
     (((decide ((↑(ByteArray.size x0) : Int) ≤ 100) = true →
        ((((!ByteArray.toList x0 == ByteArray.toList (ByteArray.mk (Array.mk [46]))) = true →
           ((((!ByteArray.toList x0 == ByteArray.toList (ByteArray.mk (Array.mk [46, 46]))) = true →
              Calls Tryz.prog (72 : Nat) (Array.mk [Value.string x0, Value.string (ByteArray.mk (Array.mk [46, 103, 105, 116]))]) (w) (fun e1 w2 =>
                ∃ b3 : Bool, (e1 = Ending.returned (Value.bool b3) ∧
                 ((((!b3) = true →
                    Calls Tryz.prog (73 : Nat) (Array.mk [Value.string x0, Value.string (ByteArray.mk (Array.mk [47, 0]))]) (w2) (fun e4 w5 =>
                      ∃ b6 : Bool, (e4 = Ending.returned (Value.bool b6) ∧
                       R (Value.bool !b6) w5)))) ∧
                  ((!b3) = false →
                    R (Value.bool false) w2)))))) ∧
            ((!ByteArray.toList x0 == ByteArray.toList (ByteArray.mk (Array.mk [46, 46]))) = false →
              R (Value.bool false) w)))) ∧
         ((!ByteArray.toList x0 == ByteArray.toList (ByteArray.mk (Array.mk [46]))) = false →
           R (Value.bool false) w)))) ∧
      (decide ((↑(ByteArray.size x0) : Int) ≤ 100) = false →
        R (Value.bool false) w)))) ∧
   ((!ByteArray.toList x0 == ByteArray.toList (ByteArray.mk (Array.mk []))) = false →
     R (Value.bool false) w))
theorem vc_tree_Name_ok {x0 : ByteArray} {w : World} {R : Value → World → Prop} {R' : Ending → World → Prop} (h : vc_tree_Name x0 w R) (hR : ∀ v w', R v w' → R' (.returned v) w') :
    Calls Tryz.prog 44 #[.string x0] w R' :=
  calls_of_body (vs := [(.string x0, false)]) (ty := ty) (ann := ⟨[], [], [], []⟩) (c := Tryz.f44.body.getD .skip) (by kernel_rfl) Tryz.func44 (by kernel_rfl) (by kernel_rfl) (Eq.mp (by kernel_rfl) h) hR
/-- tree.key -/
def vc_tree_key (x0_0 : Int) (x0_1 : ByteArray) (x0_2 : ByteArray) (w : World) (R : Value → World → Prop) : Prop :=
  ∀ w1 : World,
  (w1 = World.alloc w (Obj.cells (Array.mk [Value.int IntKind.i64 x0_0, Value.string x0_1, Value.string x0_2]) 47) →
    ∃ n2 : Int, (World.cell? w1 (Addr.mk (Array.size (World.heap w)) 0 none) = some (Value.int IntKind.i64 n2) ∧
     ((((n2 == 16384) = true →
        ∃ s3 : ByteArray, (World.cell? w1 (Addr.mk (Array.size (World.heap w)) 1 none) = some (Value.string s3) ∧
         (ByteArray.size s3 + ByteArray.size (ByteArray.mk (Array.mk [47])) ≤ 9223372036854775807 ∧
          R (Value.string (s3 ++ ByteArray.mk (Array.mk [47]))) w1)))) ∧
      ((n2 == 16384) = false →
        ∃ s4 : ByteArray, (World.cell? w1 (Addr.mk (Array.size (World.heap w)) 1 none) = some (Value.string s4) ∧
         R (Value.string s4) w1)))))
theorem vc_tree_key_ok {x0_0 : Int} {x0_1 : ByteArray} {x0_2 : ByteArray} {w : World} {R : Value → World → Prop} {R' : Ending → World → Prop} (h : vc_tree_key x0_0 x0_1 x0_2 w R) (hR : ∀ v w', R v w' → R' (.returned v) w') :
    Calls Tryz.prog 45 #[.agg #[.int .i64 x0_0, .string x0_1, .string x0_2]] w R' :=
  calls_of_body (vs := [(.agg #[.int .i64 x0_0, .string x0_1, .string x0_2], false)]) (ty := ty) (ann := ⟨[], [], [], []⟩) (c := Tryz.f45.body.getD .skip) (by kernel_rfl) Tryz.func45 (by kernel_rfl) (by kernel_rfl) (Eq.mp (by kernel_rfl) h) hR
/-- tree.Check -/
def vc_tree_Check (x0a : Option Addr) (x0n : Nat) (x0c : Nat) (w : World) (R : Value → World → Prop) : Prop :=
  (((decide ((↑x0n : Int) > 500) = true →
     R (Value.int IntKind.i64 2) w)) ∧
   (decide ((↑x0n : Int) > 500) = false →
     ∀ w1 : World,
     (w1 = World.alloc w (Obj.map (Array.mk []) 0) →
       ∃ I2 : Int → World → Prop, ∃ I3 : Int → World → Nat, (I2 0 w1 ∧
        ∀ n4 : Int,
        ∀ w5 : World,
        (I2 n4 w5 →
          (((decide (n4 < (↑x0n : Int)) = true →
             ((0 ≤ n4 ∧
               n4 < (↑x0n : Int)) ∧
              ∃ a6 : Addr, (x0a = some a6 ∧
               ∃ n7 : Int, ∃ s8 : ByteArray, ∃ s9 : ByteArray, (Sem.run Tryz.prog (loadVar 47 (Addr.add a6 (Int.toNat n4 * 3))) w5 = Result.ok (Value.agg (Array.mk [Value.int IntKind.i64 n7, Value.string s8, Value.string s9])) w5 ∧
                ∀ w10 : World,
                (w10 = World.alloc w5 (Obj.cells (Array.mk [Value.int IntKind.i64 0, Value.string (ByteArray.mk (Array.mk [])), Value.string (ByteArray.mk (Array.mk []))]) 47) →
                  ∃ w11 : World, (Sem.run Tryz.prog (storeVar 47 (Addr.mk (Array.size (World.heap w5)) 0 none) (Value.agg (Array.mk [Value.int IntKind.i64 n7, Value.string s8, Value.string s9]))) w10 = Result.ok PUnit.unit w11 ∧
                   ∀ w12 : World,
                   (Drew w11 w12 →
                     ∃ I13 : World → Prop, (I13 w12 ∧
                      ∃ n14 : Int, ((∀ w15 : World,
                       (I13 w15 →
                         World.cell? w15 (Addr.mk (Array.size (World.heap w5)) 0 none) = some (Value.int IntKind.i64 n14))) ∧
                       Calls Tryz.prog (18 : Nat) (Array.mk [Value.int IntKind.i64 n14]) (w12) (fun e16 w17 =>
                         ∃ s18 : ByteArray, (e16 = Ending.returned (Value.string s18) ∧
                          (I13 w17 ∧
                           ((((ByteArray.toList s18 == ByteArray.toList (ByteArray.mk (Array.mk []))) = true →
                              (I13 w17 ∧
                               (I13 w17 ∧
                                (I13 w17 ∧
                                 (I13 w17 ∧
                                  R (Value.int IntKind.i64 4) w17)))))) ∧
                            ((ByteArray.toList s18 == ByteArray.toList (ByteArray.mk (Array.mk []))) = false →
                              ∃ s19 : ByteArray, ((∀ w20 : World,
                               (I13 w20 →
                                 World.cell? w20 (Addr.mk (Array.size (World.heap w5)) 1 none) = some (Value.string s19))) ∧
                               Calls Tryz.prog (44 : Nat) (Array.mk [Value.string s19]) (w17) (fun e21 w22 =>
                                 ∃ b23 : Bool, (e21 = Ending.returned (Value.bool b23) ∧
                                  (I13 w22 ∧
                                   ((((!b23) = true →
                                      (I13 w22 ∧
                                       (I13 w22 ∧
                                        (I13 w22 ∧
                                         R (Value.int IntKind.i64 4) w22))))) ∧
                                    ((!b23) = false →
                                      ∃ s24 : ByteArray, ((∀ w25 : World,
                                       (I13 w25 →
                                         World.cell? w25 (Addr.mk (Array.size (World.heap w5)) 2 none) = some (Value.string s24))) ∧
                                       Calls Tryz.prog (33 : Nat) (Array.mk [Value.string s24]) (w22) (fun e26 w27 =>
                                         ∃ b28 : Bool, (e26 = Ending.returned (Value.bool b28) ∧
                                          (I13 w27 ∧
                                           ((((!b28) = true →
                                              (I13 w27 ∧
                                               (I13 w27 ∧
                                                R (Value.int IntKind.i64 4) w27)))) ∧
                                            ((!b28) = false →
                                              ∃ s29 : ByteArray, ((∀ w30 : World,
                                               (I13 w30 →
                                                 World.cell? w30 (Addr.mk (Array.size (World.heap w5)) 1 none) = some (Value.string s29))) ∧
                                               ∃ b31 : Bool, ((∀ w32 : World,
                                                (I13 w32 →
                                                  Sem.run Tryz.prog (Instr.lookup 92 (Value.map (some (Array.size (World.heap w)))) (Value.string s29) false) w32 = Result.ok (Value.bool b31) w32)) ∧
                                                (((b31 = true →
                                                   (I13 w27 ∧
                                                    (I13 w27 ∧
                                                     R (Value.int IntKind.i64 4) w27)))) ∧
                                                 (b31 = false →
                                                   (((decide (n4 > 0) = true →
                                                      ((0 ≤ IntKind.wrap IntKind.i64 (n4 - 1) ∧
                                                        IntKind.wrap IntKind.i64 (n4 - 1) < (↑x0n : Int)) ∧
                                                       ∃ a33 : Addr, (x0a = some a33 ∧
                                                        ∃ n34 : Int, ∃ s35 : ByteArray, ∃ s36 : ByteArray, ((∀ w37 : World,
                                                         (I13 w37 →
                                                           Sem.run Tryz.prog (loadVar 47 (Addr.add a33 (Int.toNat (IntKind.wrap IntKind.i64 (n4 - 1)) * 3))) w37 = Result.ok (Value.agg (Array.mk [Value.int IntKind.i64 n34, Value.string s35, Value.string s36])) w37)) ∧
                                                         ∃ n38 : Int, ∃ s39 : ByteArray, ∃ s40 : ByteArray, ((∀ w41 : World,
                                                          (I13 w41 →
                                                            Sem.run Tryz.prog (loadVar 47 (Addr.mk (Array.size (World.heap w5)) 0 none)) w41 = Result.ok (Value.agg (Array.mk [Value.int IntKind.i64 n38, Value.string s39, Value.string s40])) w41)) ∧
                                                          Calls Tryz.prog (45 : Nat) (Array.mk [Value.agg (Array.mk [Value.int IntKind.i64 n34, Value.string s35, Value.string s36])]) (w27) (fun e42 w43 =>
                                                            ∃ s44 : ByteArray, (e42 = Ending.returned (Value.string s44) ∧
                                                             (I13 w43 ∧
                                                              Calls Tryz.prog (45 : Nat) (Array.mk [Value.agg (Array.mk [Value.int IntKind.i64 n38, Value.string s39, Value.string s40])]) (w43) (fun e45 w46 =>
                                                                ∃ s47 : ByteArray, (e45 = Ending.returned (Value.string s47) ∧
                                                                 (I13 w46 ∧
                                                                  ((((!Op.bytesLess (ByteArray.toList s44) (ByteArray.toList s47)) = true →
                                                                     R (Value.int IntKind.i64 4) w46)) ∧
                                                                   ((!Op.bytesLess (ByteArray.toList s44) (ByteArray.toList s47)) = false →
                                                                     ∃ s48 : ByteArray, (World.cell? w46 (Addr.mk (Array.size (World.heap w5)) 1 none) = some (Value.string s48) ∧
                                                                      ∃ w49 : World, (Sem.run Tryz.prog (Instr.mapUpdate 92 (Value.map (some (Array.size (World.heap w)))) (Value.string s48) (Value.bool true)) w46 = Result.ok PUnit.unit w49 ∧
                                                                       (I2 (IntKind.wrap IntKind.i64 (n4 + 1)) w49 ∧
                                                                        I3 (IntKind.wrap IntKind.i64 (n4 + 1)) w49 < I3 n4 w5))))))))))))))))) ∧
                                                    (decide (n4 > 0) = false →
                                                      (I13 w27 ∧
                                                       (I13 w27 ∧
                                                        ∃ s50 : ByteArray, (World.cell? w27 (Addr.mk (Array.size (World.heap w5)) 1 none) = some (Value.string s50) ∧
                                                         ∃ w51 : World, (Sem.run Tryz.prog (Instr.mapUpdate 92 (Value.map (some (Array.size (World.heap w)))) (Value.string s50) (Value.bool true)) w27 = Result.ok PUnit.unit w51 ∧
                                                          (I2 (IntKind.wrap IntKind.i64 (n4 + 1)) w51 ∧
                                                           I3 (IntKind.wrap IntKind.i64 (n4 + 1)) w51 < I3 n4 w5)))))))))))))))))))))))))))))))))))))) ∧
           (decide (n4 < (↑x0n : Int)) = false →
             R (Value.int IntKind.i64 0) w5)))))))
theorem vc_tree_Check_ok {x0a : Option Addr} {x0n : Nat} {x0c : Nat} {w : World} {R : Value → World → Prop} {R' : Ending → World → Prop} (h : vc_tree_Check x0a x0n x0c w R) (hR : ∀ v w', R v w' → R' (.returned v) w') :
    Calls Tryz.prog 15 #[.slice x0a x0n x0c] w R' :=
  calls_of_body (vs := [(.slice x0a x0n x0c, false)]) (ty := ty) (ann := ⟨[], [(5, [(12, .int .i64)])], [(7, .held [(0, true), (1, true), (2, false), (3, true), (4, true), (5, true), (6, true), (7, false), (8, true), (9, true), (10, true), (11, true), (12, true), (13, false), (14, true), (15, true), (16, true), (17, true), (18, true), (19, true), (20, true), (21, true), (22, true), (23, true), (24, true), (25, true), (26, true), (27, true), (28, true), (29, true), (30, true), (32, true), (31, false), (33, false), (34, true), (35, true), (36, true)])], []⟩) (c := Tryz.f15.body.getD .skip) (by kernel_rfl) Tryz.func15 (by kernel_rfl) (by kernel_rfl) (Eq.mp (by kernel_rfl) h) hR
/-- tree.Format -/
def vc_tree_Format (x0a : Option Addr) (x0n : Nat) (x0c : Nat) (w : World) (R : Value → World → Prop) : Prop :=
  Calls Tryz.prog (15 : Nat) (Array.mk [Value.slice x0a x0n x0c]) (w) (fun e1 w2 =>
    ∃ n3 : Int, (e1 = Ending.returned (Value.int IntKind.i64 n3) ∧
     ((((n3 != 0) = true →
        R (Value.tuple (Array.mk [Value.string (ByteArray.mk (Array.mk [])), Value.int IntKind.i64 n3])) w2)) ∧
      ((n3 != 0) = false →
        ∀ w4 : World,
        (w4 = World.alloc w2 (Obj.cells (Array.mk [Value.pointer none, Value.slice none 0 0]) 55) →
          ∃ I5 : Int → World → Prop, ∃ I6 : Int → World → Nat, (I5 0 w4 ∧
           ∀ n7 : Int,
           ∀ w8 : World,
           (I5 n7 w8 →
             (((decide (n7 < (↑x0n : Int)) = true →
                ((0 ≤ n7 ∧
                  n7 < (↑x0n : Int)) ∧
                 ∃ a9 : Addr, (x0a = some a9 ∧
                  ∃ n10 : Int, ∃ s11 : ByteArray, ∃ s12 : ByteArray, (Sem.run Tryz.prog (loadVar 47 (Addr.add a9 (Int.toNat n7 * 3))) w8 = Result.ok (Value.agg (Array.mk [Value.int IntKind.i64 n10, Value.string s11, Value.string s12])) w8 ∧
                   ∀ w13 : World,
                   (w13 = World.alloc w8 (Obj.cells (Array.mk [Value.int IntKind.i64 0, Value.string (ByteArray.mk (Array.mk [])), Value.string (ByteArray.mk (Array.mk []))]) 47) →
                     ∃ w14 : World, (Sem.run Tryz.prog (storeVar 47 (Addr.mk (Array.size (World.heap w8)) 0 none) (Value.agg (Array.mk [Value.int IntKind.i64 n10, Value.string s11, Value.string s12]))) w13 = Result.ok PUnit.unit w14 ∧
                      ∃ s15 : ByteArray, (World.cell? w14 (Addr.mk (Array.size (World.heap w8)) 2 none) = some (Value.string s15) ∧
                       Calls Tryz.prog (16 : Nat) (Array.mk [Value.string s15]) (w14) (fun e16 w17 =>
                         ∃ s18 : ByteArray, ∃ b19 : Bool, (e16 = Ending.returned (Value.tuple (Array.mk [Value.string s18, Value.bool b19])) ∧
                          ∀ w20 : World,
                          (Drew w17 w20 →
                            ∃ I21 : World → Prop, (I21 w20 ∧
                             ∃ n22 : Int, ((∀ w23 : World,
                              (I21 w23 →
                                World.cell? w23 (Addr.mk (Array.size (World.heap w8)) 0 none) = some (Value.int IntKind.i64 n22))) ∧
                              ∃ s24 : ByteArray, ((∀ w25 : World,
                               (I21 w25 →
                                 World.cell? w25 (Addr.mk (Array.size (World.heap w8)) 1 none) = some (Value.string s24))) ∧
                               Calls Tryz.prog (18 : Nat) (Array.mk [Value.int IntKind.i64 n22]) (w20) (fun e26 w27 =>
                                 ∃ s28 : ByteArray, (e26 = Ending.returned (Value.string s28) ∧
                                  (I21 w27 ∧
                                   (ByteArray.size s28 + ByteArray.size (ByteArray.mk (Array.mk [32])) ≤ 9223372036854775807 ∧
                                    (ByteArray.size (s28 ++ ByteArray.mk (Array.mk [32])) + ByteArray.size s24 ≤ 9223372036854775807 ∧
                                     (ByteArray.size (s28 ++ ByteArray.mk (Array.mk [32]) ++ s24) + ByteArray.size (ByteArray.mk (Array.mk [0])) ≤ 9223372036854775807 ∧
                                      (ByteArray.size (s28 ++ ByteArray.mk (Array.mk [32]) ++ s24 ++ ByteArray.mk (Array.mk [0])) + ByteArray.size s18 ≤ 9223372036854775807 ∧
                                       Calls Tryz.prog (17 : Nat) (Array.mk [Value.pointer (some (Addr.mk (Array.size (World.heap w2)) 0 none)), Value.string (s28 ++ ByteArray.mk (Array.mk [32]) ++ s24 ++ ByteArray.mk (Array.mk [0]) ++ s18)]) (w27) (fun e29 w30 =>
                                         ∃ n31 : Int, ∃ z32 : Unit, (e29 = Ending.returned (Value.tuple (Array.mk [Value.int IntKind.i64 n31, Value.nilIface])) ∧
                                          (I5 (IntKind.wrap IntKind.i64 (n7 + 1)) w30 ∧
                                           I6 (IntKind.wrap IntKind.i64 (n7 + 1)) w30 < I6 n7 w8)))))))))))))))))))))))) ∧
              (decide (n7 < (↑x0n : Int)) = false →
                Calls Tryz.prog (19 : Nat) (Array.mk [Value.pointer (some (Addr.mk (Array.size (World.heap w2)) 0 none))]) (w8) (fun e33 w34 =>
                  ∃ s35 : ByteArray, (e33 = Ending.returned (Value.string s35) ∧
                   R (Value.tuple (Array.mk [Value.string s35, Value.int IntKind.i64 0])) w34)))))))))))
theorem vc_tree_Format_ok {x0a : Option Addr} {x0n : Nat} {x0c : Nat} {w : World} {R : Value → World → Prop} {R' : Ending → World → Prop} (h : vc_tree_Format x0a x0n x0c w R) (hR : ∀ v w', R v w' → R' (.returned v) w') :
    Calls Tryz.prog 5 #[.slice x0a x0n x0c] w R' :=
  calls_of_body (vs := [(.slice x0a x0n x0c, false)]) (ty := ty) (ann := ⟨[], [(6, [(17, .int .i64)])], [(9, .held [(0, true), (1, true), (4, true), (5, true), (8, true), (2, false), (3, true), (6, true), (7, true), (9, true), (10, false)])], []⟩) (c := Tryz.f5.body.getD .skip) (by kernel_rfl) Tryz.func5 (by kernel_rfl) (by kernel_rfl) (Eq.mp (by kernel_rfl) h) hR
/-- tree.Parse -/
def vc_tree_Parse (x0 : ByteArray) (w : World) (R : Value → World → Prop) : Prop :=
  ∃ I1 : ByteArray → Sl → World → Prop, ∃ I2 : ByteArray → Sl → World → Nat, (I1 x0 (Sl.mk none 0 0) w ∧
   ∀ s3 : ByteArray,
   ∀ l4 : Sl,
   ∀ w5 : World,
   (I1 s3 l4 w5 →
     ((((!ByteArray.toList s3 == ByteArray.toList (ByteArray.mk (Array.mk []))) = true →
        Calls Tryz.prog (42 : Nat) (Array.mk [Value.string s3, Value.string (ByteArray.mk (Array.mk [0]))]) (w5) (fun e6 w7 =>
          ∃ s8 : ByteArray, ∃ s9 : ByteArray, ∃ b10 : Bool, (e6 = Ending.returned (Value.tuple (Array.mk [Value.string s8, Value.string s9, Value.bool b10])) ∧
           ((((!b10) = true →
              R (Value.tuple (Array.mk [Value.slice none 0 0, Value.int IntKind.i64 6])) w7)) ∧
            ((!b10) = false →
              (((decide ((↑(ByteArray.size s9) : Int) < 20) = true →
                 R (Value.tuple (Array.mk [Value.slice none 0 0, Value.int IntKind.i64 6])) w7)) ∧
               (decide ((↑(ByteArray.size s9) : Int) < 20) = false →
                 Calls Tryz.prog (42 : Nat) (Array.mk [Value.string s8, Value.string (ByteArray.mk (Array.mk [32]))]) (w7) (fun e11 w12 =>
                   ∃ s13 : ByteArray, ∃ s14 : ByteArray, ∃ b15 : Bool, (e11 = Ending.returned (Value.tuple (Array.mk [Value.string s13, Value.string s14, Value.bool b15])) ∧
                    ((((!b15) = true →
                       R (Value.tuple (Array.mk [Value.slice none 0 0, Value.int IntKind.i64 3])) w12)) ∧
                     ((!b15) = false →
                       Calls Tryz.prog (43 : Nat) (Array.mk [Value.string s13]) (w12) (fun e16 w17 =>
                         ∃ n18 : Int, (e16 = Ending.returned (Value.int IntKind.i64 n18) ∧
                          ((((n18 == 0) = true →
                             R (Value.tuple (Array.mk [Value.slice none 0 0, Value.int IntKind.i64 3])) w17)) ∧
                           ((n18 == 0) = false →
                             ∀ w19 : World,
                             (Drew w17 w19 →
                               ∃ I20 : World → Prop, (I20 w19 ∧
                                (((0 : Int) ≤ (20 : Int) ∧
                                  20 ≤ (↑(ByteArray.size s9) : Int)) ∧
                                 Calls Tryz.prog (43 : Nat) (Array.mk [Value.string s13]) (w19) (fun e21 w22 =>
                                   ∃ n23 : Int, (e21 = Ending.returned (Value.int IntKind.i64 n23) ∧
                                    (I20 w22 ∧
                                     Calls Tryz.prog (38 : Nat) (Array.mk [Value.string (ByteArray.extract s9 0 (Int.toNat 20))]) (w22) (fun e24 w25 =>
                                       ∃ s26 : ByteArray, (e24 = Ending.returned (Value.string s26) ∧
                                        (I20 w25 ∧
                                         ∀ w27 : World,
                                         (w27 = World.alloc w25 (Obj.cells (Array.mk [Value.int IntKind.i64 n23, Value.string s14, Value.string s26]) 47) →
                                           (I20 w27 ∧
                                            ∃ w28 : World, ∃ l29 : Sl, (Sem.run Tryz.prog (Builtin.append_ (Array.mk [22, 22]) 22 (Array.mk [Value.slice l4.1 l4.2 l4.3, Value.slice (some (Addr.mk (Array.size (World.heap w25)) 0 none)) 1 1])) w27 = Result.ok (Value.slice l29.1 l29.2 l29.3) w28 ∧
                                             (I20 w28 ∧
                                              (((0 : Int) ≤ (20 : Int) ∧
                                                20 ≤ (↑(ByteArray.size s9) : Int)) ∧
                                               (((decide ((↑l29.2 : Int) > 500) = true →
                                                  R (Value.tuple (Array.mk [Value.slice none 0 0, Value.int IntKind.i64 2])) w28)) ∧
                                                (decide ((↑l29.2 : Int) > 500) = false →
                                                  (I1 (ByteArray.extract s9 (Int.toNat 20) (ByteArray.size s9)) (Sl.mk l29.1 l29.2 l29.3) w28 ∧
                                                   I2 (ByteArray.extract s9 (Int.toNat 20) (ByteArray.size s9)) (Sl.mk l29.1 l29.2 l29.3) w28 < I2 s3 l4 w5))))))))))))))))))))))))))))))))) ∧
      ((!ByteArray.toList s3 == ByteArray.toList (ByteArray.mk (Array.mk []))) = false →
        Calls Tryz.prog (15 : Nat) (Array.mk [Value.slice l4.1 l4.2 l4.3]) (w5) (fun e30 w31 =>
          ∃ n32 : Int, (e30 = Ending.returned (Value.int IntKind.i64 n32) ∧
           ((((n32 != 0) = true →
              R (Value.tuple (Array.mk [Value.slice none 0 0, Value.int IntKind.i64 n32])) w31)) ∧
            ((n32 != 0) = false →
              R (Value.tuple (Array.mk [Value.slice l4.1 l4.2 l4.3, Value.int IntKind.i64 0])) w31))))))))
theorem vc_tree_Parse_ok {x0 : ByteArray} {w : World} {R : Value → World → Prop} {R' : Ending → World → Prop} (h : vc_tree_Parse x0 w R) (hR : ∀ v w', R v w' → R' (.returned v) w') :
    Calls Tryz.prog 12 #[.string x0] w R' :=
  calls_of_body (vs := [(.string x0, false)]) (ty := ty) (ann := ⟨[], [(2, [(0, .str), (4, .slice)])], [(9, .held [(0, true), (1, true), (3, true), (4, true), (5, true), (2, false), (6, false), (7, true), (8, false), (9, false), (10, true)])], []⟩) (c := Tryz.f12.body.getD .skip) (by kernel_rfl) Tryz.func12 (by kernel_rfl) (by kernel_rfl) (Eq.mp (by kernel_rfl) h) hR
/-- tree.Find -/
def vc_tree_Find (x0a : Option Addr) (x0n : Nat) (x0c : Nat) (x1 : ByteArray) (w : World) (R : Value → World → Prop) : Prop :=
  ∀ w1 : World,
  (w1 = World.alloc w (Obj.cells (Array.mk [Value.int IntKind.i64 0, Value.string (ByteArray.mk (Array.mk [])), Value.string (ByteArray.mk (Array.mk []))]) 47) →
    ∃ I2 : Int → World → Prop, ∃ I3 : Int → World → Nat, (I2 0 w1 ∧
     ∀ n4 : Int,
     ∀ w5 : World,
     (I2 n4 w5 →
       (((decide (n4 < (↑x0n : Int)) = true →
          ((0 ≤ n4 ∧
            n4 < (↑x0n : Int)) ∧
           ∃ a6 : Addr, (x0a = some a6 ∧
            ∃ n7 : Int, ∃ s8 : ByteArray, ∃ s9 : ByteArray, (Sem.run Tryz.prog (loadVar 47 (Addr.add a6 (Int.toNat n4 * 3))) w5 = Result.ok (Value.agg (Array.mk [Value.int IntKind.i64 n7, Value.string s8, Value.string s9])) w5 ∧
             ∀ w10 : World,
             (w10 = World.alloc w5 (Obj.cells (Array.mk [Value.int IntKind.i64 0, Value.string (ByteArray.mk (Array.mk [])), Value.string (ByteArray.mk (Array.mk []))]) 47) →
               ∃ w11 : World, (Sem.run Tryz.prog (storeVar 47 (Addr.mk (Array.size (World.heap w5)) 0 none) (Value.agg (Array.mk [Value.int IntKind.i64 n7, Value.string s8, Value.string s9]))) w10 = Result.ok PUnit.unit w11 ∧
                ∃ s12 : ByteArray, (World.cell? w11 (Addr.mk (Array.size (World.heap w5)) 1 none) = some (Value.string s12) ∧
                 ((((ByteArray.toList s12 == ByteArray.toList x1) = true →
                    ∃ n13 : Int, ∃ s14 : ByteArray, ∃ s15 : ByteArray, (Sem.run Tryz.prog (loadVar 47 (Addr.mk (Array.size (World.heap w5)) 0 none)) w11 = Result.ok (Value.agg (Array.mk [Value.int IntKind.i64 n13, Value.string s14, Value.string s15])) w11 ∧
                     ∃ w16 : World, (Sem.run Tryz.prog (storeVar 47 (Addr.mk (Array.size (World.heap w)) 0 none) (Value.agg (Array.mk [Value.int IntKind.i64 n13, Value.string s14, Value.string s15]))) w11 = Result.ok PUnit.unit w16 ∧
                      ∃ n17 : Int, ∃ s18 : ByteArray, ∃ s19 : ByteArray, (Sem.run Tryz.prog (loadVar 47 (Addr.mk (Array.size (World.heap w)) 0 none)) w16 = Result.ok (Value.agg (Array.mk [Value.int IntKind.i64 n17, Value.string s18, Value.string s19])) w16 ∧
                       R (Value.tuple (Array.mk [Value.agg (Array.mk [Value.int IntKind.i64 n17, Value.string s18, Value.string s19]), Value.int IntKind.i64 0])) w16))))) ∧
                  ((ByteArray.toList s12 == ByteArray.toList x1) = false →
                    (I2 (IntKind.wrap IntKind.i64 (n4 + 1)) w11 ∧
                     I3 (IntKind.wrap IntKind.i64 (n4 + 1)) w11 < I3 n4 w5))))))))))) ∧
        (decide (n4 < (↑x0n : Int)) = false →
          ∃ w20 : World, (Sem.run Tryz.prog (storeVar 47 (Addr.mk (Array.size (World.heap w)) 0 none) (Value.agg (Array.mk [Value.int IntKind.i64 0, Value.string (ByteArray.mk (Array.mk [])), Value.string (ByteArray.mk (Array.mk []))]))) w5 = Result.ok PUnit.unit w20 ∧
           ∃ n21 : Int, ∃ s22 : ByteArray, ∃ s23 : ByteArray, (Sem.run Tryz.prog (loadVar 47 (Addr.mk (Array.size (World.heap w)) 0 none)) w20 = Result.ok (Value.agg (Array.mk [Value.int IntKind.i64 n21, Value.string s22, Value.string s23])) w20 ∧
            R (Value.tuple (Array.mk [Value.agg (Array.mk [Value.int IntKind.i64 n21, Value.string s22, Value.string s23]), Value.int IntKind.i64 7])) w20)))))))
theorem vc_tree_Find_ok {x0a : Option Addr} {x0n : Nat} {x0c : Nat} {x1 : ByteArray} {w : World} {R : Value → World → Prop} {R' : Ending → World → Prop} (h : vc_tree_Find x0a x0n x0c x1 w R) (hR : ∀ v w', R v w' → R' (.returned v) w') :
    Calls Tryz.prog 14 #[.slice x0a x0n x0c, .string x1] w R' :=
  calls_of_body (vs := [(.slice x0a x0n x0c, false), (.string x1, false)]) (ty := ty) (ann := ⟨[], [(2, [(10, .int .i64)])], [], []⟩) (c := Tryz.f14.body.getD .skip) (by kernel_rfl) Tryz.func14 (by kernel_rfl) (by kernel_rfl) (Eq.mp (by kernel_rfl) h) hR
end Go.Proofs.YtopjkjiobdigaaaGreatDoor

/- The program's folders: mode, text, Name, key, Check. Conditions: the table that folds ASCII letters lies as its initialiser lays it; texts are no longer than memory. -/
set_option linter.unusedVariables false
namespace Go.Proofs.YtopjkjiobdigaaaGreatDoor
open Go Vc HexM TreeM Go.Proofs

theorem elE : ElK encE 3 Tryz.prog T_S_api_Entry T_api_Entry (.agg #[.int .i64 0, .string ⟨#[]⟩, .string ⟨#[]⟩]) 40 :=
  ⟨by kernel_rfl, by kernel_rfl, rfl, by decide, by kernel_rfl, fun _ => rfl, fun x u hu => by
    simp only [encE, List.mem_cons, List.mem_nil_iff, or_false] at hu
    rcases hu with rfl | rfl | rfl <;> rfl⟩
/-- A struct in a block of its own. -/
theorem boxE_run (w : World) (x : Ent) : (storeVar T_api_Entry ⟨w.heap.size, 0, none⟩ (.agg #[.int .i64 x.mode, .string x.name, .string x.id])).run Tryz.prog (w.alloc (.cells #[.int .i64 0, .string ⟨#[]⟩, .string ⟨#[]⟩] T_api_Entry)) = .ok () (w.alloc (.cells (encE x).toArray T_api_Entry)) :=
  run_storeVar_new w T_api_Entry _ _ (by kernel_rfl) rfl (by simp [Value.oneCell'])
theorem boxE_cell (w : World) (x : Ent) {w' : World} {X : Nat → Prop} (hf : Fr X (w.alloc (.cells (encE x).toArray T_api_Entry)) w') (hx : ¬ X w.heap.size) {j : Nat} {v : Value} (hv : (encE x)[j]? = some v) : w'.cell? ⟨w.heap.size, j, none⟩ = some v :=
  hf.cell (by rw [cell_blk (alloc_new w _)]; simpa using hv) hx
theorem boxE_load (w : World) (x : Ent) {w' : World} {X : Nat → Prop} (hf : Fr X (w.alloc (.cells (encE x).toArray T_api_Entry)) w') (hx : ¬ X w.heap.size) : (loadVar T_api_Entry ⟨w.heap.size, 0, none⟩).run Tryz.prog w' = .ok (.agg #[.int .i64 x.mode, .string x.name, .string x.id]) w' :=
  load_agg (vs := encE x) (agg_of (by kernel_rfl)) (by kernel_rfl) fun k v hv => by rw [add_lit, Nat.zero_add]; exact boxE_cell w x hf hx hv
theorem text_spec (m : Int) (w : World) : Calls Tryz.prog F_tree_text #[.int .i64 m] w fun e w' => e = .returned (.string (modeText m)) ∧ w' = w := by
  refine vc_tree_text_ok (R := fun v w' => v = .string (modeText m) ∧ w' = w) ?_ (fun v w' h => ⟨by rw [h.1], h.2⟩)
  unfold modeText
  have no : ∀ {a b : Int}, (a == b) = false → ¬ a = b := fun h e => by rw [e] at h; simp at h
  refine ⟨fun h => ⟨by rw [if_pos (eq_of_beq h)]; rfl, rfl⟩, fun h1 => ⟨fun h => ⟨by rw [if_neg (no h1), if_pos (eq_of_beq h)]; rfl, rfl⟩, fun h2 => ⟨fun h => ⟨by rw [if_neg (no h1), if_neg (no h2), if_pos (eq_of_beq h)]; rfl, rfl⟩, fun h3 => ⟨fun h => ⟨by rw [if_neg (no h1), if_neg (no h2), if_neg (no h3), if_pos (eq_of_beq h)]; rfl, rfl⟩, fun h4 => ⟨fun h => ⟨by rw [if_neg (no h1), if_neg (no h2), if_neg (no h3), if_neg (no h4), if_pos (eq_of_beq h)]; rfl, rfl⟩, fun h5 => ⟨by rw [if_neg (no h1), if_neg (no h2), if_neg (no h3), if_neg (no h4), if_neg (no h5)], rfl⟩⟩⟩⟩⟩⟩
theorem mode_spec (s : ByteArray) (w : World) : Calls Tryz.prog F_tree_mode #[.string s] w fun e w' => e = .returned (.int .i64 (textMode s)) ∧ w' = w := by
  refine vc_tree_mode_ok (R := fun v w' => v = .int .i64 (textMode s) ∧ w' = w) ?_ (fun v w' h => ⟨by rw [h.1], h.2⟩)
  unfold textMode
  have yes : ∀ {b : ByteArray}, (s.toList == b.toList) = true → s = b := fun h => by rw [bs_eq] at h; exact of_decide_eq_true h
  have no : ∀ {b : ByteArray}, (s.toList == b.toList) = false → ¬ s = b := fun h => by rw [bs_eq] at h; exact of_decide_eq_false h
  refine ⟨fun h => ⟨by rw [if_pos (show s = s40000 from yes h)], rfl⟩, fun h1 => ?_⟩
  rw [if_neg (show ¬ s = s40000 from no h1)]
  refine ⟨fun h => ⟨by rw [if_pos (show s = s100644 from yes h)], rfl⟩, fun h2 => ?_⟩
  rw [if_neg (show ¬ s = s100644 from no h2)]
  refine ⟨fun h => ⟨by rw [if_pos (show s = s100755 from yes h)], rfl⟩, fun h3 => ?_⟩
  rw [if_neg (show ¬ s = s100755 from no h3)]
  refine ⟨fun h => ⟨by rw [if_pos (show s = s120000 from yes h)], rfl⟩, fun h4 => ?_⟩
  rw [if_neg (show ¬ s = s120000 from no h4)]
  refine ⟨fun h => ⟨by rw [if_pos (show s = s160000 from yes h)], rfl⟩, fun h5 => ?_⟩
  rw [if_neg (show ¬ s = s160000 from no h5)]
  exact ⟨rfl, rfl⟩
theorem slash0_ascii : Ascii ⟨#[47, 0]⟩ := fun j hj => by
  have : j < 2 := hj
  match j, this with
  | 0, _ => decide
  | 1, _ => decide
/-- The table and where it lies. -/
structure FoldT (w : World) : Prop where
  fold : FoldTab w
  at_ : G_unicode_asciiFold < w.heap.size
theorem FoldT.keep {w w1 : World} (h : FoldT w) {X : Nat → Prop} (hf : Fr X w w1) (hx : ¬ X G_unicode_asciiFold) : FoldT w1 := ⟨h.fold.keep hf hx, Nat.lt_of_lt_of_le h.at_ hf.size⟩
theorem name_spec (s : ByteArray) (hs : s.size ≤ 140737488355328) (w : World) (ht : FoldT w) : Calls Tryz.prog F_tree_Name #[.string s] w fun e w' => e = .returned (.bool (nameOK isGit s)) ∧ Fr (fun _ => False) w w' := by
  refine vc_tree_Name_ok (R := fun v w' => v = .bool (nameOK isGit s) ∧ Fr (fun _ => False) w w') ?_ (fun v w' h => ⟨by rw [h.1], h.2⟩)
  rw [vc_tree_Name]
  simp only [bs_eq]
  unfold nameOK
  have e1 : ∀ (p : Prop) [Decidable p], (!decide p) = decide (¬ p) := fun p _ => by simp
  simp only [e1]
  refine ⟨fun h1 => ⟨fun h2 => ⟨fun h3 => ⟨fun h4 => (equalFold_spec s hs w ht.fold ht.at_).mono ?_, fun h4 => ⟨?_, .refl _ _⟩⟩, fun h3 => ⟨?_, .refl _ _⟩⟩, fun h2 => ⟨?_, .refl _ _⟩⟩, fun h1 => ⟨?_, .refl _ _⟩⟩
  · have h2 := of_decide_eq_true h2
    rintro e w2 ⟨rfl, hf2⟩
    rw [h1, h3, h4, decide_eq_true (show s.size ≤ 100 by omega)]
    refine ⟨_, rfl, fun hg => (containsAny_spec s ⟨#[47, 0]⟩ (by omega) (by decide) (by decide) slash0_ascii w2).mono ?_, fun hg => ⟨?_, hf2⟩⟩
    · rintro e w5 ⟨rfl, hf5⟩
      rw [hg]
      exact ⟨_, rfl, rfl, hf2.trans' hf5⟩
    · rw [hg]; rfl
  · rw [h4]; simp
  · rw [h3]; simp
  · have h2 := of_decide_eq_false h2
    rw [decide_eq_false (show ¬ s.size ≤ 100 by omega)]; simp
  · rw [h1]; simp
theorem key_spec (x : Ent) (hx : x.name.size ≤ 140737488355328) (w : World) : Calls Tryz.prog F_tree_key #[.agg #[.int .i64 x.mode, .string x.name, .string x.id]] w fun e w' => e = .returned (.string (keyE x)) ∧ Fr (fun _ => False) w w' := by
  refine vc_tree_key_ok (R := fun v w' => v = .string (keyE x) ∧ Fr (fun _ => False) w w') ?_ (fun v w' h => ⟨by rw [h.1], h.2⟩)
  rintro w1 rfl
  have c : ∀ {j : Nat} {v : Value}, (encE x)[j]? = some v → (w.alloc (.cells (encE x).toArray T_api_Entry)).cell? ⟨w.heap.size, j, none⟩ = some v := fun hv => boxE_cell w x (.refl (fun _ => False) _) (by simp) hv
  refine ⟨x.mode, c (j := 0) rfl, fun h => ⟨x.name, c (j := 1) rfl, ?_, ?_, .alloc _ _ _⟩, fun h => ⟨x.name, c (j := 1) rfl, ?_, .alloc _ _ _⟩⟩
  · show x.name.size + 1 ≤ _; omega
  · unfold keyE; rw [if_pos (eq_of_beq h)]
  · unfold keyE; rw [if_neg (fun e => by rw [e] at h; simp at h)]
/-- What came in as entries. -/
structure Ents (w : World) (a : Option Addr) (n : Nat) (xs : List Ent) : Prop where
  len : xs.length = n
  reads : ReadsK encE 3 w a xs
  name : ∀ x ∈ xs, x.name.size ≤ 140737488355328
  id : ∀ x ∈ xs, x.id.size ≤ 140737488355328
theorem Ents.keep {w w1 : World} {a : Option Addr} {n : Nat} {xs : List Ent} (h : Ents w a n xs) {X : Nat → Prop} (hf : Fr X w w1) (hx : ∀ x, a = some x → ¬ X x.block) : Ents w1 a n xs := ⟨h.len, h.reads.keep hf hx, h.name, h.id⟩
theorem mupd_new {l : List (ByteArray × Value)} {k : ByteArray} (v : Value) (h : mlook l k = none) : mupd l k v = l ++ [(k, v)] := by
  induction l with
  | nil => rfl
  | cons p r ih =>
    obtain ⟨a, x⟩ := p
    rw [mlook] at h
    split at h
    · cases h
    · rename_i hne
      rw [mupd, if_neg hne, ih h]; rfl
theorem mlook_names {xs : List Ent} {k : ByteArray} : mlook (xs.map fun x => (x.name, Value.bool true)) k = (if (∃ x ∈ xs, x.name = k) then some (.bool true) else none) := by
  induction xs with
  | nil => simp [mlook]
  | cons x r ih =>
    rw [List.map_cons, mlook]
    by_cases h : x.name = k
    · rw [if_pos h, if_pos ⟨x, by simp, h⟩]
    · rw [if_neg h, ih]
      by_cases h2 : ∃ y ∈ r, y.name = k
      · obtain ⟨y, hy, hk⟩ := h2
        rw [if_pos ⟨y, hy, hk⟩, if_pos ⟨y, List.mem_cons_of_mem _ hy, hk⟩]
      · rw [if_neg h2, if_neg]
        rintro ⟨y, hy, hk⟩
        rcases List.mem_cons.1 hy with rfl | hy
        · exact h hk
        · exact h2 ⟨y, hy, hk⟩
/-- 'Check'. -/
theorem check_spec {w : World} {a : Option Addr} {n c : Nat} {xs : List Ent} (hE : Ents w a n xs) (ht : FoldT w) : Calls Tryz.prog F_tree_Check #[.slice a n c] w fun e w' => e = .returned (.int .i64 (checkE isGit xs)) ∧ Fr (fun _ => False) w w' := by
  refine vc_tree_Check_ok (R := fun v w' => v = .int .i64 (checkE isGit xs) ∧ Fr (fun _ => False) w w') ?_ (fun v w' h => ⟨by rw [h.1], h.2⟩)
  have hlen := hE.len
  refine ⟨fun h => ⟨?_, .refl _ _⟩, fun h w1 hw1 => ?_⟩
  · have h := of_decide_eq_true h
    unfold checkE
    rw [if_pos (by omega)]
  have h500 := of_decide_eq_false h
  have hl5 : xs.length ≤ 500 := by omega
  subst hw1
  refine ⟨fun i w' => ∃ k : Nat, i = k ∧ k ≤ n ∧ (∀ j, j < k → okAt isGit xs j = true) ∧ MapOf w' w.heap.size ((xs.take k).map fun x => (x.name, .bool true)) ∧ Fr (fun _ => False) w w', fun i _ => n - i.toNat, ⟨0, rfl, Nat.zero_le _, fun j hj => by omega, MapOf.new, .alloc _ _ _⟩, ?_⟩
  rintro i w5 ⟨k, rfl, hk, hok, hmap, hf⟩
  refine ⟨fun hlt => ?_, fun hge => ⟨?_, hf⟩⟩
  · have hlt := of_decide_eq_true hlt
    have hkl : k < xs.length := by omega
    have hx : xs[k]? = some xs[k] := List.getElem?_eq_getElem hkl
    generalize xs[k] = x at hx
    have hxm : x ∈ xs := List.mem_of_getElem? hx
    obtain ⟨ad, had, hload⟩ := (hE.reads.keep hf (by simp)).load elE hx
    refine ⟨⟨by omega, by omega⟩, ad, had, x.mode, x.name, x.id, by rw [Int.toNat_natCast]; exact hload, fun w10 h10 => ?_⟩
    subst h10
    refine ⟨_, boxE_run w5 x, fun w12 d12 => ?_⟩
    have hb12 : Fr (fun _ => False) (w5.alloc (.cells (encE x).toArray T_api_Entry)) w12 := .drew _ d12
    have hf12 : Fr (fun _ => False) w w12 := (hf.trans' (.alloc _ _ _)).trans' hb12
    have bad : ∀ {w' : World}, Fr (fun _ => False) w12 w' → okAt isGit xs k = false → (Value.int .i64 4 = .int .i64 (checkE isGit xs) ∧ Fr (fun _ => False) w w') := fun hw' hb => ⟨by rw [check_bad hl5 hkl hb], hf12.trans' hw'⟩
    have cell : ∀ {w' : World}, Fr (fun _ => False) w12 w' → ∀ {j : Nat} {v : Value}, (encE x)[j]? = some v → w'.cell? ⟨w5.heap.size, j, none⟩ = some v := fun {w'} hw' {j} {v} hv => boxE_cell w5 x (hb12.trans' hw') (by simp) hv
    have hmap12 : MapOf w12 w.heap.size ((xs.take k).map fun x => (x.name, .bool true)) := (hmap.keep (.alloc (fun _ => False) _ _) (by simp)).keep hb12 (by simp)
    refine ⟨fun w' => Fr (fun _ => False) w12 w', .refl _ _, x.mode, fun w' hw' => cell hw' (j := 0) rfl, (text_spec x.mode w12).mono ?_⟩
    rintro e w17 ⟨rfl, hw⟩
    replace hw := hw.symm
    subst hw
    have hoki := okAt_iff (git := isGit) hx
    have notok : ∀ {p : Prop}, (okAt isGit xs k = true → p) → ¬ p → okAt isGit xs k = false := fun h1 h2 => Bool.eq_false_iff.2 fun h => h2 (h1 h)
    refine ⟨_, rfl, .refl _ _, fun hm => ?_, fun hm => ⟨x.name, fun w' hw' => cell hw' (j := 1) rfl, (name_spec x.name (hE.name x hxm) w12 (ht.keep hf12 (by simp))).mono ?_⟩⟩
    · rw [bs_eq] at hm
      have hm := of_decide_eq_true hm
      have := bad (.refl _ w12) (notok (fun h => (hoki.1 h).1) (by unfold entOK; rw [hm]; simp))
      exact ⟨.refl _ _, .refl _ _, .refl _ _, .refl _ _, this⟩
    rintro e w22 ⟨rfl, hf22⟩
    rw [bs_eq] at hm
    have hm := of_decide_eq_false hm
    refine ⟨_, rfl, hf22, fun hn => ?_, fun hn => ⟨x.id, fun w' hw' => cell hw' (j := 2) rfl, (id_spec x.id (hE.id x hxm) w22).mono ?_⟩⟩
    · have hn : nameOK isGit x.name = false := by simpa using hn
      have := bad hf22 (notok (fun h => (hoki.1 h).1) (by unfold entOK; rw [hn]; simp))
      exact ⟨hf22, hf22, hf22, this⟩
    rintro e w27 ⟨rfl, hf27⟩
    have hn : nameOK isGit x.name = true := by simpa using hn
    have hfw : Fr (fun _ => False) w12 w27 := hf22.trans' hf27
    refine ⟨_, rfl, hfw, fun hi => ?_, fun hi => ⟨x.name, fun w' hw' => cell hw' (j := 1) rfl, decide (∃ y ∈ xs.take k, y.name = x.name), fun w' hw' => ?_, ?_⟩⟩
    · have hi : isId x.id.data.toList = false := by simpa using hi
      have := bad hfw (notok (fun h => (hoki.1 h).1) (by unfold entOK; rw [hi]; simp))
      exact ⟨hfw, hfw, this⟩
    · have := map_lookup (P := Tryz.prog) (mt := T_map_string_bool) (kt := T_string) (et := 4) (by kernel_rfl) (by kernel_rfl) (z := .bool false) (w := w') (by kernel_rfl) (hmap12.keep hw' (by simp)) x.name false
      rw [mlook_names] at this
      rw [this]
      by_cases h : ∃ y ∈ xs.take k, y.name = x.name
      · simp only [if_pos h, decide_eq_true h]; rfl
      · simp only [if_neg h, decide_eq_false h]; rfl
    have hi : isId x.id.data.toList = true := by simpa using hi
    have hent : entOK isGit x = true := by unfold entOK; rw [hn, hi, decide_eq_true hm]; rfl
    have hmap27 := hmap12.keep hfw (by simp)
    have hstore : (∀ y ∈ xs.take k, y.name ≠ x.name) → (∀ y, 0 < k → xs[k - 1]? = some y → klt y x = true) → ∀ {w' : World}, Fr (fun _ => False) w12 w' →
        ∃ w49, (Instr.mapUpdate T_map_string_bool (.map (some w.heap.size)) (.string x.name) (.bool true)).run Tryz.prog w' = .ok () w49 ∧
          (∃ k' : Nat, IntKind.i64.wrap ((k : Int) + 1) = k' ∧ k' ≤ n ∧ (∀ j, j < k' → okAt isGit xs j = true) ∧ MapOf w49 w.heap.size ((xs.take k').map fun x => (x.name, .bool true)) ∧ Fr (fun _ => False) w w49) ∧ n - (IntKind.i64.wrap ((k : Int) + 1)).toNat < n - ((k : Int)).toNat := fun hno hord {w'} hw' => by
      obtain ⟨w49, hr, hm49, hf49⟩ := map_update (P := Tryz.prog) (mt := T_map_string_bool) (kt := T_string) (et := 4) (by kernel_rfl) (by kernel_rfl) (hmap12.keep hw' (by simp)) x.name (.bool true)
      have e1 : IntKind.i64.wrap ((k : Int) + 1) = ((k + 1 : Nat) : Int) := by rw [wrap_i64 (by omega) (by omega)]; omega
      rw [e1]
      refine ⟨w49, hr, ⟨k + 1, rfl, by omega, fun j hj => ?_, ?_, (hf12.trans' hw').trans hf49 fun q hq e => by omega⟩, by omega⟩
      · by_cases hjk : j = k
        · rw [hjk, hoki]
          refine ⟨hent, fun j y hj hy => hno y (List.mem_of_getElem? (i := j) (by rw [List.getElem?_take, if_pos hj, hy])), hord⟩
        · exact hok j (by omega)
      · rw [mupd_new] at hm49
        · rw [show xs.take (k + 1) = xs.take k ++ [x] by rw [List.take_add_one, hx]; rfl, List.map_append]; exact hm49
        · rw [mlook_names, if_neg]
          rintro ⟨y, hy, he⟩; exact hno y hy he
    refine ⟨fun hd => ?_, fun hd => ⟨fun h0 => ?_, fun h0 => ?_⟩⟩
    · obtain ⟨y, hy, he⟩ := of_decide_eq_true hd
      obtain ⟨j, hj⟩ := List.mem_iff_getElem?.1 hy
      rw [List.getElem?_take] at hj
      split at hj
      · rename_i hjk
        exact ⟨hfw, hfw, bad hfw (notok (fun h => (hoki.1 h).2.1 j y hjk hj) (by simp [he]))⟩
      · cases hj
    · have hd := of_decide_eq_false hd
      have h0 := of_decide_eq_true h0
      have hk0 : 0 < k := by omega
      have e2 : IntKind.i64.wrap ((k : Int) - 1) = ((k - 1 : Nat) : Int) := by rw [wrap_i64 (by omega) (by omega)]; omega
      rw [e2]
      have hyl : k - 1 < xs.length := by omega
      have hy : xs[k - 1]? = some xs[k - 1] := List.getElem?_eq_getElem hyl
      generalize xs[k - 1] = y at hy
      have hym : y ∈ xs := List.mem_of_getElem? hy
      obtain ⟨ad2, had2, hload2⟩ := ((hE.reads.keep hf12 (by simp))).load elE hy
      refine ⟨⟨by omega, by omega⟩, ad2, had2, y.mode, y.name, y.id, fun w' hw' => ?_, x.mode, x.name, x.id, fun w' hw' => ?_, (key_spec y (hE.name y hym) w27).mono ?_⟩
      · obtain ⟨ad3, had3, hload3⟩ := ((hE.reads.keep (hf12.trans' hw') (by simp))).load elE hy
        rw [had2] at had3
        cases had3
        rw [Int.toNat_natCast]; exact hload3
      · exact boxE_load w5 x (hb12.trans' hw') (by simp)
      rintro e w43 ⟨rfl, hf43⟩
      refine ⟨_, rfl, hfw.trans' hf43, (key_spec x (hE.name x hxm) w43).mono ?_⟩
      rintro e w46 ⟨rfl, hf46⟩
      have hfw46 : Fr (fun _ => False) w12 w46 := (hfw.trans' hf43).trans' hf46
      refine ⟨_, rfl, hfw46, ?_⟩
      rw [ByteArray.toList_eq, ByteArray.toList_eq]
      refine ⟨fun hl => ?_, fun hl => ⟨x.name, cell hfw46 (j := 1) rfl, ?_⟩⟩
      · have hl : klt y x = false := by simpa [klt] using hl
        exact bad hfw46 (notok (fun h => (hoki.1 h).2.2 y hk0 hy) (by simp [hl]))
      · have hl : klt y x = true := by simpa [klt] using hl
        exact hstore (fun z hz he => hd ⟨z, hz, he⟩) (fun z _ hz => by rw [hy] at hz; cases hz; exact hl) hfw46
    · have hd := of_decide_eq_false hd
      have h0 := of_decide_eq_false h0
      exact ⟨hfw, hfw, x.name, cell hfw (j := 1) rfl, hstore (fun z hz he => hd ⟨z, hz, he⟩) (fun z hz _ => by omega) hfw⟩
  · have hge := of_decide_eq_false hge
    have : k = xs.length := by omega
    rw [check_good hl5 (fun j hj => hok j (by omega))]
end Go.Proofs.YtopjkjiobdigaaaGreatDoor

/- The program's folders: Format, Parse, Find. Conditions: the table lies as its initialiser lays it; texts are no longer than memory. -/
set_option linter.unusedVariables false
namespace Vc
open Go
theorem Fr.of_below {B : Nat} {w w' : World} (h : RowKit.Below B w w') : Fr (fun k => B ≤ k) w w' := ⟨h.os, h.tape, h.output, h.size, fun k _ hk => h.block k (by omega)⟩
/-- Outside what was there nothing was. -/
theorem Fr.old {X : Nat → Prop} {w w' : World} (h : Fr X w w') (hx : ∀ k, X k → w.heap.size ≤ k) : Fr (fun _ => False) w w' := h.mono fun k hk hxk => by have := hx k hxk; omega
theorem builder_keep {T e : TypeId} {B b : Nat} {bs : List Value} {w w' : World} (h : Lib.IsBuilder T e B b bs w) {X : Nat → Prop} (hf : Fr X w w') (hb : ¬ X b) (hx : ∀ k, B ≤ k → ¬ X k) : Lib.IsBuilder T e B b bs w' := by
  have key : ∀ p, Lib.BuilderAt T e B b p bs w → Lib.BuilderAt T e B b p bs w' := by
    rintro p ⟨h1, v, h2, ⟨h3, h4⟩, h5⟩
    refine ⟨h1, v, hf.keep h2 hb, ⟨h3, ?_⟩, h5⟩
    rcases h4 with hn | ⟨g, cap, cur, hv, hg, hh, r⟩
    · exact .inl hn
    · exact .inr ⟨g, cap, cur, hv, hg, hf.keep hh (hx g hg), r⟩
  exact h.imp (key _) (key _)
end Vc
namespace Go.Proofs.YtopjkjiobdigaaaGreatDoor
open Go Vc HexM TreeM Go.Proofs

theorem bwrite_spec (B b : Nat) (bs : List Value) (s : ByteArray) (w : World) (h : Lib.IsBuilder T_strings_Builder T_uint8 B b bs w) (hlen : bs.length + s.size ≤ 140737488355328) (hBw : B ≤ w.heap.size) :
    Calls Tryz.prog F_strings_Builder_WriteString #[.pointer (some ⟨b, 0, none⟩), .string s] w fun e w' => e = .returned (.tuple #[.int .i64 s.size, .nilIface]) ∧ Lib.IsBuilder T_strings_Builder T_uint8 B b (bs ++ Lib.strCells s) w' ∧ Fr (fun k => B ≤ k) w w' :=
  (Any.Builder_WriteString lays166 builderX166 B b bs s w h hlen hBw).mono fun e w' ⟨h1, h2, h3⟩ => ⟨h1, .inr h2, .of_below h3⟩
theorem bstring_spec (B b : Nat) (l : List UInt8) (w : World) (h : Lib.IsBuilder T_strings_Builder T_uint8 B b (Lib.byteCells l) w) (hBw : B ≤ w.heap.size) :
    Calls Tryz.prog F_strings_Builder_String #[.pointer (some ⟨b, 0, none⟩)] w fun e w' => e = .returned (.string ⟨l.toArray⟩) ∧ Fr (fun k => B ≤ k) w w' :=
  (Any.Builder_String_any lays169 builderX169 B b l w h hBw).mono fun e w' ⟨h1, h2⟩ => ⟨h1, .of_below h2⟩
theorem entB_len {x : Ent} (h : entOK isGit x = true) : (entB x).length ≤ 128 := by
  unfold entOK at h
  simp only [Bool.and_eq_true] at h
  obtain ⟨⟨_, hn⟩, hi⟩ := h
  have hm := modeText_size x.mode
  unfold nameOK at hn
  simp only [Bool.and_eq_true, decide_eq_true_eq] at hn
  have hsz := hn.1.1.1.1.2
  unfold isId at hi
  simp only [Bool.and_eq_true, beq_iff_eq] at hi
  obtain ⟨l, hl⟩ := Option.isSome_iff_exists.1 hi.1
  have := unhexL_len _ _ hl
  unfold entB
  simp only [List.length_append, bs_len, List.length_cons, List.length_nil, hl, Option.getD_some]
  omega
theorem bytesE_len : ∀ xs : List Ent, (∀ x ∈ xs, entOK isGit x = true) → (bytesE xs).length ≤ 128 * xs.length
  | [], _ => Nat.le_refl _
  | x :: r, h => by
    have h1 := entB_len (h x (by simp))
    have h2 := bytesE_len r fun y hy => h y (by simp [hy])
    unfold bytesE at h2 ⊢
    rw [List.flatMap_cons, List.length_append, List.length_cons]; omega
theorem ok_mem {xs : List Ent} (h : ∀ j, j < xs.length → okAt isGit xs j = true) : ∀ x ∈ xs, entOK isGit x = true := fun x hx => by
  obtain ⟨j, hj, rfl⟩ := List.getElem_of_mem hx
  exact ((okAt_iff (List.getElem?_eq_getElem hj)).1 (h j hj)).1
theorem bytesE_take {xs : List Ent} {k : Nat} {x : Ent} (h : xs[k]? = some x) : bytesE (xs.take (k + 1)) = bytesE (xs.take k) ++ entB x := by
  unfold bytesE
  rw [List.take_add_one, h, List.flatMap_append]
  simp
/-- 'Format'. -/
theorem format_spec {w : World} {a : Option Addr} {n c : Nat} {xs : List Ent} (hE : Ents w a n xs) (ht : FoldT w) : Calls Tryz.prog F_tree_Format #[.slice a n c] w fun e w' =>
    e = .returned (.tuple #[.string (if checkE isGit xs = 0 then ⟨(bytesE xs).toArray⟩ else ⟨#[]⟩), .int .i64 (checkE isGit xs)]) ∧ Fr (fun _ => False) w w' := by
  refine vc_tree_Format_ok (R := fun v w' => v = .tuple #[.string (if checkE isGit xs = 0 then ⟨(bytesE xs).toArray⟩ else ⟨#[]⟩), .int .i64 (checkE isGit xs)] ∧ Fr (fun _ => False) w w') ?_ (fun v w' h => ⟨by rw [h.1], h.2⟩)
  have hlen := hE.len
  refine (check_spec hE ht).mono ?_
  rintro e w2 ⟨rfl, hf2⟩
  refine ⟨_, rfl, fun h => ⟨?_, hf2⟩, fun h w4 h4 => ?_⟩
  · rw [if_neg (fun e => by rw [e] at h; simp at h)]
  have h0 : checkE isGit xs = 0 := by simpa using h
  obtain ⟨hl5, hok⟩ := check_ok h0
  have hent := ok_mem hok
  rw [h0, if_pos rfl]
  subst h4
  have hB : w2.heap.size ≤ w2.heap.size := Nat.le_refl _
  refine ⟨fun i w' => ∃ k : Nat, i = k ∧ k ≤ n ∧ Lib.IsBuilder T_strings_Builder T_uint8 w2.heap.size w2.heap.size (Lib.byteCells (bytesE (xs.take k))) w' ∧ Fr (fun _ => False) w2 w', fun i _ => n - i.toNat, ⟨0, rfl, Nat.zero_le _, Lib.fresh_isBuilder _ _ _, .alloc _ _ _⟩, ?_⟩
  rintro i w8 ⟨k, rfl, hk, hb, hf⟩
  have hlb : (bytesE (xs.take k)).length ≤ 64000 := by
    have := bytesE_len (xs.take k) fun y hy => hent y (List.mem_of_mem_take hy)
    rw [List.length_take] at this; omega
  have hbs := hb.elim (fun h => h.lt) (fun h => h.lt)
  refine ⟨fun hlt => ?_, fun hge => ?_⟩
  · have hlt := of_decide_eq_true hlt
    have hkl : k < xs.length := by omega
    have hx : xs[k]? = some xs[k] := List.getElem?_eq_getElem hkl
    generalize xs[k] = x at hx
    have hxm : x ∈ xs := List.mem_of_getElem? hx
    have hxo := hent x hxm
    obtain ⟨ad, had, hload⟩ := (hE.reads.keep (hf2.trans' hf) (by simp)).load elE hx
    refine ⟨⟨by omega, by omega⟩, ad, had, x.mode, x.name, x.id, by rw [Int.toNat_natCast]; exact hload, fun w13 h13 => ?_⟩
    subst h13
    refine ⟨_, boxE_run w8 x, x.id, boxE_cell w8 x (.refl (fun _ => False) _) (by simp) (j := 2) rfl, (unhex_spec x.id (hE.id x hxm) _).mono ?_⟩
    rintro e w17 ⟨rfl, hf17⟩
    refine ⟨_, _, rfl, fun w20 d20 => ?_⟩
    have hb20 : Fr (fun _ => False) (w8.alloc (.cells (encE x).toArray T_api_Entry)) w20 := hf17.trans' (.drew _ d20)
    refine ⟨fun w' => Fr (fun _ => False) w20 w', .refl _ _, x.mode, fun w' hw' => boxE_cell w8 x (hb20.trans' hw') (by simp) (j := 0) rfl, x.name, fun w' hw' => boxE_cell w8 x (hb20.trans' hw') (by simp) (j := 1) rfl, (text_spec x.mode w20).mono ?_⟩
    rintro e w27 ⟨rfl, hw⟩
    replace hw := hw.symm
    subst hw
    have hel := entB_len hxo
    have hbytes : (modeText x.mode ++ ⟨⟨[32]⟩⟩ ++ x.name ++ ⟨⟨[0]⟩⟩ ++ unhexS x.id).data.toList = entB x := by
      have hu : (unhexS x.id).data.toList = (unhexL x.id.data.toList).getD [] := by
        unfold unhexS; cases unhexL x.id.data.toList <;> simp
      simp only [bs_app, entB, hu]
    have hsz : (modeText x.mode ++ ⟨⟨[32]⟩⟩ ++ x.name ++ ⟨⟨[0]⟩⟩ ++ unhexS x.id).size ≤ 128 := by rw [← bs_len, hbytes]; exact hel
    have hsz' := hsz
    simp only [ByteArray.size_append] at hsz'
    have hfw8 : Fr (fun _ => False) w8 w20 := (Fr.alloc _ _ _).trans' hb20
    have hb' := builder_keep hb hfw8 (by simp) (by simp)
    have h1 : (modeText x.mode).size + 1 ≤ 9223372036854775807 := by omega
    have h2 : (modeText x.mode ++ ⟨⟨[32]⟩⟩).size + x.name.size ≤ 9223372036854775807 := by simp only [ByteArray.size_append]; omega
    have h3 : (modeText x.mode ++ ⟨⟨[32]⟩⟩ ++ x.name).size + 1 ≤ 9223372036854775807 := by
      have : ByteArray.size ⟨⟨[0]⟩⟩ = 1 := rfl
      simp only [ByteArray.size_append]; omega
    have h4 : (modeText x.mode ++ ⟨⟨[32]⟩⟩ ++ x.name ++ ⟨⟨[0]⟩⟩).size + (unhexS x.id).size ≤ 9223372036854775807 := by simp only [ByteArray.size_append]; omega
    refine ⟨_, rfl, .refl _ _, h1, h2, h3, h4, ?_⟩
    have hS : Lib.strCells (modeText x.mode ++ ⟨⟨[32]⟩⟩ ++ x.name ++ ⟨⟨[0]⟩⟩ ++ unhexS x.id) = Lib.byteCells (entB x) := by
      unfold Lib.byteCells Lib.strCells; rw [hbytes]
    generalize modeText x.mode ++ ⟨⟨[32]⟩⟩ ++ x.name ++ ⟨⟨[0]⟩⟩ ++ unhexS x.id = S at hsz hS ⊢
    refine (bwrite_spec w2.heap.size w2.heap.size _ S w20 hb' (by rw [Lib.byteCells, List.length_map]; omega) (Nat.le_trans (Nat.le_of_lt hbs) hfw8.size)).mono ?_
    rintro e w30 ⟨rfl, hb30, hf30⟩
    have e1 : IntKind.i64.wrap ((k : Int) + 1) = ((k + 1 : Nat) : Int) := by rw [wrap_i64 (by omega) (by omega)]; omega
    rw [e1]
    have hb31 : Lib.IsBuilder T_strings_Builder T_uint8 w2.heap.size w2.heap.size (Lib.byteCells (bytesE (xs.take (k + 1)))) w30 := by
      have hcells : Lib.byteCells (bytesE (xs.take k)) ++ Lib.strCells S = Lib.byteCells (bytesE (xs.take (k + 1))) := by
        rw [bytesE_take hx, hS]
        unfold Lib.byteCells
        rw [List.map_append]
      rw [← hcells]
      exact hb30
    first
      | exact ⟨_, _, rfl, ⟨k + 1, rfl, by omega, hb31, ((hf.trans' hfw8).trans hf30 (fun q hq hh => by omega))⟩, by dsimp only; omega⟩
      | exact ⟨_, (), rfl, ⟨k + 1, rfl, by omega, hb31, ((hf.trans' hfw8).trans hf30 (fun q hq hh => by omega))⟩, by dsimp only; omega⟩
  · have hge := of_decide_eq_false hge
    have : k = xs.length := by omega
    rw [this, List.take_of_length_le (Nat.le_refl _)] at hb
    refine (bstring_spec w2.heap.size w2.heap.size _ w8 hb (Nat.le_of_lt hbs)).mono ?_
    rintro e w34 ⟨rfl, hf34⟩
    exact ⟨_, rfl, rfl, (hf2.trans' hf).trans hf34 fun q hq hh => by have := hf2.size; omega⟩
/-- What 'Parse' says. -/
def parseE : Nat → ByteArray → List Ent → List Ent × Int
  | 0, _, _ => ([], 6)
  | f + 1, s, acc =>
    if s = ⟨#[]⟩ then (if checkE isGit acc = 0 then (acc, 0) else ([], checkE isGit acc))
    else if (cutS s 0).2.2 = false then ([], 6)
    else if (cutS s 0).2.1.size < 20 then ([], 6)
    else if (cutS (cutS s 0).1 32).2.2 = false then ([], 3)
    else if textMode (cutS (cutS s 0).1 32).1 = 0 then ([], 3)
    else if 500 < acc.length + 1 then ([], 2)
    else parseE f ((cutS s 0).2.1.extract 20 (cutS s 0).2.1.size) (acc ++ [⟨textMode (cutS (cutS s 0).1 32).1, (cutS (cutS s 0).1 32).2.1, ⟨(hexL ((cutS s 0).2.1.extract 0 20).data.toList).toArray⟩⟩])
theorem cut_sizes (s : ByteArray) (c : UInt8) : (cutS s c).1.size + (cutS s c).2.1.size ≤ s.size ∧ ((cutS s c).2.2 = true → (cutS s c).1.size + (cutS s c).2.1.size + 1 = s.size) := by
  unfold cutS
  rcases fnd_cases s c with ⟨h, _⟩ | ⟨i, h, hi, _⟩
  · rw [h, if_pos rfl]
    refine ⟨?_, fun h => by cases h⟩
    show s.size + 0 ≤ s.size
    omega
  · rw [h, if_neg (by omega), Int.toNat_natCast]
    simp only [ByteArray.size_extract]
    exact ⟨by omega, fun _ => by omega⟩
/-- The entries' texts are no longer than what was read. -/
def Small (m : Nat) (xs : List Ent) : Prop := ∀ x ∈ xs, x.name.size ≤ m ∧ x.id.size = 40
theorem Small.ents {m : Nat} {xs : List Ent} (h : Small m xs) (hm : m ≤ 1000000000) {w : World} {base : Nat} {l : Sl} (ho : OwnK encE 3 w base T_api_Entry l xs) : Ents w l.a l.len xs :=
  ⟨ho.1, ho.reads fun _ => rfl, fun x hx => by have := (h x hx).1; omega, fun x hx => by have := (h x hx).2; omega⟩
theorem parse_small : ∀ (f : Nat) (s : ByteArray) (acc : List Ent) (m : Nat), Small m acc → s.size ≤ m → Small m (parseE f s acc).1
  | 0, _, _, _, _, _ => fun x hx => by simp [parseE] at hx
  | f + 1, s, acc, m, h, hs => by
    have no : ∀ e : Int, Small m (([], e) : List Ent × Int).1 := fun e x hx => by simp at hx
    rw [parseE]
    split
    · split
      · exact h
      · exact no _
    · split
      · exact no _
      · split
        · exact no _
        · split
          · exact no _
          · split
            · exact no _
            · split
              · exact no _
              · rename_i h1 h2 h3 h4 h5 h6
                have g1 := (cut_sizes s 0).2 (by simpa using h2)
                have g2 := (cut_sizes (cutS s 0).1 32).2 (by simpa using h4)
                refine parse_small f _ _ m (fun x hx => ?_) (by simp only [ByteArray.size_extract]; omega)
                rcases List.mem_append.1 hx with hx | hx
                · exact h x hx
                · simp only [List.mem_cons, List.mem_nil_iff, or_false] at hx
                  subst hx
                  refine ⟨by simp only; omega, ?_⟩
                  simp only [bs_mksize, hexL_length, bs_len, ByteArray.size_extract]; omega
/-- 'Parse'. -/
theorem parse_spec (s : ByteArray) (hs : s.size ≤ 1000000) (w : World) (ht : FoldT w) : Calls Tryz.prog F_tree_Parse #[.string s] w fun e w' =>
    ∃ l, e = .returned (.tuple #[.slice l.a l.len l.cap, .int .i64 (parseE (s.size + 1) s []).2]) ∧ OwnK encE 3 w' w.heap.size T_api_Entry l (parseE (s.size + 1) s []).1 ∧ Fr (fun _ => False) w w' := by
  obtain ⟨r, hr⟩ : ∃ r, parseE (s.size + 1) s [] = r := ⟨_, rfl⟩
  rw [hr]
  refine vc_tree_Parse_ok (R := fun v w' => ∃ l, v = .tuple #[.slice l.a l.len l.cap, .int .i64 r.2] ∧ OwnK encE 3 w' w.heap.size T_api_Entry l r.1 ∧ Fr (fun _ => False) w w') ?_ (fun v w' ⟨l, h⟩ => ⟨l, by rw [h.1], h.2⟩)
  have err : ∀ {w' : World} {e : Int}, Fr (fun _ => False) w w' → r = ([], e) → ∃ l : Sl, Value.tuple #[.slice none 0 0, .int .i64 e] = .tuple #[.slice l.a l.len l.cap, .int .i64 r.2] ∧ OwnK encE 3 w' w.heap.size T_api_Entry l r.1 ∧ Fr (fun _ => False) w w' := fun {w' e} hf h =>
    ⟨⟨none, 0, 0⟩, by rw [h], by rw [h]; exact .nil _ _ _, hf⟩
  refine ⟨fun t l w' => ∃ f acc, t.size < f ∧ parseE f t acc = r ∧ t.size ≤ s.size ∧ Small s.size acc ∧ acc.length ≤ 500 ∧ OwnK encE 3 w' w.heap.size T_api_Entry l acc ∧ Fr (fun _ => False) w w', fun t _ _ => t.size, ⟨s.size + 1, [], by omega, hr, Nat.le_refl _, fun x hx => by simp at hx, Nat.zero_le _, .nil _ _ _, .refl _ _⟩, ?_⟩
  rintro t l4 w5 ⟨f, acc, hf1, hp, hts, hsm, hac, ho, hf⟩
  obtain ⟨f, rfl⟩ : ∃ g, f = g + 1 := ⟨f - 1, by omega⟩
  rw [parseE] at hp
  refine ⟨fun hne => ?_, fun he => ?_⟩
  · have hne : t ≠ ⟨#[]⟩ := by rw [bs_eq] at hne; simpa using hne
    rw [if_neg hne] at hp
    refine (cut_spec t (by omega) 0 (by decide) w5).mono ?_
    rintro e w7 ⟨rfl, d7⟩
    rw [show UInt8.ofNat 0 = 0 from rfl]
    have hf7 : Fr (fun _ => False) w w7 := hf.trans' (.drew _ d7)
    have hcs := cut_sizes t 0
    generalize cutS t 0 = cu at hp hcs
    obtain ⟨hd, rest, ok⟩ := cu
    simp only at hp hcs
    refine ⟨hd, rest, ok, rfl, fun hok => ?_, fun hok => ⟨fun hl => ?_, fun hl => ?_⟩⟩
    · have hok : ok = false := by simpa using hok
      rw [if_pos hok] at hp
      exact err hf7 hp.symm
    · have hok : ok = true := by simpa using hok
      have hl := of_decide_eq_true hl
      rw [if_neg (by rw [hok]; decide), if_pos (by omega)] at hp
      exact err hf7 hp.symm
    have hok : ok = true := by simpa using hok
    have hl := of_decide_eq_false hl
    rw [if_neg (by rw [hok]; decide), if_neg (by omega)] at hp
    have hcs2 := hcs.2 hok
    refine (cut_spec hd (by omega) 32 (by decide) w7).mono ?_
    rintro e w12 ⟨rfl, d12⟩
    rw [show UInt8.ofNat 32 = 32 from rfl]
    have hf12 : Fr (fun _ => False) w w12 := hf7.trans' (.drew _ d12)
    have hcd := cut_sizes hd 32
    generalize cutS hd 32 = cu at hp hcd
    obtain ⟨m, name, ok2⟩ := cu
    simp only at hp hcd
    refine ⟨m, name, ok2, rfl, fun hok2 => ?_, fun hok2 => (mode_spec m w12).mono ?_⟩
    · have hok2 : ok2 = false := by simpa using hok2
      rw [if_pos hok2] at hp
      exact err hf12 hp.symm
    have hok2 : ok2 = true := by simpa using hok2
    rw [if_neg (by rw [hok2]; decide)] at hp
    have hcd2 := hcd.2 hok2
    rintro e w17 ⟨rfl, hw⟩
    replace hw := hw.symm
    subst hw
    refine ⟨_, rfl, fun hm => ?_, fun hm w19 d19 => ?_⟩
    · rw [if_pos (eq_of_beq hm)] at hp
      exact err hf12 hp.symm
    have hm : ¬ textMode m = 0 := fun e => by rw [e] at hm; simp at hm
    rw [if_neg hm] at hp
    have hf19 : Fr (fun _ => False) w w19 := hf12.trans' (.drew _ d19)
    refine ⟨fun w' => True, trivial, ⟨by omega, by omega⟩, (mode_spec m w19).mono ?_⟩
    rintro e w22 ⟨rfl, hw⟩
    replace hw := hw.symm
    subst hw
    refine ⟨_, rfl, trivial, (hex_spec (rest.extract 0 20) (by simp; omega) w19).mono ?_⟩
    rintro e w25 ⟨rfl, hf25⟩
    refine ⟨_, rfl, trivial, fun w27 h27 => ⟨trivial, ?_⟩⟩
    have hfw : Fr (fun _ => False) w5 w25 := (((Fr.drew (fun _ => False) d7).trans' (.drew _ d12)).trans' (.drew _ d19)).trans' hf25
    have ho25 := ho.keep hfw (by simp)
    obtain ⟨w28, l29, hr28, ho28, hf28, _⟩ := append_oneK elE ho25 (x := ⟨textMode m, name, ⟨(hexL (rest.extract 0 20).data.toList).toArray⟩⟩) (by unfold maxLen; omega) (by omega) (Nat.le_trans hf.size hfw.size) h27
    have hfe : Fr (fun _ => False) w w28 := (hf.trans' hfw).trans hf28 fun q hq ⟨y, hy, e⟩ => by have := (ho25.blk hy).1; omega
    have hl29 := ho28.len
    rw [List.length_append, List.length_singleton] at hl29
    refine ⟨w28, l29, hr28, trivial, ⟨by decide, by omega⟩, fun hbig => ?_, fun hbig => ⟨⟨f, _, ?_, ?_, ?_, ?_, ?_, ho28, hfe⟩, ?_⟩⟩
    · have hbig := of_decide_eq_true hbig
      rw [if_pos (by omega)] at hp
      exact err hfe hp.symm
    · simp only [ByteArray.size_extract, Int.toNat]; omega
    · have hbig := of_decide_eq_false hbig
      rw [if_neg (by omega)] at hp
      exact hp
    · simp only [ByteArray.size_extract]; omega
    · intro x hx
      rcases List.mem_append.1 hx with hx | hx
      · exact hsm x hx
      · simp only [List.mem_cons, List.mem_nil_iff, or_false] at hx
        subst hx
        refine ⟨by simp only; omega, ?_⟩
        simp only [bs_mksize, hexL_length, bs_len, ByteArray.size_extract]; omega
    · have hbig := of_decide_eq_false hbig
      rw [List.length_append, List.length_singleton]; omega
    · simp only [ByteArray.size_extract, Int.toNat]; omega
  · have he : t = ⟨#[]⟩ := by rw [bs_eq] at he; simpa using he
    rw [if_pos he] at hp
    refine (check_spec (hsm.ents (by omega) ho) (ht.keep hf (by simp))).mono ?_
    rintro e w31 ⟨rfl, hf31⟩
    refine ⟨_, rfl, fun hc => ?_, fun hc => ?_⟩
    · rw [if_neg (fun e => by rw [e] at hc; simp at hc)] at hp
      exact err (hf.trans' hf31) hp.symm
    · have hc : checkE isGit acc = 0 := by simpa using hc
      rw [if_pos hc] at hp
      rw [← hp]
      exact ⟨l4, rfl, ho.keep hf31 (by simp), hf.trans' hf31⟩
/-- 'Find'. -/
def findE (xs : List Ent) (name : ByteArray) : Ent × Int := match xs.find? (fun x => decide (x.name = name)) with
  | some x => (x, 0)
  | none => (⟨0, ⟨#[]⟩, ⟨#[]⟩⟩, 7)
theorem find_take {xs : List Ent} {name : ByteArray} : ∀ {k : Nat} {x : Ent}, xs[k]? = some x → x.name = name → (∀ j y, j < k → xs[j]? = some y → y.name ≠ name) → findE xs name = (x, 0) := by
  intro k
  induction xs generalizing k with
  | nil => intro x h; simp at h
  | cons z r ih =>
    intro x h hn hno
    unfold findE
    cases k with
    | zero =>
      simp only [List.getElem?_cons_zero, Option.some.injEq] at h
      subst h
      rw [List.find?_cons_of_pos (by simp [hn])]
    | succ k =>
      have := hno 0 z (by omega) rfl
      rw [List.find?_cons_of_neg (by simp [this])]
      exact ih (by simpa using h) hn fun j y hj hy => hno (j + 1) y (by omega) (by simpa using hy)
theorem find_none {xs : List Ent} {name : ByteArray} (h : ∀ y ∈ xs, y.name ≠ name) : findE xs name = (⟨0, ⟨#[]⟩, ⟨#[]⟩⟩, 7) := by
  unfold findE
  rw [List.find?_eq_none.2 (fun y hy => by simpa using h y hy)]
theorem tfind_spec {w : World} {a : Option Addr} {n c : Nat} {xs : List Ent} (hE : Ents w a n xs) (hn : n ≤ 1000000) (name : ByteArray) : Calls Tryz.prog F_tree_Find #[.slice a n c, .string name] w fun e w' =>
    e = .returned (.tuple #[.agg #[.int .i64 (findE xs name).1.mode, .string (findE xs name).1.name, .string (findE xs name).1.id], .int .i64 (findE xs name).2]) ∧ Fr (fun _ => False) w w' := by
  refine vc_tree_Find_ok (R := fun v w' => v = .tuple #[.agg #[.int .i64 (findE xs name).1.mode, .string (findE xs name).1.name, .string (findE xs name).1.id], .int .i64 (findE xs name).2] ∧ Fr (fun _ => False) w w') ?_ (fun v w' h => ⟨by rw [h.1], h.2⟩)
  have hlen := hE.len
  intro w1 hw1
  have hblk : w1.heap[w.heap.size]? = some (.cells #[.int .i64 0, .string ⟨#[]⟩, .string ⟨#[]⟩] T_api_Entry (0, 0)) := by subst hw1; exact alloc_new _ _
  have hf1 : Fr (fun _ => False) w w1 := by subst hw1; exact .alloc _ _ _
  have hlt1 := lt_blk hblk
  clear hw1
  -- a struct stored into the result's block, and read again
  have put : ∀ {w' : World} (x : Ent), Fr (fun _ => False) w1 w' → ∃ w'', (storeVar T_api_Entry ⟨w.heap.size, 0, none⟩ (.agg #[.int .i64 x.mode, .string x.name, .string x.id])).run Tryz.prog w' = .ok () w'' ∧
      (loadVar T_api_Entry ⟨w.heap.size, 0, none⟩).run Tryz.prog w'' = .ok (.agg #[.int .i64 x.mode, .string x.name, .string x.id]) w'' ∧ Fr (fun _ => False) w w'' := fun {w'} x hf => by
    have hb' := hf.keep hblk (by simp)
    have hr := run_storeVar_row (P := Tryz.prog) w' w.heap.size T_api_Entry T_api_Entry _ #[.int .i64 x.mode, .string x.name, .string x.id] hb' (by kernel_rfl) rfl (by simp [Value.oneCell'])
    have hb'' := setRow_heap w' w.heap.size _ #[.int .i64 x.mode, .string x.name, .string x.id] T_api_Entry _ hb'
    refine ⟨_, hr, load_agg (vs := encE x) (agg_of (by kernel_rfl)) (by kernel_rfl) fun k v hv => ?_, ?_⟩
    · rw [add_lit, Nat.zero_add, cell_blk hb'']; simpa [encE] using hv
    · have : Fr (· = w.heap.size) w' (w'.setRow w.heap.size #[.int .i64 x.mode, .string x.name, .string x.id]) := ⟨rfl, rfl, rfl, by simp [World.setRow], fun q _ hq => setRow_other w' _ q _ hq⟩
      exact (hf1.trans' hf).trans this fun q hq e => by omega
  refine ⟨fun i w' => ∃ k : Nat, i = k ∧ k ≤ n ∧ (∀ j y, j < k → xs[j]? = some y → y.name ≠ name) ∧ Fr (fun _ => False) w1 w', fun i _ => n - i.toNat, ⟨0, rfl, Nat.zero_le _, fun j y hj => by omega, .refl _ _⟩, ?_⟩
  rintro i w5 ⟨k, rfl, hk, hno, hf⟩
  have e1 : IntKind.i64.wrap ((k : Int) + 1) = ((k + 1 : Nat) : Int) := by rw [wrap_i64 (by omega) (by omega)]; omega
  refine ⟨fun hlt => ?_, fun hge => ?_⟩
  · have hlt := of_decide_eq_true hlt
    have hkl : k < xs.length := by omega
    have hx : xs[k]? = some xs[k] := List.getElem?_eq_getElem hkl
    generalize xs[k] = x at hx
    obtain ⟨ad, had, hload⟩ := (hE.reads.keep (hf1.trans' hf) (by simp)).load elE hx
    refine ⟨⟨by omega, by omega⟩, ad, had, x.mode, x.name, x.id, by rw [Int.toNat_natCast]; exact hload, fun w10 h10 => ?_⟩
    subst h10
    refine ⟨_, boxE_run w5 x, x.name, boxE_cell w5 x (.refl (fun _ => False) _) (by simp) (j := 1) rfl, fun he => ?_, fun hne => ⟨⟨k + 1, e1, by omega, fun j y hj hy => ?_, hf.trans' (.alloc _ _ _)⟩, by rw [e1]; dsimp only; omega⟩⟩
    · have he : x.name = name := by rw [bs_eq] at he; exact of_decide_eq_true he
      obtain ⟨w16, hr16, hl16, hf16⟩ := put x (hf.trans' (.alloc _ _ (.cells (encE x).toArray T_api_Entry)))
      exact ⟨x.mode, x.name, x.id, boxE_load w5 x (.refl (fun _ => False) _) (by simp), w16, hr16, x.mode, x.name, x.id, hl16, by rw [find_take hx he hno], hf16⟩
    · by_cases hjk : j = k
      · subst hjk
        rw [hx] at hy; cases hy
        rw [bs_eq] at hne; exact of_decide_eq_false hne
      · exact hno j y (by omega) hy
  · have hge := of_decide_eq_false hge
    obtain ⟨w20, hr20, hl20, hf20⟩ := put ⟨0, ⟨#[]⟩, ⟨#[]⟩⟩ hf
    refine ⟨w20, hr20, 0, ⟨#[]⟩, ⟨#[]⟩, hl20, ?_, hf20⟩
    rw [find_none fun y hy => ?_]
    obtain ⟨j, hj⟩ := List.mem_iff_getElem?.1 hy
    exact hno j y (by have := (List.getElem?_eq_some_iff.1 hj).1; omega) hj
end Go.Proofs.YtopjkjiobdigaaaGreatDoor

/- Formulas of 1 Go functions of this seat (written by a program of the author's, vcgen.py), and that each is enough for the call. No condition. -/
set_option linter.unusedVariables false
namespace Go.Proofs.YtopjkjiobdigaaaGreatDoor
open Go Vc Go.Proofs
set_option maxRecDepth 100000
/-- cartularyref08.Find -/
def vc_cartularyref08_Find (x0 : ByteArray) (x1 : Int) (w : World) (R : Value → World → Prop) : Prop :=
  ∃ I1 : Int → World → Prop, ∃ I2 : Int → World → Nat, (I1 0 w ∧
   ∀ n3 : Int,
   ∀ w4 : World,
   (I1 n3 w4 →
     (((decide (n3 < (↑(ByteArray.size x0) : Int)) = true →
        ((0 ≤ n3 ∧
          n3 < (↑(ByteArray.size x0) : Int)) ∧
         ((((byteAt x0 n3 == x1) = true →
            R (Value.int IntKind.i64 n3) w4)) ∧
          ((byteAt x0 n3 == x1) = false →
            (I1 (IntKind.wrap IntKind.i64 (n3 + 1)) w4 ∧
             I2 (IntKind.wrap IntKind.i64 (n3 + 1)) w4 < I2 n3 w4)))))) ∧
      (decide (n3 < (↑(ByteArray.size x0) : Int)) = false →
        R (Value.int IntKind.i64 (-1)) w4))))
theorem vc_cartularyref08_Find_ok {x0 : ByteArray} {x1 : Int} {w : World} {R : Value → World → Prop} {R' : Ending → World → Prop} (h : vc_cartularyref08_Find x0 x1 w R) (hR : ∀ v w', R v w' → R' (.returned v) w') :
    Calls Tryz.prog 49 #[.string x0, .int .u8 x1] w R' :=
  calls_of_body (vs := [(.string x0, false), (.int .u8 x1, false)]) (ty := ty) (ann := ⟨[], [(2, [(5, .int .i64)])], [], []⟩) (c := Tryz.f49.body.getD .skip) (by kernel_rfl) Tryz.func49 (by kernel_rfl) (by kernel_rfl) (Eq.mp (by kernel_rfl) h) hR
end Go.Proofs.YtopjkjiobdigaaaGreatDoor

/- The reference's Find. Conditions: as named. -/
set_option linter.unusedVariables false
namespace Go.Proofs.YtopjkjiobdigaaaGreatDoor
open Go Vc Go.Proofs

theorem find_spec (s : ByteArray) (hs : s.size ≤ 140737488355328) (c : Nat) (hc : c < 256) (w : World) : Calls Tryz.prog F_cartularyref08_Find #[.string s, .int .u8 (c : Int)] w fun e w' => e = .returned (.int .i64 (Lib.indexByte s.data.toList (UInt8.ofNat c))) ∧ w' = w := by
  refine vc_cartularyref08_Find_ok (R := fun v w' => v = .int .i64 (Lib.indexByte s.data.toList (UInt8.ofNat c)) ∧ w' = w) ?_ (fun v w' h => ⟨by rw [h.1], h.2⟩)
  refine ⟨fun n w' => w' = w ∧ ∃ k : Nat, n = k ∧ k ≤ s.size ∧ ∀ j, j < k → byt s j ≠ (UInt8.ofNat c).toNat, fun n _ => s.size - n.toNat, ⟨rfl, 0, rfl, Nat.zero_le _, fun j hj => by omega⟩, ?_⟩
  rintro n w4 ⟨hw, k, rfl, hk, hall⟩
  replace hw := hw.symm
  subst hw
  have e1 : IntKind.i64.wrap ((k : Int) + 1) = ((k + 1 : Nat) : Int) := by rw [wrap_i64 (by omega) (by omega)]; omega
  rw [e1]
  refine ⟨fun hlt => ?_, fun hge => ?_⟩
  · have hlt := of_decide_eq_true hlt
    rw [byteAt_nat]
    refine ⟨⟨by omega, by omega⟩, fun he => ⟨?_, rfl⟩, fun hne => ⟨⟨rfl, k + 1, rfl, by omega, fun j hj => ?_⟩, by dsimp only; omega⟩⟩
    · have he := eq_of_beq he
      rw [fnd_at (i := k) (by omega) (by rw [toNat_of c hc]; omega) hall]
    · by_cases hjk : j = k
      · subst hjk
        rw [toNat_of c hc]
        intro e; rw [e] at hne; simp at hne
      · exact hall j (by omega)
  · have hge := of_decide_eq_false hge
    have : k = s.size := by omega
    subst this
    exact ⟨by rw [fnd_no hall], rfl⟩
end Go.Proofs.YtopjkjiobdigaaaGreatDoor

/- Slices of the call's own whose row may bear the run-time's mark behind its last cell, as that of a text's bytes. No condition: for all programs. -/
set_option linter.unusedVariables false
namespace Vc
open Go

/-- As 'Own', but the row may bear the mark behind its cells. -/
def OwnZ (w : World) (base : Nat) (e : TypeId) (l : Sl) (xs : List Value) : Prop :=
  xs.length = l.len ∧ ((l.a = none ∧ l.len = 0 ∧ l.cap = 0) ∨
    ∃ g cur fz, l.a = some ⟨g, 0, none⟩ ∧ base ≤ g ∧ w.heap[g]? = some (.cells cur e fz) ∧ (cur.size ≤ fz.1 ∨ fz.2 = 0) ∧ l.len ≤ l.cap ∧ l.cap ≤ maxLen ∧ cur.size = l.cap ∧ cur.toList.take l.len = xs)
section
variable {w w1 : World} {base : Nat} {e : TypeId} {l : Sl} {xs : List Value}
theorem OwnZ.of (h : Own w base e l xs) : OwnZ w base e l xs := by
  refine ⟨h.1, ?_⟩
  rcases h.2 with hn | ⟨g, cur, ha, hb, hg, hl, hm, hs, ht⟩
  · exact .inl hn
  · exact .inr ⟨g, cur, (0, 0), ha, hb, hg, .inr rfl, hl, hm, hs, ht⟩
theorem OwnZ.len (h : OwnZ w base e l xs) : l.len = xs.length := h.1.symm
theorem OwnZ.blk (h : OwnZ w base e l xs) {x : Addr} (hx : l.a = some x) : base ≤ x.block ∧ x.block < w.heap.size := by
  rcases h.2 with ⟨ha, _⟩ | ⟨g, cur, fz, ha, hb, hg, _⟩
  · rw [ha] at hx; cases hx
  · rw [ha] at hx; cases hx; exact ⟨hb, lt_blk hg⟩
theorem OwnZ.keep (h : OwnZ w base e l xs) {X : Nat → Prop} (hf : Fr X w w1) (hx : ∀ x, l.a = some x → ¬ X x.block) : OwnZ w1 base e l xs := by
  refine ⟨h.1, ?_⟩
  rcases h.2 with hn | ⟨g, cur, fz, ha, hb, hg, r⟩
  · exact .inl hn
  · exact .inr ⟨g, cur, fz, ha, hb, hf.keep hg (hx _ ha), r⟩
theorem OwnZ.cap (h : OwnZ w base e l xs) : l.len ≤ l.cap := by
  rcases h.2 with ⟨_, h2, h3⟩ | ⟨_, _, _, _, _, _, _, hl, _⟩
  · omega
  · exact hl
theorem OwnZ.reads (h : OwnZ w base e l xs) : Reads w l.a xs := fun i v hv => by
  rcases h.2 with ⟨_, h2, _⟩ | ⟨g, cur, fz, ha, hb, hg, hz, hl, hm, hs, ht⟩
  · have h1 := h.1
    rw [h2] at h1
    rw [List.length_eq_zero_iff.1 h1] at hv; simp at hv
  · refine ⟨_, ha, ?_⟩
    rw [add_lit, cell_blk hg, Nat.zero_add]
    rw [← ht, List.getElem?_take] at hv
    split at hv
    · simpa using hv
    · cases hv
theorem OwnZ.nil (w : World) (base : Nat) (e : TypeId) : OwnZ w base e ⟨none, 0, 0⟩ [] := ⟨rfl, .inl ⟨rfl, rfl, rfl⟩⟩
theorem frozen_z {b : Nat} {cs : Array Value} {t : TypeId} {fz : Nat × Nat} (h : w.heap[b]? = some (.cells cs t fz)) (hz : cs.size ≤ fz.1 ∨ fz.2 = 0) {i : Nat} (hi : i < cs.size) : w.frozen? ⟨b, i, none⟩ = false := by
  obtain ⟨lo, hi'⟩ := fz
  simp only [World.frozen?, h]
  rcases hz with hz | hz
  · have : ¬ lo ≤ i := by simp only at hz; omega
    simp [this]
  · simp only at hz; simp [hz]
/-- One element set. -/
theorem OwnZ.set (h : OwnZ w base e l xs) {i : Nat} (hi : i < xs.length) :
    ∃ x, l.a = some x ∧ w.cell? (x.add i) = some xs[i] ∧ Wr w (x.add i) ∧ ∀ v, OwnZ (w.setCell (x.add i) v) base e l (xs.set i v) ∧ Fr (At l) w (w.setCell (x.add i) v) := by
  obtain ⟨x, hx, hc⟩ := h.reads.at hi
  rcases h.2 with ⟨_, h2, _⟩ | ⟨g, cur, fz, ha, hb, hg, hz, hl, hm, hs, ht⟩
  · have := h.1; omega
  · rw [ha] at hx; cases hx
    have hil : i < cur.size := by have := h.1; omega
    refine ⟨_, ha, hc, ⟨⟨_, hc⟩, by rw [add_lit, Nat.zero_add]; exact frozen_z hg hz hil⟩, fun v => ⟨⟨by simpa using h.1, .inr ⟨g, cur.setIfInBounds i v, fz, ha, hb, ?_, by simpa using hz, hl, hm, by simpa using hs, ?_⟩⟩, .set _ _ _ ⟨_, ha, add_block _ _⟩⟩⟩
    · rw [add_lit, Nat.zero_add]; exact set_blk hg i v
    · rw [Array.toList_setIfInBounds, List.take_set, ht]
end
theorem setCells_blk (g : Nat) (e : TypeId) (fz : Nat × Nat) : ∀ (vs : List Value) (o : Nat) (cur : Array Value) (w : World), w.heap[g]? = some (.cells cur e fz) → o + vs.length ≤ cur.size →
    ∃ cur', (w.setCells g o vs).heap[g]? = some (.cells cur' e fz) ∧ cur'.size = cur.size ∧ cur'.toList.take (o + vs.length) = cur.toList.take o ++ vs
  | [], o, cur, w, h, hl => ⟨cur, h, rfl, by simp⟩
  | v :: r, o, cur, w, h, hl => by
    have h1 := set_blk h o v
    simp only [List.length_cons] at hl
    obtain ⟨cur', h2, h3, h4⟩ := setCells_blk g e fz r (o + 1) (cur.setIfInBounds o v) (w.setCell ⟨g, o, none⟩ v) h1 (by rw [Array.size_setIfInBounds]; omega)
    refine ⟨cur', h2, by simpa using h3, ?_⟩
    rw [List.length_cons, show o + (r.length + 1) = o + 1 + r.length by omega, h4, Array.toList_setIfInBounds, List.take_set]
    have ho : o < cur.toList.length := by simp; omega
    rw [List.take_succ_eq_append_getElem ho, List.set_append_right _ _ (by rw [List.length_take]; omega)]
    have : o - (cur.toList.take o).length = 0 := by rw [List.length_take]; omega
    rw [this]; simp
theorem setCells_fr (g : Nat) : ∀ (vs : List Value) (o : Nat) (w : World), Fr (· = g) w (w.setCells g o vs)
  | [], o, w => .refl _ _
  | v :: r, o, w => (Fr.set (· = g) w (a := ⟨g, o, none⟩) v rfl).trans' (setCells_fr g r (o + 1) _)
section
variable {P : Program} {t e : TypeId} {z : Value} {bytes : Nat} {w : World} {base : Nat} {l : Sl} {xs : List Value}
theorem append_z (el : El P t e z bytes) (h : OwnZ w base e l xs) (x : Addr) (c : Nat) (news : List Value) (hn : ∀ j u, news[j]? = some u → w.cell? (x.add j) = some u) (h1 : ∀ u ∈ news, u.oneCell' = true)
    (hm : xs.length + news.length ≤ maxLen) (hb : (xs.length + news.length) * bytes ≤ 140737488355328) (hbase : base ≤ w.heap.size) :
    ∃ w' l', (Builtin.append_ #[t, t] t #[.slice l.a l.len l.cap, .slice (some x) news.length c]).run P w = .ok (.slice l'.a l'.len l'.cap) w' ∧ OwnZ w' base e l' (xs ++ news) ∧ Fr (At l) w w' ∧ Since w l l' := by
  obtain ⟨i, hi, hi2⟩ := Option.map_eq_some_iff.1 el.info
  simp only [Prod.mk.injEq] at hi2
  obtain ⟨hz, hs1, hby⟩ := hi2
  have hlen := h.1
  rcases h.2 with ⟨ha, hl0, hc0⟩ | ⟨g, cur, fz, ha, hbg, hg, hzz, hl, hmx, hs, ht⟩
  · have hx : xs = [] := List.eq_nil_of_length_eq_zero (by omega)
    have ho : Own w base e l xs := ⟨hlen, .inl ⟨ha, hl0, hc0⟩⟩
    obtain ⟨w', l', hr, o', f'⟩ := append_run el ho x c news hn h1 hm hb hbase
    exact ⟨w', l', hr, .of o', f', since_run el ho x c news hn h1 hm hb hr⟩
  · have hml : maxLen ≤ 9223372036854775807 := by decide
    by_cases hroom : l.len + news.length ≤ l.cap
    · have hf := run_firstCells_some (P := P) w i.size news.length x news.length c news (by rw [hs1]; omega) hn
      have hst := run_storeCells_cells (P := P) g l.len news 0 w (fun j hj => by rw [Nat.add_zero, cell_blk hg]; simp; omega) (fun j hj => by rw [Nat.add_zero]; exact frozen_z hg hzz (by omega)) h1
      rw [Nat.add_zero] at hst
      obtain ⟨cur', k1, k2, k3⟩ := setCells_blk g e fz news l.len cur w hg (by omega)
      refine ⟨w.setCells g l.len news, ⟨l.a, l.len + news.length, l.cap⟩, ?_, ⟨by simp only [List.length_append]; omega, .inr ⟨g, cur', fz, ha, hbg, k1, by rw [k2]; exact hzz, hroom, hmx, by rw [k2]; exact hs, by simp only; rw [k3, ht]⟩⟩,
        (setCells_fr g news l.len w).mono fun k _ hk => ⟨_, ha, hk⟩, fun y hy => .inl ⟨y, hy, rfl⟩⟩
      rw [ha]
      rw [hs1] at hf
      simp [Builtin.append_, run_underlying el.sl, Go.sizeOf, typeInfo, hi, hs1, Builtin.lenOf, hroom, hf, Addr.add_lit, hst]
    · have holds : ∀ j u, xs[j]? = some u → w.cell? ((⟨g, 0, none⟩ : Addr).add j) = some u := fun j u hu => by
        obtain ⟨q, hq, hc⟩ := h.reads j u hu
        rw [ha] at hq; cases hq; exact hc
      have hr := run_append_grow (P := P) w t t e i z el.sl hi hz ⟨g, 0, none⟩ l.len l.cap xs (by rw [hs1]; omega) holds x news.length c news (by rw [hs1]; omega) hn (by omega) (by omega) (growslice_fits (by omega) (by rw [hby, ← hlen]; exact hb))
      have hge := grownCap_ge w (l.len + news.length) l.cap e
      have hcm2 : grownCap w (l.len + news.length) l.cap e ≤ maxLen := grownCap_le_maxLen w (l.len + news.length) l.cap e (by omega)
      rw [← ha] at hr
      refine ⟨_, ⟨some ⟨w.heap.size, 0, none⟩, l.len + news.length, grownCap w (l.len + news.length) l.cap e⟩, hr, ⟨by simp only [List.length_append]; omega, .inr ⟨w.heap.size, _, (0, 0), rfl, hbase, heap_alloc_new w.drew _, .inr rfl, hge, hcm2, ?_, ?_⟩⟩, ⟨rfl, rfl, rfl, by simp, fun k hk _ => alloc_old w.drew _ hk⟩, fun y hy => by cases hy; exact .inr (Nat.le_refl _)⟩
      · have := el.one
        simp only [Array.size_append, List.size_toArray, size_zeroCells, this, Nat.mul_one]
        omega
      · simp only [Array.toList_append, List.append_assoc]
        rw [← List.append_assoc]
        have : l.len + news.length = (xs ++ news).length := by rw [List.length_append]; omega
        rw [this]; exact List.take_left
theorem append_one_z (el : El P t e z bytes) (h : OwnZ w base e l xs) {v : Value} (hv : v.oneCell' = true)
    (hm : xs.length + 1 ≤ maxLen) (hb : (xs.length + 1) * bytes ≤ 140737488355328) (hbase : base ≤ w.heap.size) {w2 : World} (hw2 : w2 = w.alloc (.cells #[v] e)) :
    ∃ w' l', (Builtin.append_ #[t, t] t #[.slice l.a l.len l.cap, .slice (some ⟨w.heap.size, 0, none⟩) 1 1]).run P w2 = .ok (.slice l'.a l'.len l'.cap) w' ∧ OwnZ w' base e l' (xs ++ [v]) ∧
      Fr (At l) w w' ∧ Since w l l' := by
  subst hw2
  have h2 : OwnZ (w.alloc (.cells #[v] e)) base e l xs := h.keep (.alloc (fun _ => False) _ _) (by simp)
  obtain ⟨w', l', hr, ho, hf, hs⟩ := append_z el h2 ⟨w.heap.size, 0, none⟩ 1 [v] (fun j u hu => by
      cases j with
      | zero => simp at hu; subst hu; rw [add_lit, cell_blk (alloc_new w _)]; rfl
      | succ j => simp at hu) (by simpa using hv) (by simpa using hm) (by simpa using hb) (by simp; omega)
  refine ⟨w', l', hr, ho, (Fr.alloc _ _ _).trans' hf, fun y hy => ?_⟩
  rcases hs y hy with hx | hn
  · exact .inl hx
  · simp only [World.alloc, Array.size_push] at hn
    exact .inr (by omega)
theorem append_all_z (el : El P t e z bytes) (h : OwnZ w base e l xs) {src : Option Addr} (c : Nat) {news : List Value} (hr : Reads w src news) (h1 : ∀ u ∈ news, u.oneCell' = true)
    (hm : xs.length + news.length ≤ maxLen) (hb : (xs.length + news.length) * bytes ≤ 140737488355328) (hbase : base ≤ w.heap.size) {m : Nat} (hlen : news.length = m) :
    ∃ w' l', (Builtin.append_ #[t, t] t #[.slice l.a l.len l.cap, .slice src m c]).run P w = .ok (.slice l'.a l'.len l'.cap) w' ∧ OwnZ w' base e l' (xs ++ news) ∧
      Fr (At l) w w' ∧ Since w l l' := by
  subst hlen
  cases src with
  | some x => exact append_z el h x c news (fun j u hu => by obtain ⟨y, hy, hc⟩ := hr j u hu; cases hy; exact hc) h1 hm hb hbase
  | none =>
    have hn : news = [] := by
      cases news with
      | nil => rfl
      | cons v r => obtain ⟨y, hy, _⟩ := hr 0 v rfl; cases hy
    subst hn
    refine ⟨w, l, ?_, by simpa using h, .refl _ _, .refl _ _⟩
    obtain ⟨i, hi, hi2⟩ := Option.map_eq_some_iff.1 el.info
    have hcap := h.cap
    cases ha : l.a <;> simp [Builtin.append_, run_underlying el.sl, Go.sizeOf, typeInfo, hi, Builtin.lenOf, Builtin.firstCells, hcap, storeCells]
/-- '[]byte(s)'. -/
theorem bytes_of {src dst : TypeId} (hs : P.underlying src = some .string) (hd : P.underlying dst = some (.slice e)) (he : P.underlying e = some (.int .u8)) (s : ByteArray) (hl : s.size ≤ maxLen) (w : World) :
    ∃ w' l', (convert src dst (.string s)).run P w = .ok (.slice l'.a l'.len l'.cap) w' ∧ OwnZ w' w.heap.size e l' (byteV s.data.toList) ∧ Fr (fun _ => False) w w' := by
  have hr := run_bytes_of_string (P := P) w src dst e s hs hd he
  have hge := grownCap_ge w s.size 0 e
  have hcm2 : grownCap w s.size 0 e ≤ maxLen := grownCap_le_maxLen w s.size 0 e hl
  refine ⟨_, ⟨some ⟨w.heap.size, 0, none⟩, s.size, grownCap w s.size 0 e⟩, hr, ⟨by simp, .inr ⟨w.heap.size, _, _, rfl, Nat.le_refl _, heap_alloc_new w.drew _, .inl (Nat.le_refl _), hge, hcm2, ?_, ?_⟩⟩, ⟨rfl, rfl, rfl, by simp, fun k hk _ => alloc_old w.drew _ hk⟩⟩
  · have : s.data.size = s.size := rfl
    simp only [bytesRow, Array.size_append, Array.size_map, Array.size_replicate, this]; omega
  · have : s.size = (byteV s.data.toList).length := by simp
    simp only [bytesRow, Array.toList_append, Array.toList_map]
    rw [this]; exact List.take_left
end
end Vc

/- Formulas of 6 Go functions of this seat (written by a program of the author's, vcgen.py), and that each is enough for the call. No condition. -/
set_option linter.unusedVariables false
namespace Go.Proofs.YtopjkjiobdigaaaGreatDoor
open Go Vc Go.Proofs
set_option maxRecDepth 100000
/-- cartularyref14.Modes -/
def vc_cartularyref14_Modes (w : World) (R : Value → World → Prop) : Prop :=
  ∀ w1 : World,
  (w1 = World.alloc w (Obj.cells (Array.mk [Value.int IntKind.i64 16384, Value.int IntKind.i64 33188, Value.int IntKind.i64 33261, Value.int IntKind.i64 40960, Value.int IntKind.i64 57344]) 3) →
    ∀ w2 : World,
    (w2 = World.alloc w1 (Obj.cells (Array.mk [Value.string (ByteArray.mk (Array.mk [52, 48, 48, 48, 48])), Value.string (ByteArray.mk (Array.mk [49, 48, 48, 54, 52, 52])), Value.string (ByteArray.mk (Array.mk [49, 48, 48, 55, 53, 53])), Value.string (ByteArray.mk (Array.mk [49, 50, 48, 48, 48, 48])), Value.string (ByteArray.mk (Array.mk [49, 54, 48, 48, 48, 48]))]) 9) →
      R (Value.tuple (Array.mk [Value.slice (some (Addr.mk (Array.size (World.heap w)) 0 none)) 5 5, Value.slice (some (Addr.mk (Array.size (World.heap w1)) 0 none)) 5 5])) w2))
theorem vc_cartularyref14_Modes_ok {w : World} {R : Value → World → Prop} {R' : Ending → World → Prop} (h : vc_cartularyref14_Modes w R) (hR : ∀ v w', R v w' → R' (.returned v) w') :
    Calls Tryz.prog 48 #[] w R' :=
  calls_of_body (vs := []) (ty := ty) (ann := ⟨[], [], [], []⟩) (c := Tryz.f48.body.getD .skip) (by kernel_rfl) Tryz.func48 (by kernel_rfl) (by kernel_rfl) (Eq.mp (by kernel_rfl) h) hR
/-- cartularyref14.mode -/
def vc_cartularyref14_mode (x0 : Int) (w : World) (R : Value → World → Prop) : Prop :=
  Calls Tryz.prog (48 : Nat) (Array.mk []) (w) (fun e1 w2 =>
    ∃ l3 : Sl, ∃ l4 : Sl, (e1 = Ending.returned (Value.tuple (Array.mk [Value.slice l3.1 l3.2 l3.3, Value.slice l4.1 l4.2 l4.3])) ∧
     ∃ I5 : Int → World → Prop, ∃ I6 : Int → World → Nat, (I5 0 w2 ∧
      ∀ n7 : Int,
      ∀ w8 : World,
      (I5 n7 w8 →
        (((decide (n7 < (↑l3.2 : Int)) = true →
           ((0 ≤ n7 ∧
             n7 < (↑l3.2 : Int)) ∧
            ∃ a9 : Addr, (l3.1 = some a9 ∧
             ∃ n10 : Int, (World.cell? w8 (Addr.add a9 (Int.toNat n7 * 1)) = some (Value.int IntKind.i64 n10) ∧
              ((((n10 == x0) = true →
                 ((0 ≤ n7 ∧
                   n7 < (↑l4.2 : Int)) ∧
                  ∃ a11 : Addr, (l4.1 = some a11 ∧
                   ∃ s12 : ByteArray, (World.cell? w8 (Addr.add a11 (Int.toNat n7 * 1)) = some (Value.string s12) ∧
                    R (Value.string s12) w8))))) ∧
               ((n10 == x0) = false →
                 (I5 (IntKind.wrap IntKind.i64 (n7 + 1)) w8 ∧
                  I6 (IntKind.wrap IntKind.i64 (n7 + 1)) w8 < I6 n7 w8)))))))) ∧
         (decide (n7 < (↑l3.2 : Int)) = false →
           R (Value.string (ByteArray.mk (Array.mk []))) w8))))))
theorem vc_cartularyref14_mode_ok {x0 : Int} {w : World} {R : Value → World → Prop} {R' : Ending → World → Prop} (h : vc_cartularyref14_mode x0 w R) (hR : ∀ v w', R v w' → R' (.returned v) w') :
    Calls Tryz.prog 20 #[.int .i64 x0] w R' :=
  calls_of_body (vs := [(.int .i64 x0, false)]) (ty := ty) (ann := ⟨[], [(3, [(13, .int .i64)])], [], []⟩) (c := Tryz.f20.body.getD .skip) (by kernel_rfl) Tryz.func20 (by kernel_rfl) (by kernel_rfl) (Eq.mp (by kernel_rfl) h) hR
/-- cartularyref14.Name -/
def vc_cartularyref14_Name (x0 : ByteArray) (w : World) (R : Value → World → Prop) : Prop :=
  (((decide ((↑(ByteArray.size x0) : Int) < 1) = true →
     R (Value.bool false) w)) ∧
   (decide ((↑(ByteArray.size x0) : Int) < 1) = false →
     (((decide ((↑(ByteArray.size x0) : Int) > 100) = true →
        R (Value.bool false) w)) ∧
      (decide ((↑(ByteArray.size x0) : Int) > 100) = false →
        ((((ByteArray.toList x0 == ByteArray.toList (ByteArray.mk (Array.mk [46]))) = true →
           R (Value.bool false) w)) ∧
         ((ByteArray.toList x0 == ByteArray.toList (ByteArray.mk (Array.mk [46]))) = false →
           ((((ByteArray.toList x0 == ByteArray.toList (ByteArray.mk (Array.mk [46, 46]))) = true →
              R (Value.bool false) w)) ∧
            ((ByteArray.toList x0 == ByteArray.toList (ByteArray.mk (Array.mk [46, 46]))) = false →
              Calls Tryz.prog (49 : Nat) (Array.mk [Value.string x0, Value.int IntKind.u8 47]) (w) (fun e1 w2 =>
                ∃ n3 : Int, (e1 = Ending.returned (Value.int IntKind.i64 n3) ∧
                 (((decide (n3 ≥ 0) = true →
                    R (Value.bool false) w2)) ∧
                  (decide (n3 ≥ 0) = false →
                    Calls Tryz.prog (49 : Nat) (Array.mk [Value.string x0, Value.int IntKind.u8 0]) (w2) (fun e4 w5 =>
                      ∃ n6 : Int, (e4 = Ending.returned (Value.int IntKind.i64 n6) ∧
                       (((decide (n6 ≥ 0) = true →
                          R (Value.bool false) w5)) ∧
                        (decide (n6 ≥ 0) = false →
                          ∀ w7 : World,
                          (w7 = World.alloc w5 (Obj.cells (Array.mk []) 5) →
                            ∃ I8 : Sl → Int → World → Prop, ∃ I9 : Sl → Int → World → Nat, (I8 (Sl.mk (some (Addr.mk (Array.size (World.heap w5)) 0 none)) 0 0) 0 w7 ∧
                             ∀ l10 : Sl,
                             ∀ n11 : Int,
                             ∀ w12 : World,
                             (I8 l10 n11 w12 →
                               (((decide (n11 < (↑(ByteArray.size x0) : Int)) = true →
                                  ((0 ≤ n11 ∧
                                    n11 < (↑(ByteArray.size x0) : Int)) ∧
                                   (((decide (byteAt x0 n11 ≥ 65) = true →
                                      (((decide (byteAt x0 n11 ≤ 90) = true →
                                         ∀ w13 : World,
                                         (w13 = World.alloc w12 (Obj.cells (Array.mk [Value.int IntKind.u8 (IntKind.wrap IntKind.u8 (byteAt x0 n11 + 32))]) 5) →
                                           ∃ w14 : World, ∃ l15 : Sl, (Sem.run Tryz.prog (Builtin.append_ (Array.mk [53, 53]) 53 (Array.mk [Value.slice l10.1 l10.2 l10.3, Value.slice (some (Addr.mk (Array.size (World.heap w12)) 0 none)) 1 1])) w13 = Result.ok (Value.slice l15.1 l15.2 l15.3) w14 ∧
                                            (I8 (Sl.mk l15.1 l15.2 l15.3) (IntKind.wrap IntKind.i64 (n11 + 1)) w14 ∧
                                             I9 (Sl.mk l15.1 l15.2 l15.3) (IntKind.wrap IntKind.i64 (n11 + 1)) w14 < I9 l10 n11 w12))))) ∧
                                       (decide (byteAt x0 n11 ≤ 90) = false →
                                         ∀ w16 : World,
                                         (w16 = World.alloc w12 (Obj.cells (Array.mk [Value.int IntKind.u8 (byteAt x0 n11)]) 5) →
                                           ∃ w17 : World, ∃ l18 : Sl, (Sem.run Tryz.prog (Builtin.append_ (Array.mk [53, 53]) 53 (Array.mk [Value.slice l10.1 l10.2 l10.3, Value.slice (some (Addr.mk (Array.size (World.heap w12)) 0 none)) 1 1])) w16 = Result.ok (Value.slice l18.1 l18.2 l18.3) w17 ∧
                                            (I8 (Sl.mk l18.1 l18.2 l18.3) (IntKind.wrap IntKind.i64 (n11 + 1)) w17 ∧
                                             I9 (Sl.mk l18.1 l18.2 l18.3) (IntKind.wrap IntKind.i64 (n11 + 1)) w17 < I9 l10 n11 w12))))))) ∧
                                    (decide (byteAt x0 n11 ≥ 65) = false →
                                      ∀ w19 : World,
                                      (w19 = World.alloc w12 (Obj.cells (Array.mk [Value.int IntKind.u8 (byteAt x0 n11)]) 5) →
                                        ∃ w20 : World, ∃ l21 : Sl, (Sem.run Tryz.prog (Builtin.append_ (Array.mk [53, 53]) 53 (Array.mk [Value.slice l10.1 l10.2 l10.3, Value.slice (some (Addr.mk (Array.size (World.heap w12)) 0 none)) 1 1])) w19 = Result.ok (Value.slice l21.1 l21.2 l21.3) w20 ∧
                                         (I8 (Sl.mk l21.1 l21.2 l21.3) (IntKind.wrap IntKind.i64 (n11 + 1)) w20 ∧
                                          I9 (Sl.mk l21.1 l21.2 l21.3) (IntKind.wrap IntKind.i64 (n11 + 1)) w20 < I9 l10 n11 w12)))))))) ∧
                                (decide (n11 < (↑(ByteArray.size x0) : Int)) = false →
                                  ∃ w22 : World, ∃ s23 : ByteArray, (Sem.run Tryz.prog (convert 53 9 (Value.slice l10.1 l10.2 l10.3)) w12 = Result.ok (Value.string s23) w22 ∧
                                   R (Value.bool !ByteArray.toList s23 == ByteArray.toList (ByteArray.mk (Array.mk [46, 103, 105, 116]))) w22))))))))))))))))))))))
theorem vc_cartularyref14_Name_ok {x0 : ByteArray} {w : World} {R : Value → World → Prop} {R' : Ending → World → Prop} (h : vc_cartularyref14_Name x0 w R) (hR : ∀ v w', R v w' → R' (.returned v) w') :
    Calls Tryz.prog 21 #[.string x0] w R' :=
  calls_of_body (vs := [(.string x0, false)]) (ty := ty) (ann := ⟨[], [(5, [(3, .slice), (4, .int .i64)])], [], []⟩) (c := Tryz.f21.body.getD .skip) (by kernel_rfl) Tryz.func21 (by kernel_rfl) (by kernel_rfl) (Eq.mp (by kernel_rfl) h) hR
/-- cartularyref14.key -/
def vc_cartularyref14_key (x0_0 : Int) (x0_1 : ByteArray) (x0_2 : ByteArray) (w : World) (R : Value → World → Prop) : Prop :=
  ∀ w1 : World,
  (w1 = World.alloc w (Obj.cells (Array.mk [Value.int IntKind.i64 x0_0, Value.string x0_1, Value.string x0_2]) 47) →
    ∃ n2 : Int, (World.cell? w1 (Addr.mk (Array.size (World.heap w)) 0 none) = some (Value.int IntKind.i64 n2) ∧
     ((((n2 == 16384) = true →
        ∃ s3 : ByteArray, (World.cell? w1 (Addr.mk (Array.size (World.heap w)) 1 none) = some (Value.string s3) ∧
         (ByteArray.size s3 + ByteArray.size (ByteArray.mk (Array.mk [47])) ≤ 9223372036854775807 ∧
          R (Value.string (s3 ++ ByteArray.mk (Array.mk [47]))) w1)))) ∧
      ((n2 == 16384) = false →
        ∃ s4 : ByteArray, (World.cell? w1 (Addr.mk (Array.size (World.heap w)) 1 none) = some (Value.string s4) ∧
         R (Value.string s4) w1)))))
theorem vc_cartularyref14_key_ok {x0_0 : Int} {x0_1 : ByteArray} {x0_2 : ByteArray} {w : World} {R : Value → World → Prop} {R' : Ending → World → Prop} (h : vc_cartularyref14_key x0_0 x0_1 x0_2 w R) (hR : ∀ v w', R v w' → R' (.returned v) w') :
    Calls Tryz.prog 23 #[.agg #[.int .i64 x0_0, .string x0_1, .string x0_2]] w R' :=
  calls_of_body (vs := [(.agg #[.int .i64 x0_0, .string x0_1, .string x0_2], false)]) (ty := ty) (ann := ⟨[], [], [], []⟩) (c := Tryz.f23.body.getD .skip) (by kernel_rfl) Tryz.func23 (by kernel_rfl) (by kernel_rfl) (Eq.mp (by kernel_rfl) h) hR
/-- cartularyref14.Check -/
def vc_cartularyref14_Check (x0a : Option Addr) (x0n : Nat) (x0c : Nat) (w : World) (R : Value → World → Prop) : Prop :=
  (((decide ((↑x0n : Int) > 500) = true →
     R (Value.int IntKind.i64 2) w)) ∧
   (decide ((↑x0n : Int) > 500) = false →
     ∃ I1 : Int → World → Prop, ∃ I2 : Int → World → Nat, (I1 0 w ∧
      ∀ n3 : Int,
      ∀ w4 : World,
      (I1 n3 w4 →
        (((decide (n3 < (↑x0n : Int)) = true →
           ((0 ≤ n3 ∧
             n3 < (↑x0n : Int)) ∧
            ∃ a5 : Addr, (x0a = some a5 ∧
             ∃ n6 : Int, ∃ s7 : ByteArray, ∃ s8 : ByteArray, (Sem.run Tryz.prog (loadVar 47 (Addr.add a5 (Int.toNat n3 * 3))) w4 = Result.ok (Value.agg (Array.mk [Value.int IntKind.i64 n6, Value.string s7, Value.string s8])) w4 ∧
              ∀ w9 : World,
              (w9 = World.alloc w4 (Obj.cells (Array.mk [Value.int IntKind.i64 0, Value.string (ByteArray.mk (Array.mk [])), Value.string (ByteArray.mk (Array.mk []))]) 47) →
                ∃ w10 : World, (Sem.run Tryz.prog (storeVar 47 (Addr.mk (Array.size (World.heap w4)) 0 none) (Value.agg (Array.mk [Value.int IntKind.i64 n6, Value.string s7, Value.string s8]))) w9 = Result.ok PUnit.unit w10 ∧
                 ∃ n11 : Int, (World.cell? w10 (Addr.mk (Array.size (World.heap w4)) 0 none) = some (Value.int IntKind.i64 n11) ∧
                  Calls Tryz.prog (20 : Nat) (Array.mk [Value.int IntKind.i64 n11]) (w10) (fun e12 w13 =>
                    ∃ s14 : ByteArray, (e12 = Ending.returned (Value.string s14) ∧
                     ((((ByteArray.toList s14 == ByteArray.toList (ByteArray.mk (Array.mk []))) = true →
                        R (Value.int IntKind.i64 4) w13)) ∧
                      ((ByteArray.toList s14 == ByteArray.toList (ByteArray.mk (Array.mk []))) = false →
                        ∃ s15 : ByteArray, (World.cell? w13 (Addr.mk (Array.size (World.heap w4)) 1 none) = some (Value.string s15) ∧
                         Calls Tryz.prog (21 : Nat) (Array.mk [Value.string s15]) (w13) (fun e16 w17 =>
                           ∃ b18 : Bool, (e16 = Ending.returned (Value.bool b18) ∧
                            ((((!b18) = true →
                               R (Value.int IntKind.i64 4) w17)) ∧
                             ((!b18) = false →
                               ∃ s19 : ByteArray, (World.cell? w17 (Addr.mk (Array.size (World.heap w4)) 2 none) = some (Value.string s19) ∧
                                Calls Tryz.prog (22 : Nat) (Array.mk [Value.string s19]) (w17) (fun e20 w21 =>
                                  ∃ b22 : Bool, (e20 = Ending.returned (Value.bool b22) ∧
                                   ((((!b22) = true →
                                      R (Value.int IntKind.i64 4) w21)) ∧
                                    ((!b22) = false →
                                      ((0 ≤ n3 ∧
                                        n3 ≤ (↑x0c : Int)) ∧
                                       ∃ I23 : Int → World → Prop, ∃ I24 : Int → World → Nat, (I23 0 w21 ∧
                                        ∀ n25 : Int,
                                        ∀ w26 : World,
                                        (I23 n25 w26 →
                                          (((decide (n25 < (↑(Int.toNat n3) : Int)) = true →
                                             ((0 ≤ n25 ∧
                                               n25 < (↑(Int.toNat n3) : Int)) ∧
                                              ∃ a27 : Addr, (subA x0a x0c 0 3 = some a27 ∧
                                               ∃ n28 : Int, ∃ s29 : ByteArray, ∃ s30 : ByteArray, (Sem.run Tryz.prog (loadVar 47 (Addr.add a27 (Int.toNat n25 * 3))) w26 = Result.ok (Value.agg (Array.mk [Value.int IntKind.i64 n28, Value.string s29, Value.string s30])) w26 ∧
                                                ∀ w31 : World,
                                                (w31 = World.alloc w26 (Obj.cells (Array.mk [Value.int IntKind.i64 0, Value.string (ByteArray.mk (Array.mk [])), Value.string (ByteArray.mk (Array.mk []))]) 47) →
                                                  ∃ w32 : World, (Sem.run Tryz.prog (storeVar 47 (Addr.mk (Array.size (World.heap w26)) 0 none) (Value.agg (Array.mk [Value.int IntKind.i64 n28, Value.string s29, Value.string s30]))) w31 = Result.ok PUnit.unit w32 ∧
                                                   ∀ w33 : World,
                                                   (Drew w32 w33 →
                                                     ∃ I34 : World → Prop, (I34 w33 ∧
                                                      ∃ s35 : ByteArray, ((∀ w36 : World,
                                                       (I34 w36 →
                                                         World.cell? w36 (Addr.mk (Array.size (World.heap w26)) 1 none) = some (Value.string s35))) ∧
                                                       ∃ s37 : ByteArray, ((∀ w38 : World,
                                                        (I34 w38 →
                                                          World.cell? w38 (Addr.mk (Array.size (World.heap w4)) 1 none) = some (Value.string s37))) ∧
                                                        ((((ByteArray.toList s35 == ByteArray.toList s37) = true →
                                                           (I34 w33 ∧
                                                            (I34 w33 ∧
                                                             R (Value.int IntKind.i64 4) w33)))) ∧
                                                         ((ByteArray.toList s35 == ByteArray.toList s37) = false →
                                                           ∃ n39 : Int, ∃ s40 : ByteArray, ∃ s41 : ByteArray, ((∀ w42 : World,
                                                            (I34 w42 →
                                                              Sem.run Tryz.prog (loadVar 47 (Addr.mk (Array.size (World.heap w26)) 0 none)) w42 = Result.ok (Value.agg (Array.mk [Value.int IntKind.i64 n39, Value.string s40, Value.string s41])) w42)) ∧
                                                            ∃ n43 : Int, ∃ s44 : ByteArray, ∃ s45 : ByteArray, ((∀ w46 : World,
                                                             (I34 w46 →
                                                               Sem.run Tryz.prog (loadVar 47 (Addr.mk (Array.size (World.heap w4)) 0 none)) w46 = Result.ok (Value.agg (Array.mk [Value.int IntKind.i64 n43, Value.string s44, Value.string s45])) w46)) ∧
                                                             Calls Tryz.prog (23 : Nat) (Array.mk [Value.agg (Array.mk [Value.int IntKind.i64 n39, Value.string s40, Value.string s41])]) (w33) (fun e47 w48 =>
                                                               ∃ s49 : ByteArray, (e47 = Ending.returned (Value.string s49) ∧
                                                                (I34 w48 ∧
                                                                 Calls Tryz.prog (23 : Nat) (Array.mk [Value.agg (Array.mk [Value.int IntKind.i64 n43, Value.string s44, Value.string s45])]) (w48) (fun e50 w51 =>
                                                                   ∃ s52 : ByteArray, (e50 = Ending.returned (Value.string s52) ∧
                                                                    (I34 w51 ∧
                                                                     ((((!Op.bytesLess (ByteArray.toList s49) (ByteArray.toList s52)) = true →
                                                                        R (Value.int IntKind.i64 4) w51)) ∧
                                                                      ((!Op.bytesLess (ByteArray.toList s49) (ByteArray.toList s52)) = false →
                                                                        (I23 (IntKind.wrap IntKind.i64 (n25 + 1)) w51 ∧
                                                                         I24 (IntKind.wrap IntKind.i64 (n25 + 1)) w51 < I24 n25 w26)))))))))))))))))))))))) ∧
                                           (decide (n25 < (↑(Int.toNat n3) : Int)) = false →
                                             (I1 (IntKind.wrap IntKind.i64 (n3 + 1)) w26 ∧
                                              I2 (IntKind.wrap IntKind.i64 (n3 + 1)) w26 < I2 n3 w4)))))))))))))))))))))))))))) ∧
         (decide (n3 < (↑x0n : Int)) = false →
           R (Value.int IntKind.i64 0) w4))))))
theorem vc_cartularyref14_Check_ok {x0a : Option Addr} {x0n : Nat} {x0c : Nat} {w : World} {R : Value → World → Prop} {R' : Ending → World → Prop} (h : vc_cartularyref14_Check x0a x0n x0c w R) (hR : ∀ v w', R v w' → R' (.returned v) w') :
    Calls Tryz.prog 6 #[.slice x0a x0n x0c] w R' :=
  calls_of_body (vs := [(.slice x0a x0n x0c, false)]) (ty := ty) (ann := ⟨[], [(4, [(12, .int .i64)]), (9, [(37, .int .i64)])], [(11, .held [(0, true), (1, true), (2, true), (3, true), (4, true), (5, true), (6, true), (8, true), (7, false), (9, false), (10, true), (11, true)])], []⟩) (c := Tryz.f6.body.getD .skip) (by kernel_rfl) Tryz.func6 (by kernel_rfl) (by kernel_rfl) (Eq.mp (by kernel_rfl) h) hR
/-- cartularyref14.Same -/
def vc_cartularyref14_Same (x0a : Option Addr) (x0n : Nat) (x0c : Nat) (x1a : Option Addr) (x1n : Nat) (x1c : Nat) (w : World) (R : Value → World → Prop) : Prop :=
  (((((↑x0n : Int) != (↑x1n : Int)) = true →
     R (Value.bool false) w)) ∧
   (((↑x0n : Int) != (↑x1n : Int)) = false →
     ∃ I1 : Int → World → Prop, ∃ I2 : Int → World → Nat, (I1 0 w ∧
      ∀ n3 : Int,
      ∀ w4 : World,
      (I1 n3 w4 →
        (((decide (n3 < (↑x0n : Int)) = true →
           ∀ w5 : World,
           (Drew w4 w5 →
             ∃ I6 : World → Prop, (I6 w5 ∧
              ((0 ≤ n3 ∧
                n3 < (↑x0n : Int)) ∧
               ∃ a7 : Addr, (x0a = some a7 ∧
                ((0 ≤ n3 ∧
                  n3 < (↑x1n : Int)) ∧
                 ∃ a8 : Addr, (x1a = some a8 ∧
                  ∃ n9 : Int, ∃ s10 : ByteArray, ∃ s11 : ByteArray, ((∀ w12 : World,
                   (I6 w12 →
                     Sem.run Tryz.prog (loadVar 47 (Addr.add a7 (Int.toNat n3 * 3))) w12 = Result.ok (Value.agg (Array.mk [Value.int IntKind.i64 n9, Value.string s10, Value.string s11])) w12)) ∧
                   ∃ n13 : Int, ∃ s14 : ByteArray, ∃ s15 : ByteArray, ((∀ w16 : World,
                    (I6 w16 →
                      Sem.run Tryz.prog (loadVar 47 (Addr.add a8 (Int.toNat n3 * 3))) w16 = Result.ok (Value.agg (Array.mk [Value.int IntKind.i64 n13, Value.string s14, Value.string s15])) w16)) ∧
                    ((((!(n9 == n13 && (ByteArray.toList s10 == ByteArray.toList s14 && ByteArray.toList s11 == ByteArray.toList s15))) = true →
                       R (Value.bool false) w5)) ∧
                     ((!(n9 == n13 && (ByteArray.toList s10 == ByteArray.toList s14 && ByteArray.toList s11 == ByteArray.toList s15))) = false →
                       (I1 (IntKind.wrap IntKind.i64 (n3 + 1)) w5 ∧
                        I2 (IntKind.wrap IntKind.i64 (n3 + 1)) w5 < I2 n3 w4))))))))))))) ∧
         (decide (n3 < (↑x0n : Int)) = false →
           R (Value.bool true) w4))))))
theorem vc_cartularyref14_Same_ok {x0a : Option Addr} {x0n : Nat} {x0c : Nat} {x1a : Option Addr} {x1n : Nat} {x1c : Nat} {w : World} {R : Value → World → Prop} {R' : Ending → World → Prop} (h : vc_cartularyref14_Same x0a x0n x0c x1a x1n x1c w R) (hR : ∀ v w', R v w' → R' (.returned v) w') :
    Calls Tryz.prog 13 #[.slice x0a x0n x0c, .slice x1a x1n x1c] w R' :=
  calls_of_body (vs := [(.slice x0a x0n x0c, false), (.slice x1a x1n x1c, false)]) (ty := ty) (ann := ⟨[], [(4, [(13, .int .i64)])], [(6, .held [(0, true), (1, true), (2, true), (4, true), (5, true), (6, true), (3, true), (7, true), (8, true)])], []⟩) (c := Tryz.f13.body.getD .skip) (by kernel_rfl) Tryz.func13 (by kernel_rfl) (by kernel_rfl) (Eq.mp (by kernel_rfl) h) hR
end Go.Proofs.YtopjkjiobdigaaaGreatDoor

/- Formulas of 1 Go functions of this seat (written by a program of the author's, vcgen.py), and that each is enough for the call. No condition. -/
set_option linter.unusedVariables false
namespace Go.Proofs.YtopjkjiobdigaaaGreatDoor
open Go Vc Go.Proofs
set_option maxRecDepth 100000
/-- cartularylaw14.Few -/
def vc_cartularylaw14_Few (x0a : Option Addr) (x0n : Nat) (x0c : Nat) (w : World) (R : Value → World → Prop) : Prop :=
  (((decide ((↑x0n : Int) > 600) = true →
     (((0 : Int) ≤ (600 : Int) ∧
       600 ≤ (↑x0c : Int)) ∧
      ∀ w1 : World,
      (w1 = World.alloc w (Obj.cells (Array.mk []) 47) →
        ∃ w2 : World, ∃ l3 : Sl, (Sem.run Tryz.prog (Builtin.append_ (Array.mk [22, 22]) 22 (Array.mk [Value.slice (some (Addr.mk (Array.size (World.heap w)) 0 none)) 0 0, Value.slice (subA x0a x0c 0 3) (Int.toNat 600) x0c])) w1 = Result.ok (Value.slice l3.1 l3.2 l3.3) w2 ∧
         R (Value.slice l3.1 l3.2 l3.3) w2))))) ∧
   (decide ((↑x0n : Int) > 600) = false →
     ∀ w4 : World,
     (w4 = World.alloc w (Obj.cells (Array.mk []) 47) →
       ∃ w5 : World, ∃ l6 : Sl, (Sem.run Tryz.prog (Builtin.append_ (Array.mk [22, 22]) 22 (Array.mk [Value.slice (some (Addr.mk (Array.size (World.heap w)) 0 none)) 0 0, Value.slice x0a x0n x0c])) w4 = Result.ok (Value.slice l6.1 l6.2 l6.3) w5 ∧
        R (Value.slice l6.1 l6.2 l6.3) w5))))
theorem vc_cartularylaw14_Few_ok {x0a : Option Addr} {x0n : Nat} {x0c : Nat} {w : World} {R : Value → World → Prop} {R' : Ending → World → Prop} (h : vc_cartularylaw14_Few x0a x0n x0c w R) (hR : ∀ v w', R v w' → R' (.returned v) w') :
    Calls Tryz.prog 4 #[.slice x0a x0n x0c] w R' :=
  calls_of_body (vs := [(.slice x0a x0n x0c, false)]) (ty := ty) (ann := ⟨[], [], [], []⟩) (c := Tryz.f4.body.getD .skip) (by kernel_rfl) Tryz.func4 (by kernel_rfl) (by kernel_rfl) (Eq.mp (by kernel_rfl) h) hR
end Go.Proofs.YtopjkjiobdigaaaGreatDoor

/- The reference's folders: Modes, mode, Name, key, Check, Text, Parse, Same; the law's Few. Conditions: texts are no longer than memory. -/
set_option linter.unusedVariables false
namespace Go.Proofs.YtopjkjiobdigaaaGreatDoor
open Go Vc HexM TreeM Go.Proofs

def modeI : List Int := [16384, 33188, 33261, 40960, 57344]
def modeS : List ByteArray := [s40000, s100644, s100755, s120000, s160000]
/-- The two tables. -/
structure Modes (w : World) (l r : Sl) : Prop where
  ll : l.len = 5
  rl : r.len = 5
  lr : Reads w l.a (modeI.map (Value.int .i64))
  rr : Reads w r.a (modeS.map Value.string)
theorem Modes.keep {w w1 : World} {l r : Sl} (h : Modes w l r) {X : Nat → Prop} (hf : Fr X w w1) (hl : ∀ x, l.a = some x → ¬ X x.block) (hr : ∀ x, r.a = some x → ¬ X x.block) : Modes w1 l r := ⟨h.ll, h.rl, h.lr.keep hf hl, h.rr.keep hf hr⟩
theorem modes_spec (w : World) : Calls Tryz.prog F_cartularyref14_Modes #[] w fun e w' => ∃ l r, e = .returned (.tuple #[.slice l.a l.len l.cap, .slice r.a r.len r.cap]) ∧ Modes w' l r ∧ (∀ y, l.a = some y ∨ r.a = some y → w.heap.size ≤ y.block) ∧ Fr (fun _ => False) w w' := by
  refine vc_cartularyref14_Modes_ok (R := fun v w' => ∃ l r : Sl, v = .tuple #[.slice l.a l.len l.cap, .slice r.a r.len r.cap] ∧ Modes w' l r ∧ (∀ y, l.a = some y ∨ r.a = some y → w.heap.size ≤ y.block) ∧ Fr (fun _ => False) w w') ?_ (fun v w' ⟨l, r, h⟩ => ⟨l, r, by rw [h.1], h.2⟩)
  rintro w1 h1 w2 h2
  have hb1 : w1.heap[w.heap.size]? = some (.cells #[.int .i64 16384, .int .i64 33188, .int .i64 33261, .int .i64 40960, .int .i64 57344] 3 (0, 0)) := by rw [h1]; exact alloc_new _ _
  have hf2 : Fr (fun _ => False) w1 w2 := by rw [h2]; exact .alloc _ _ _
  have hb2 : w2.heap[w1.heap.size]? = some (.cells #[.string s40000, .string s100644, .string s100755, .string s120000, .string s160000] 9 (0, 0)) := by rw [h2]; exact alloc_new _ _
  refine ⟨⟨some ⟨w.heap.size, 0, none⟩, 5, 5⟩, ⟨some ⟨w1.heap.size, 0, none⟩, 5, 5⟩, rfl, ⟨rfl, rfl, fun i v hv => ⟨_, rfl, ?_⟩, fun i v hv => ⟨_, rfl, ?_⟩⟩, ?_, (by rw [h1]; exact .alloc _ _ _ : Fr (fun _ => False) w w1).trans' hf2⟩
  · rw [add_lit, cell_blk (hf2.keep hb1 (by simp)), Nat.zero_add]; simpa [modeI] using hv
  · rw [add_lit, cell_blk hb2, Nat.zero_add]; simpa [modeS] using hv
  · rintro y (hy | hy)
    · simp only [Option.some.injEq] at hy
      subst hy; exact Nat.le_refl _
    · simp only [Option.some.injEq] at hy
      subst hy; rw [h1]; simp
theorem modes_at {w : World} {l r : Sl} (h : Modes w l r) {k : Nat} (hk : k < 5) : ∃ a b, l.a = some a ∧ r.a = some b ∧ w.cell? (a.add k) = some (.int .i64 (modeI.getD k 0)) ∧ w.cell? (b.add k) = some (.string (modeS.getD k ⟨#[]⟩)) := by
  have h1 : (modeI.map (Value.int .i64))[k]? = some (.int .i64 (modeI.getD k 0)) := by
    match k, hk with
    | 0, _ => rfl
    | 1, _ => rfl
    | 2, _ => rfl
    | 3, _ => rfl
    | 4, _ => rfl
  have h2 : (modeS.map Value.string)[k]? = some (.string (modeS.getD k ⟨#[]⟩)) := by
    match k, hk with
    | 0, _ => rfl
    | 1, _ => rfl
    | 2, _ => rfl
    | 3, _ => rfl
    | 4, _ => rfl
  obtain ⟨a, ha, hc⟩ := h.lr k _ h1
  obtain ⟨b, hb, hd⟩ := h.rr k _ h2
  exact ⟨a, b, ha, hb, hc, hd⟩
theorem modeText_at {m : Int} {k : Nat} (hk : k < 5) (h : modeI.getD k 0 = m) : modeText m = modeS.getD k ⟨#[]⟩ := by
  subst h
  match k, hk with
  | 0, _ => rfl
  | 1, _ => rfl
  | 2, _ => rfl
  | 3, _ => rfl
  | 4, _ => rfl
theorem modeText_no {m : Int} (h : ∀ k, k < 5 → modeI.getD k 0 ≠ m) : modeText m = ⟨#[]⟩ := by
  have h0 : 16384 ≠ m := h 0 (by decide)
  have h1 : 33188 ≠ m := h 1 (by decide)
  have h2 : 33261 ≠ m := h 2 (by decide)
  have h3 : 40960 ≠ m := h 3 (by decide)
  have h4 : 57344 ≠ m := h 4 (by decide)
  unfold modeText
  rw [if_neg h0.symm, if_neg h1.symm, if_neg h2.symm, if_neg h3.symm, if_neg h4.symm]
theorem rmode_spec (m : Int) (w : World) : Calls Tryz.prog F_cartularyref14_mode #[.int .i64 m] w fun e w' => e = .returned (.string (modeText m)) ∧ Fr (fun _ => False) w w' := by
  refine vc_cartularyref14_mode_ok (R := fun v w' => v = .string (modeText m) ∧ Fr (fun _ => False) w w') ?_ (fun v w' h => ⟨by rw [h.1], h.2⟩)
  refine (modes_spec w).mono ?_
  rintro e w2 ⟨l, r, rfl, hM, _, hf⟩
  refine ⟨l, r, rfl, fun i w' => w' = w2 ∧ ∃ k : Nat, i = k ∧ k ≤ 5 ∧ ∀ j, j < k → modeI.getD j 0 ≠ m, fun i _ => 5 - i.toNat, ⟨rfl, 0, rfl, Nat.zero_le _, fun j hj => by omega⟩, ?_⟩
  rintro i w8 ⟨hw, k, rfl, hk, hno⟩
  replace hw := hw.symm
  subst hw
  have e1 : IntKind.i64.wrap ((k : Int) + 1) = ((k + 1 : Nat) : Int) := by rw [wrap_i64 (by omega) (by omega)]; omega
  rw [e1, hM.ll, hM.rl]
  refine ⟨fun hlt => ?_, fun hge => ?_⟩
  · have hlt := of_decide_eq_true hlt
    have hk5 : k < 5 := by omega
    obtain ⟨a, b, ha, hb, hc, hd⟩ := modes_at hM hk5
    refine ⟨⟨by omega, by omega⟩, a, ha, modeI.getD k 0, by rw [Int.toNat_natCast, Nat.mul_one]; exact hc, fun he => ⟨⟨by omega, by omega⟩, b, hb, modeS.getD k ⟨#[]⟩, by rw [Int.toNat_natCast, Nat.mul_one]; exact hd, by rw [modeText_at hk5 (eq_of_beq he)], hf⟩, fun hne => ⟨⟨rfl, k + 1, rfl, by omega, fun j hj => ?_⟩, by dsimp only; omega⟩⟩
    by_cases hjk : j = k
    · subst hjk; intro e; rw [e] at hne; simp at hne
    · exact hno j (by omega)
  · have hge := of_decide_eq_false hge
    have : k = 5 := by omega
    subst this
    exact ⟨by rw [modeText_no hno], hf⟩
/-- Small letters. -/
def lows (s : ByteArray) (k : Nat) : List UInt8 := (List.range k).map fun j => UInt8.ofNat (low (byt s j))
theorem low_lt (c : Nat) (h : c < 256) : low c < 256 := by unfold low; split <;> omega
theorem lows_succ (s : ByteArray) (k : Nat) : lows s (k + 1) = lows s k ++ [UInt8.ofNat (low (byt s k))] := by
  unfold lows; rw [List.range_succ, List.map_append]; rfl
theorem lows_byt (s : ByteArray) {i : Nat} (h : i < s.size) : byt ⟨(lows s s.size).toArray⟩ i = low (byt s i) := by
  have e : byt ⟨(lows s s.size).toArray⟩ i = (((lows s s.size)[i]?).getD 0).toNat := by unfold byt; rw [bs_mk]
  rw [e]
  simp only [lows, List.getElem?_map, List.getElem?_range h, Option.map_some, Option.getD_some]
  rw [toNat_of _ (low_lt _ (byt_lt s i))]
theorem lows_git (s : ByteArray) : decide ((⟨(lows s s.size).toArray⟩ : ByteArray) = gitS) = isGit s := by
  rw [Bool.eq_iff_iff, decide_eq_true_eq, isGit_iff]
  have hl : (lows s s.size).length = s.size := by simp [lows]
  constructor
  · intro h
    have hsz : s.size = 4 := by rw [← hl, ← bs_mksize, h]; rfl
    exact ⟨hsz, fun j hj => by rw [← lows_byt s (by omega), h]⟩
  · rintro ⟨h4, h⟩
    refine bs_ext_byt (by rw [bs_mksize, hl, h4]; rfl) fun i hi => ?_
    rw [bs_mksize, hl] at hi
    rw [lows_byt s hi, h i (by omega)]
theorem slashed_iff (s : ByteArray) : slashed s = (decide (Lib.indexByte s.data.toList 47 ≥ 0) || decide (Lib.indexByte s.data.toList 0 ≥ 0)) := by
  rw [Bool.eq_iff_iff, Bool.or_eq_true, decide_eq_true_eq, decide_eq_true_eq]
  unfold slashed
  rw [List.any_eq_true]
  have h47 : (47 : UInt8).toNat = 47 := rfl
  have h00 : (0 : UInt8).toNat = 0 := rfl
  constructor
  · rintro ⟨c, hc, h⟩
    obtain ⟨k, hk, rfl⟩ := List.getElem_of_mem hc
    rw [bs_len] at hk
    have hb := bs_byt hk
    simp only [List.contains_cons, List.contains_nil, Bool.or_false, Bool.or_eq_true, beq_iff_eq] at h
    rcases h with h | h
    · refine .inl ?_
      rcases fnd_cases s 47 with ⟨_, h2⟩ | ⟨i, h2, _⟩
      · exact absurd (by rw [hb, h]) (h2 k hk)
      · omega
    · refine .inr ?_
      rcases fnd_cases s 0 with ⟨_, h2⟩ | ⟨i, h2, _⟩
      · exact absurd (by rw [hb, h]) (h2 k hk)
      · omega
  · rintro (h | h)
    · rcases fnd_cases s 47 with ⟨h1, _⟩ | ⟨i, _, hi, hb, _⟩
      · omega
      · exact ⟨47, List.mem_of_getElem? (i := i) (by rw [bs_get hi, hb]; rfl), by decide⟩
    · rcases fnd_cases s 0 with ⟨h1, _⟩ | ⟨i, _, hi, hb, _⟩
      · omega
      · exact ⟨0, List.mem_of_getElem? (i := i) (by rw [bs_get hi, hb]; rfl), by decide⟩
theorem own_emptyB (w : World) : Vc.Own (w.alloc (.cells #[] T_uint8)) w.heap.size T_uint8 ⟨some ⟨w.heap.size, 0, none⟩, 0, 0⟩ [] :=
  ⟨rfl, .inr ⟨w.heap.size, #[], rfl, Nat.le_refl _, alloc_new _ _, Nat.le_refl _, Nat.zero_le _, rfl, rfl⟩⟩
theorem rname_spec (s : ByteArray) (hs : s.size ≤ 140737488355328) (w : World) : Calls Tryz.prog F_cartularyref14_Name #[.string s] w fun e w' => e = .returned (.bool (nameOK isGit s)) ∧ Fr (fun _ => False) w w' := by
  refine vc_cartularyref14_Name_ok (R := fun v w' => v = .bool (nameOK isGit s) ∧ Fr (fun _ => False) w w') ?_ (fun v w' h => ⟨by rw [h.1], h.2⟩)
  have hem : (decide (s ≠ ⟨#[]⟩)) = decide (1 ≤ s.size) := decide_eq_decide.2 (by rw [Ne, bs_empty]; omega)
  unfold nameOK
  rw [hem]
  refine ⟨fun h => ⟨?_, .refl _ _⟩, fun h1 => ⟨fun h => ⟨?_, .refl _ _⟩, fun h2 => ⟨fun h => ⟨?_, .refl _ _⟩, fun h3 => ⟨fun h => ⟨?_, .refl _ _⟩, fun h4 => ?_⟩⟩⟩⟩
  · have h := of_decide_eq_true h
    rw [decide_eq_false (show ¬ 1 ≤ s.size by omega)]; rfl
  · have h := of_decide_eq_true h
    rw [decide_eq_false (show ¬ s.size ≤ 100 by omega)]; simp
  · rw [bs_eq] at h
    have h : s = ⟨#[46]⟩ := of_decide_eq_true h
    rw [decide_eq_false (show ¬ s ≠ ⟨#[46]⟩ from fun hn => hn h)]; simp
  · rw [bs_eq] at h
    have h : s = ⟨#[46, 46]⟩ := of_decide_eq_true h
    rw [decide_eq_false (show ¬ s ≠ ⟨#[46, 46]⟩ from fun hn => hn h)]; simp
  have h1 := of_decide_eq_false h1
  have h2 := of_decide_eq_false h2
  rw [bs_eq] at h3 h4
  have h3 : s ≠ ⟨#[46]⟩ := of_decide_eq_false h3
  have h4 : s ≠ ⟨#[46, 46]⟩ := of_decide_eq_false h4
  rw [decide_eq_true (show 1 ≤ s.size by omega), decide_eq_true (show s.size ≤ 100 by omega), decide_eq_true h3, decide_eq_true h4]
  simp only [Bool.true_and]
  rw [slashed_iff]
  refine (find_spec s (by omega) 47 (by decide) w).mono ?_
  rintro e w2 ⟨rfl, hw⟩
  replace hw := hw.symm
  subst hw
  rw [show UInt8.ofNat 47 = 47 from rfl]
  refine ⟨_, rfl, fun h => ⟨by rw [h]; simp, .refl _ _⟩, fun h47 => ?_⟩
  refine (find_spec s (by omega) 0 (by decide) w).mono ?_
  rintro e w5 ⟨rfl, hw⟩
  replace hw := hw.symm
  subst hw
  rw [show UInt8.ofNat 0 = 0 from rfl]
  refine ⟨_, rfl, fun h => ⟨by rw [h]; simp, .refl _ _⟩, fun h00 w7 h7 => ?_⟩
  rw [h47, h00]
  subst h7
  refine ⟨fun l i w' => ∃ k : Nat, i = k ∧ k ≤ s.size ∧ Vc.Own w' w.heap.size T_uint8 l (byteV (lows s k)) ∧ Fr (fun _ => False) w w', fun _ i _ => s.size - i.toNat, ⟨0, rfl, Nat.zero_le _, own_emptyB w, .alloc _ _ _⟩, ?_⟩
  rintro l10 i w12 ⟨k, rfl, hk, ho, hf⟩
  have e1 : IntKind.i64.wrap ((k : Int) + 1) = ((k + 1 : Nat) : Int) := by rw [wrap_i64 (by omega) (by omega)]; omega
  have hln : (lows s k).length = k := by simp [lows]
  refine ⟨fun hlt => ?_, fun hge => ?_⟩
  · have hlt := of_decide_eq_true hlt
    have hb := byt_lt s k
    rw [byteAt_nat, e1]
    have step : ∀ z : Nat, z = low (byt s k) → ∀ w13, w13 = w12.alloc (.cells #[.int .u8 (z : Int)] T_uint8) → ∃ w14 l15, (Builtin.append_ #[T_S_uint8, T_S_uint8] T_S_uint8 #[.slice l10.a l10.len l10.cap, .slice (some ⟨w12.heap.size, 0, none⟩) 1 1]).run Tryz.prog w13 = .ok (.slice l15.a l15.len l15.cap) w14 ∧
        (∃ k' : Nat, ((k + 1 : Nat) : Int) = k' ∧ k' ≤ s.size ∧ Vc.Own w14 w.heap.size T_uint8 l15 (byteV (lows s k')) ∧ Fr (fun _ => False) w w14) ∧ s.size - (((k + 1 : Nat) : Int)).toNat < s.size - ((k : Int)).toNat := fun z hz w13 h13 => by
      obtain ⟨w14, l15, hr, ho14, hf14, _⟩ := append_one' elByteH ho (v := .int .u8 (z : Int)) rfl (by rw [bv_len, hln]; unfold maxLen; omega) (by rw [bv_len, hln]; omega) hf.size h13
      refine ⟨w14, l15, hr, ⟨k + 1, rfl, by omega, ?_, hf.trans hf14 fun q hq ⟨y, hy, e⟩ => by have := (ho.blk hy).1; omega⟩, by omega⟩
      rw [lows_succ, ← hz, ← bv_snoc _ _ (by rw [hz]; exact low_lt _ hb)]; exact ho14
    refine ⟨⟨by omega, by omega⟩, fun h65 => ⟨fun h90 w13 h13 => ?_, fun h90 w16 h16 => ?_⟩, fun h65 w19 h19 => ?_⟩
    · have h65 := of_decide_eq_true h65
      have h90 := of_decide_eq_true h90
      have e2 : IntKind.u8.wrap (((byt s k : Nat) : Int) + 32) = ((byt s k + 32 : Nat) : Int) := by rw [wrap_u8 (by omega) (by omega)]; omega
      rw [e2] at h13
      exact step _ (by unfold low; rw [if_pos (by omega)]) w13 h13
    · have h90 := of_decide_eq_false h90
      exact step _ (by unfold low; rw [if_neg (by omega)]) w16 h16
    · have h65 := of_decide_eq_false h65
      exact step _ (by unfold low; rw [if_neg (by omega)]) w19 h19
  · have hge := of_decide_eq_false hge
    have : k = s.size := by omega
    subst this
    refine ⟨_, _, bytes_str (e := T_uint8) (by kernel_rfl) (by kernel_rfl) (by kernel_rfl) l10.cap ho.reads (by rw [ho.len, bv_len]), ?_, hf⟩
    rw [bs_eq]
    have := lows_git s
    rw [show (decide ((⟨(lows s s.size).toArray⟩ : ByteArray) = ⟨⟨[46, 103, 105, 116]⟩⟩)) = isGit s from this]
    simp
theorem rkey_spec (x : Ent) (hx : x.name.size ≤ 140737488355328) (w : World) : Calls Tryz.prog F_cartularyref14_key #[.agg #[.int .i64 x.mode, .string x.name, .string x.id]] w fun e w' => e = .returned (.string (keyE x)) ∧ Fr (fun _ => False) w w' := by
  refine vc_cartularyref14_key_ok (R := fun v w' => v = .string (keyE x) ∧ Fr (fun _ => False) w w') ?_ (fun v w' h => ⟨by rw [h.1], h.2⟩)
  rintro w1 rfl
  have c : ∀ {j : Nat} {v : Value}, (encE x)[j]? = some v → (w.alloc (.cells (encE x).toArray T_api_Entry)).cell? ⟨w.heap.size, j, none⟩ = some v := fun hv => boxE_cell w x (.refl (fun _ => False) _) (by simp) hv
  refine ⟨x.mode, c (j := 0) rfl, fun h => ⟨x.name, c (j := 1) rfl, ?_, ?_, .alloc _ _ _⟩, fun h => ⟨x.name, c (j := 1) rfl, ?_, .alloc _ _ _⟩⟩
  · show x.name.size + 1 ≤ _; omega
  · unfold keyE; rw [if_pos (eq_of_beq h)]
  · unfold keyE; rw [if_neg (fun e => by rw [e] at h; simp at h)]
/-- The reference's 'Check'. -/
theorem rcheck_spec {w : World} {a : Option Addr} {n c : Nat} {xs : List Ent} (hE : Ents w a n xs) (hc : n ≤ c) : Calls Tryz.prog F_cartularyref14_Check #[.slice a n c] w fun e w' => e = .returned (.int .i64 (checkE isGit xs)) ∧ Fr (fun _ => False) w w' := by
  refine vc_cartularyref14_Check_ok (R := fun v w' => v = .int .i64 (checkE isGit xs) ∧ Fr (fun _ => False) w w') ?_ (fun v w' h => ⟨by rw [h.1], h.2⟩)
  have hlen := hE.len
  refine ⟨fun h => ⟨?_, .refl _ _⟩, fun h => ?_⟩
  · have h := of_decide_eq_true h
    unfold checkE
    rw [if_pos (by omega)]
  have h500 := of_decide_eq_false h
  have hl5 : xs.length ≤ 500 := by omega
  refine ⟨fun i w' => ∃ k : Nat, i = k ∧ k ≤ n ∧ (∀ j, j < k → okAt isGit xs j = true) ∧ Fr (fun _ => False) w w', fun i _ => n - i.toNat, ⟨0, rfl, Nat.zero_le _, fun j hj => by omega, .refl _ _⟩, ?_⟩
  rintro i w4 ⟨k, rfl, hk, hok, hf⟩
  refine ⟨fun hlt => ?_, fun hge => ⟨?_, hf⟩⟩
  · have hlt := of_decide_eq_true hlt
    have hkl : k < xs.length := by omega
    have hx : xs[k]? = some xs[k] := List.getElem?_eq_getElem hkl
    generalize xs[k] = x at hx
    have hxm : x ∈ xs := List.mem_of_getElem? hx
    obtain ⟨ad, had, hload⟩ := (hE.reads.keep hf (by simp)).load elE hx
    refine ⟨⟨by omega, by omega⟩, ad, had, x.mode, x.name, x.id, by rw [Int.toNat_natCast]; exact hload, fun w9 h9 => ?_⟩
    subst h9
    have hboth := ok_both (git := isGit) hok hkl
    have hokr := okR_iff (git := isGit) hx
    have hfb : Fr (fun _ => False) w (w4.alloc (.cells (encE x).toArray T_api_Entry)) := hf.trans' (.alloc _ _ _)
    have bad : ∀ {w' : World}, Fr (fun _ => False) (w4.alloc (.cells (encE x).toArray T_api_Entry)) w' → okAt isGit xs k = false → (Value.int .i64 4 = .int .i64 (checkE isGit xs) ∧ Fr (fun _ => False) w w') := fun hw' hb => ⟨by rw [check_bad hl5 hkl hb], hfb.trans' hw'⟩
    have notok : ∀ {p : Prop}, (okR isGit xs k = true → p) → ¬ p → okAt isGit xs k = false := fun h1 h2 => Bool.eq_false_iff.2 fun h => h2 (h1 (hboth ▸ h))
    have cell : ∀ {w' : World}, Fr (fun _ => False) (w4.alloc (.cells (encE x).toArray T_api_Entry)) w' → ∀ {j : Nat} {v : Value}, (encE x)[j]? = some v → w'.cell? ⟨w4.heap.size, j, none⟩ = some v := fun {w'} hw' {j} {v} hv => boxE_cell w4 x hw' (by simp) hv
    refine ⟨_, boxE_run w4 x, x.mode, cell (.refl _ _) (j := 0) rfl, (rmode_spec x.mode _).mono ?_⟩
    rintro e w13 ⟨rfl, hf13⟩
    refine ⟨_, rfl, fun hm => ?_, fun hm => ⟨x.name, cell hf13 (j := 1) rfl, (rname_spec x.name (hE.name x hxm) w13).mono ?_⟩⟩
    · rw [bs_eq] at hm
      have hm := of_decide_eq_true hm
      exact bad hf13 (notok (fun h => (hokr.1 h).1) (by unfold entOK; rw [hm]; simp))
    rintro e w17 ⟨rfl, hf17⟩
    rw [bs_eq] at hm
    have hm := of_decide_eq_false hm
    have hfw17 := hf13.trans' hf17
    refine ⟨_, rfl, fun hn => ?_, fun hn => ⟨x.id, cell hfw17 (j := 2) rfl, (rid_spec x.id (hE.id x hxm) w17).mono ?_⟩⟩
    · have hn : nameOK isGit x.name = false := by simpa using hn
      exact bad hfw17 (notok (fun h => (hokr.1 h).1) (by unfold entOK; rw [hn]; simp))
    rintro e w21 ⟨rfl, hw⟩
    replace hw := hw.symm
    subst hw
    have hn : nameOK isGit x.name = true := by simpa using hn
    refine ⟨_, rfl, fun hi => ?_, fun hi => ⟨⟨by omega, by omega⟩, ?_⟩⟩
    · have hi : isId x.id.data.toList = false := by simpa using hi
      exact bad hfw17 (notok (fun h => (hokr.1 h).1) (by unfold entOK; rw [hi]; simp))
    have hi : isId x.id.data.toList = true := by simpa using hi
    have hent : entOK isGit x = true := by unfold entOK; rw [hn, hi, decide_eq_true hm]; rfl
    have e1 : IntKind.i64.wrap ((k : Int) + 1) = ((k + 1 : Nat) : Int) := by rw [wrap_i64 (by omega) (by omega)]; omega
    rw [Int.toNat_natCast, e1]
    refine ⟨fun i w' => ∃ q : Nat, i = q ∧ q ≤ k ∧ (∀ j y, j < q → xs[j]? = some y → y.name ≠ x.name ∧ klt y x = true) ∧ Fr (fun _ => False) (w4.alloc (.cells (encE x).toArray T_api_Entry)) w', fun i _ => k - i.toNat, ⟨0, rfl, Nat.zero_le _, fun j y hj => by omega, hfw17⟩, ?_⟩
    rintro i w26 ⟨q, rfl, hq, hno, hf26⟩
    have e2 : IntKind.i64.wrap ((q : Int) + 1) = ((q + 1 : Nat) : Int) := by rw [wrap_i64 (by omega) (by omega)]; omega
    rw [e2]
    refine ⟨fun hlt2 => ?_, fun hge2 => ⟨⟨k + 1, rfl, by omega, fun j hj => ?_, hfb.trans' hf26⟩, by dsimp only; omega⟩⟩
    · have hlt2 := of_decide_eq_true hlt2
      have hql : q < xs.length := by omega
      have hy : xs[q]? = some xs[q] := List.getElem?_eq_getElem hql
      generalize xs[q] = y at hy
      have hym : y ∈ xs := List.mem_of_getElem? hy
      obtain ⟨ad2, had2, hload2⟩ := (hE.reads.keep (hfb.trans' hf26) (by simp)).load elE hy
      have hsub : subA a c 0 3 = some ad2 := by
        unfold subA
        rw [had2]
        split
        · rfl
        · rw [Option.map_some, Nat.zero_mul]; simp [Addr.add]
      refine ⟨⟨by omega, by omega⟩, ad2, hsub, y.mode, y.name, y.id, by rw [Int.toNat_natCast]; exact hload2, fun w31 h31 => ?_⟩
      subst h31
      refine ⟨_, boxE_run w26 y, fun w33 d33 => ?_⟩
      have hby : Fr (fun _ => False) (w26.alloc (.cells (encE y).toArray T_api_Entry)) w33 := .drew _ d33
      have hbx : Fr (fun _ => False) (w4.alloc (.cells (encE x).toArray T_api_Entry)) w33 := (hf26.trans' (.alloc _ _ _)).trans' hby
      refine ⟨fun w' => Fr (fun _ => False) w33 w', .refl _ _, y.name, fun w' hw' => boxE_cell w26 y (hby.trans' hw') (by simp) (j := 1) rfl, x.name, fun w' hw' => cell (hbx.trans' hw') (j := 1) rfl, fun he => ?_, fun hne => ?_⟩
      · rw [bs_eq] at he
        have he := of_decide_eq_true he
        exact ⟨.refl _ _, .refl _ _, bad hbx (notok (fun h => ((hokr.1 h).2 q y (by omega) hy).1) (fun hh => hh he))⟩
      rw [bs_eq] at hne
      have hne := of_decide_eq_false hne
      refine ⟨y.mode, y.name, y.id, fun w' hw' => boxE_load w26 y (hby.trans' hw') (by simp), x.mode, x.name, x.id, fun w' hw' => boxE_load w4 x (hbx.trans' hw') (by simp), (rkey_spec y (hE.name y hym) w33).mono ?_⟩
      rintro e w48 ⟨rfl, hf48⟩
      refine ⟨_, rfl, hf48, (rkey_spec x (hE.name x hxm) w48).mono ?_⟩
      rintro e w51 ⟨rfl, hf51⟩
      have hfw51 := hbx.trans' (hf48.trans' hf51)
      refine ⟨_, rfl, hf48.trans' hf51, ?_⟩
      rw [ByteArray.toList_eq, ByteArray.toList_eq]
      refine ⟨fun hl => ?_, fun hl => ⟨⟨q + 1, rfl, by omega, fun j z hj hz => ?_, hfw51⟩, by dsimp only; omega⟩⟩
      · have hl : klt y x = false := by simpa [klt] using hl
        exact bad hfw51 (notok (fun h => ((hokr.1 h).2 q y (by omega) hy).2) (by simp [hl]))
      · have hl : klt y x = true := by simpa [klt] using hl
        by_cases hjq : j = q
        · subst hjq
          rw [hy] at hz; cases hz
          exact ⟨hne, hl⟩
        · exact hno j z (by omega) hz
    · have hge2 := of_decide_eq_false hge2
      by_cases hjk : j = k
      · rw [hjk, hboth, hokr]
        exact ⟨hent, fun j y hj hy => hno j y (by omega) hy⟩
      · exact hok j (by omega)
  · have hge := of_decide_eq_false hge
    have : k = xs.length := by omega
    rw [check_good hl5 (fun j hj => hok j (by omega))]
end Go.Proofs.YtopjkjiobdigaaaGreatDoor

/- The reference's Same of entries; the law's Few. Condition: at most a million. -/
set_option linter.unusedVariables false
namespace Go.Proofs.YtopjkjiobdigaaaGreatDoor
open Go Vc HexM TreeM Go.Proofs

/-- The reference's 'Same'. -/
theorem same_spec {w : World} {a b : Option Addr} {n m c d : Nat} {xs ys : List Ent} (hx : Ents w a n xs) (hy : Ents w b m ys) (hn : n ≤ 1000000) : Calls Tryz.prog F_cartularyref14_Same #[.slice a n c, .slice b m d] w fun e w' => (∃ r : Bool, e = .returned (.bool r) ∧ (r = true ↔ xs = ys)) ∧ Drew w w' := by
  refine vc_cartularyref14_Same_ok (R := fun v w' => (∃ r : Bool, v = .bool r ∧ (r = true ↔ xs = ys)) ∧ Drew w w') ?_ (fun v w' ⟨⟨r, h1, h2⟩, h3⟩ => ⟨⟨r, by rw [h1], h2⟩, h3⟩)
  have hlx := hx.len
  have hly := hy.len
  refine ⟨fun h => ⟨⟨false, rfl, fun h => (by cases h), fun e => ?_⟩, .refl _⟩, fun h => ?_⟩
  · rw [← hlx, ← hly, e] at h; simp at h
  have hnm : n = m := by have h : (n : Int) = (m : Int) := by simpa using h
                         omega
  refine ⟨fun i w' => ∃ k : Nat, i = k ∧ k ≤ n ∧ xs.take k = ys.take k ∧ Drew w w', fun i _ => n - i.toNat, ⟨0, rfl, Nat.zero_le _, rfl, .refl _⟩, ?_⟩
  rintro i w4 ⟨k, rfl, hk, heq, hd⟩
  have e1 : IntKind.i64.wrap ((k : Int) + 1) = ((k + 1 : Nat) : Int) := by rw [wrap_i64 (by omega) (by omega)]; omega
  rw [e1]
  refine ⟨fun hlt w5 d5 => ?_, fun hge => ?_⟩
  · have hlt := of_decide_eq_true hlt
    have gx : xs[k]? = some (xs[k]'(by omega)) := List.getElem?_eq_getElem (by omega)
    have gy : ys[k]? = some (ys[k]'(by omega)) := List.getElem?_eq_getElem (by omega)
    generalize xs[k]'(by omega) = x at gx
    generalize ys[k]'(by omega) = y at gy
    have hd5 := hd.trans d5
    have lx : ∀ w', Drew w5 w' → ∃ ad, a = some ad ∧ (loadVar T_api_Entry (ad.add (k * 3))).run Tryz.prog w' = .ok (.agg (encE x).toArray) w' := fun w' d => (hx.reads.keep (.drew (fun _ => False) (hd5.trans d)) (by simp)).load elE gx
    have ly : ∀ w', Drew w5 w' → ∃ ad, b = some ad ∧ (loadVar T_api_Entry (ad.add (k * 3))).run Tryz.prog w' = .ok (.agg (encE y).toArray) w' := fun w' d => (hy.reads.keep (.drew (fun _ => False) (hd5.trans d)) (by simp)).load elE gy
    obtain ⟨ad, had, _⟩ := lx w5 (.refl _)
    obtain ⟨bd, hbd, _⟩ := ly w5 (.refl _)
    refine ⟨fun w' => Drew w5 w', .refl _, ⟨by omega, by omega⟩, ad, had, ⟨by omega, by omega⟩, bd, hbd, x.mode, x.name, x.id, fun w' hw' => ?_, y.mode, y.name, y.id, fun w' hw' => ?_, fun hne => ⟨⟨false, rfl, fun h => (by cases h), fun e => ?_⟩, hd5⟩, fun he => ⟨⟨k + 1, rfl, by omega, ?_, hd5⟩, by dsimp only; omega⟩⟩
    · obtain ⟨ad', h1, h2⟩ := lx w' hw'
      rw [had] at h1; cases h1
      rw [Int.toNat_natCast]; exact h2
    · obtain ⟨bd', h1, h2⟩ := ly w' hw'
      rw [hbd] at h1; cases h1
      rw [Int.toNat_natCast]; exact h2
    · rw [e, gy] at gx
      cases gx
      simp at hne
    · have hxy : x = y := by
        rw [bs_eq, bs_eq] at he
        simp only [Bool.not_eq_false', Bool.and_eq_true, beq_iff_eq, decide_eq_true_eq] at he
        obtain ⟨x1, x2, x3⟩ := x
        obtain ⟨y1, y2, y3⟩ := y
        obtain ⟨h1, h2, h3⟩ := he
        simp only at h1 h2 h3
        subst h1; subst h2; subst h3; rfl
      rw [List.take_add_one, List.take_add_one, gx, gy, heq, hxy]
  · have hge := of_decide_eq_false hge
    refine ⟨⟨true, rfl, fun _ => ?_, fun _ => rfl⟩, hd⟩
    rw [List.take_of_length_le (by omega), List.take_of_length_le (by omega)] at heq
    exact heq
/-- The law's 'Few'. -/
theorem fewE_spec {w : World} {a : Option Addr} {n c : Nat} {xs : List Ent} (hE : Ents w a n xs) (hc : n ≤ c) : Calls Tryz.prog F_cartularylaw14_Few #[.slice a n c] w fun e w' => ∃ l, e = .returned (.slice l.a l.len l.cap) ∧ OwnK encE 3 w' w.heap.size T_api_Entry l (xs.take 600) ∧ Fr (fun _ => False) w w' := by
  refine vc_cartularylaw14_Few_ok (R := fun v w' => ∃ l : Sl, v = .slice l.a l.len l.cap ∧ OwnK encE 3 w' w.heap.size T_api_Entry l (xs.take 600) ∧ Fr (fun _ => False) w w') ?_ (fun v w' ⟨l, h⟩ => ⟨l, by rw [h.1], h.2⟩)
  have hlen := hE.len
  have key : ∀ (src : Option Addr) (m c' : Nat), ReadsK encE 3 w src (xs.take 600) → (xs.take 600).length = m → ∀ w1, w1 = w.alloc (.cells #[] T_api_Entry) →
      ∃ (w2 : World) (l3 : Sl), (Builtin.append_ #[T_S_api_Entry, T_S_api_Entry] T_S_api_Entry #[.slice (some ⟨w.heap.size, 0, none⟩) 0 0, .slice src m c']).run Tryz.prog w1 = .ok (.slice l3.a l3.len l3.cap) w2 ∧ ∃ l : Sl, Value.slice l3.a l3.len l3.cap = .slice l.a l.len l.cap ∧ OwnK encE 3 w2 w.heap.size T_api_Entry l (xs.take 600) ∧ Fr (fun _ => False) w w2 := fun src m c' hr hm w1 h1 => by
    subst h1
    have hl6 : (xs.take 600).length ≤ 600 := by rw [List.length_take]; omega
    obtain ⟨w2, l3, h2, ho, hf⟩ := append_allK elE (OwnK.empty (enc := encE) (k := 3) w T_api_Entry) c' (hr.keep (.alloc (fun _ => False) _ _) (by simp)) (by simp only [List.length_nil]; unfold maxLen; omega) (by simp only [List.length_nil]; omega) (by simp) hm
    refine ⟨w2, l3, h2, l3, rfl, by simpa using ho, (Fr.alloc _ _ _).trans hf fun q hq ⟨y, hy, e⟩ => ?_⟩
    simp only [Option.some.injEq] at hy
    subst hy
    simp only at e; omega
  refine ⟨fun h => ⟨⟨by decide, ?_⟩, key _ _ _ ?_ ?_⟩, fun h => key _ _ _ (hE.reads.take 600) ?_⟩
  · have h := of_decide_eq_true h; omega
  · unfold subA
    split
    · exact hE.reads.take 600
    · have := hE.reads.take 600
      cases a with
      | none => exact this
      | some x => simpa [Addr.add] using this
  · have h := of_decide_eq_true h
    rw [List.length_take]
    show min 600 xs.length = 600
    omega
  · have h := of_decide_eq_false h
    rw [List.length_take]; omega
end Go.Proofs.YtopjkjiobdigaaaGreatDoor

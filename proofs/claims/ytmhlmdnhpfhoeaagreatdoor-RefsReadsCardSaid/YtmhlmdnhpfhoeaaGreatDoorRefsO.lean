/- Formulas of 4 Go functions of this seat (written by a program of the author's, vcgen.py), and that each is enough for the call. No condition. -/
import Derived.Test.YtmhlmdnhpfhoeaaGreatDoorTy
import Derived.Test.YtmhlmdnhpfhoeaaGreatDoorProg
set_option linter.unusedVariables false
namespace Go.Proofs.YtmhlmdnhpfhoeaaGreatDoor
open Go Vc Go.Proofs
set_option maxRecDepth 100000
/-- refs.Open -/
def vc_refs_Open (x0 : Nat) (w : World) (R : Value → World → Prop) : Prop :=
  ∀ w1 : World,
  (w1 = World.alloc w (Obj.map (Array.mk []) 0) →
    ∀ w2 : World,
    (w2 = World.alloc w1 (Obj.cells (Array.mk [Value.pointer (some (Addr.mk x0 0 none)), Value.map (some (Array.size (World.heap w)))]) 57) →
      Calls Tryz.prog (27 : Nat) (Array.mk [Value.pointer (some (Addr.mk x0 0 none)), Value.string (ByteArray.mk (Array.mk [112, 97, 99, 107, 101, 100, 45, 114, 101, 102, 115]))]) (w2) (fun e3 w4 =>
        ∃ s5 : ByteArray, ∃ n6 : Int, (e3 = Ending.returned (Value.tuple (Array.mk [Value.string s5, Value.int IntKind.i64 n6])) ∧
         ((((n6 != 0) = true →
            R (Value.tuple (Array.mk [Value.pointer (some (Addr.mk (Array.size (World.heap w1)) 0 none)), Value.int IntKind.i64 0])) w4)) ∧
          ((n6 != 0) = false →
            ∃ I7 : ByteArray → ByteArray → World → Prop, ∃ I8 : ByteArray → ByteArray → World → Nat, (I7 s5 (ByteArray.mk (Array.mk [])) w4 ∧
             ∀ s9 : ByteArray,
             ∀ s10 : ByteArray,
             ∀ w11 : World,
             (I7 s9 s10 w11 →
               ((((!ByteArray.toList s9 == ByteArray.toList (ByteArray.mk (Array.mk []))) = true →
                  Calls Tryz.prog (28 : Nat) (Array.mk [Value.string s9, Value.string (ByteArray.mk (Array.mk [10]))]) (w11) (fun e12 w13 =>
                    ∃ s14 : ByteArray, ∃ s15 : ByteArray, ∃ b16 : Bool, (e12 = Ending.returned (Value.tuple (Array.mk [Value.string s14, Value.string s15, Value.bool b16])) ∧
                     ((((!b16) = true →
                        R (Value.tuple (Array.mk [Value.pointer none, Value.int IntKind.i64 3])) w13)) ∧
                      ((!b16) = false →
                        Calls Tryz.prog (29 : Nat) (Array.mk [Value.string s14, Value.string (ByteArray.mk (Array.mk [35]))]) (w13) (fun e17 w18 =>
                          ∃ b19 : Bool, (e17 = Ending.returned (Value.bool b19) ∧
                           (((b19 = true →
                              (I7 s15 s10 w18 ∧
                               I8 s15 s10 w18 < I8 s9 s10 w11))) ∧
                            (b19 = false →
                              Calls Tryz.prog (30 : Nat) (Array.mk [Value.string s14, Value.string (ByteArray.mk (Array.mk [94]))]) (w18) (fun e20 w21 =>
                                ∃ s22 : ByteArray, ∃ b23 : Bool, (e20 = Ending.returned (Value.tuple (Array.mk [Value.string s22, Value.bool b23])) ∧
                                 (((b23 = true →
                                    ∃ p24 : Option Nat, (World.cell? w21 (Addr.mk (Array.size (World.heap w1)) 1 none) = some (Value.map p24) ∧
                                     ∃ w25 : World, ∃ s26 : ByteArray, ∃ s27 : ByteArray, ∃ b28 : Bool, (Sem.run Tryz.prog (Instr.lookup 55 (Value.map p24) (Value.string s10) true) w21 = Result.ok (Value.tuple (Array.mk [Value.agg (Array.mk [Value.string s26, Value.string s27]), Value.bool b28])) w25 ∧
                                      ∀ w29 : World,
                                      (w29 = World.alloc w25 (Obj.cells (Array.mk [Value.string (ByteArray.mk (Array.mk [])), Value.string (ByteArray.mk (Array.mk []))]) 64) →
                                        ∃ w30 : World, (Sem.run Tryz.prog (storeVar 64 (Addr.mk (Array.size (World.heap w25)) 0 none) (Value.agg (Array.mk [Value.string s26, Value.string s27]))) w29 = Result.ok PUnit.unit w30 ∧
                                         ((((!b28) = true →
                                            R (Value.tuple (Array.mk [Value.pointer none, Value.int IntKind.i64 3])) w30)) ∧
                                          ((!b28) = false →
                                            ∃ s31 : ByteArray, (World.cell? w30 (Addr.mk (Array.size (World.heap w25)) 1 none) = some (Value.string s31) ∧
                                             ((((!ByteArray.toList s31 == ByteArray.toList (ByteArray.mk (Array.mk []))) = true →
                                                R (Value.tuple (Array.mk [Value.pointer none, Value.int IntKind.i64 3])) w30)) ∧
                                              ((!ByteArray.toList s31 == ByteArray.toList (ByteArray.mk (Array.mk []))) = false →
                                                Calls Tryz.prog (31 : Nat) (Array.mk [Value.string s22]) (w30) (fun e32 w33 =>
                                                  ∃ b34 : Bool, (e32 = Ending.returned (Value.bool b34) ∧
                                                   ((((!b34) = true →
                                                      R (Value.tuple (Array.mk [Value.pointer none, Value.int IntKind.i64 3])) w33)) ∧
                                                    ((!b34) = false →
                                                      ∀ w35 : World,
                                                      (Drew w33 w35 →
                                                        ∃ p36 : Option Nat, (World.cell? w35 (Addr.mk (Array.size (World.heap w1)) 1 none) = some (Value.map p36) ∧
                                                         ∃ s37 : ByteArray, (World.cell? w35 (Addr.mk (Array.size (World.heap w25)) 0 none) = some (Value.string s37) ∧
                                                          ∃ w38 : World, (Sem.run Tryz.prog (Instr.mapUpdate 55 (Value.map p36) (Value.string s10) (Value.agg (Array.mk [Value.string s37, Value.string s22]))) w35 = Result.ok PUnit.unit w38 ∧
                                                           (I7 s15 s10 w38 ∧
                                                            I8 s15 s10 w38 < I8 s9 s10 w11)))))))))))))))))))) ∧
                                  (b23 = false →
                                    Calls Tryz.prog (28 : Nat) (Array.mk [Value.string s14, Value.string (ByteArray.mk (Array.mk [32]))]) (w21) (fun e39 w40 =>
                                      ∃ s41 : ByteArray, ∃ s42 : ByteArray, ∃ b43 : Bool, (e39 = Ending.returned (Value.tuple (Array.mk [Value.string s41, Value.string s42, Value.bool b43])) ∧
                                       ((((!b43) = true →
                                          R (Value.tuple (Array.mk [Value.pointer none, Value.int IntKind.i64 3])) w40)) ∧
                                        ((!b43) = false →
                                          Calls Tryz.prog (31 : Nat) (Array.mk [Value.string s41]) (w40) (fun e44 w45 =>
                                            ∃ b46 : Bool, (e44 = Ending.returned (Value.bool b46) ∧
                                             ((((!b46) = true →
                                                R (Value.tuple (Array.mk [Value.pointer none, Value.int IntKind.i64 3])) w45)) ∧
                                              ((!b46) = false →
                                                Calls Tryz.prog (10 : Nat) (Array.mk [Value.string s42]) (w45) (fun e47 w48 =>
                                                  ∃ b49 : Bool, (e47 = Ending.returned (Value.bool b49) ∧
                                                   ((((!b49) = true →
                                                      R (Value.tuple (Array.mk [Value.pointer none, Value.int IntKind.i64 3])) w48)) ∧
                                                    ((!b49) = false →
                                                      ((((ByteArray.toList s42 == ByteArray.toList (ByteArray.mk (Array.mk [72, 69, 65, 68]))) = true →
                                                         R (Value.tuple (Array.mk [Value.pointer none, Value.int IntKind.i64 3])) w48)) ∧
                                                       ((ByteArray.toList s42 == ByteArray.toList (ByteArray.mk (Array.mk [72, 69, 65, 68]))) = false →
                                                         ∃ p50 : Option Nat, (World.cell? w48 (Addr.mk (Array.size (World.heap w1)) 1 none) = some (Value.map p50) ∧
                                                          ∃ w51 : World, ∃ s52 : ByteArray, ∃ s53 : ByteArray, ∃ b54 : Bool, (Sem.run Tryz.prog (Instr.lookup 55 (Value.map p50) (Value.string s42) true) w48 = Result.ok (Value.tuple (Array.mk [Value.agg (Array.mk [Value.string s52, Value.string s53]), Value.bool b54])) w51 ∧
                                                           ∀ w55 : World,
                                                           (w55 = World.alloc w51 (Obj.cells (Array.mk [Value.string (ByteArray.mk (Array.mk [])), Value.string (ByteArray.mk (Array.mk []))]) 64) →
                                                             ∃ w56 : World, (Sem.run Tryz.prog (storeVar 64 (Addr.mk (Array.size (World.heap w51)) 0 none) (Value.agg (Array.mk [Value.string s52, Value.string s53]))) w55 = Result.ok PUnit.unit w56 ∧
                                                              (((b54 = true →
                                                                 R (Value.tuple (Array.mk [Value.pointer none, Value.int IntKind.i64 4])) w56)) ∧
                                                               (b54 = false →
                                                                 ∃ p57 : Option Nat, (World.cell? w56 (Addr.mk (Array.size (World.heap w1)) 1 none) = some (Value.map p57) ∧
                                                                  ∃ w58 : World, (Sem.run Tryz.prog (Instr.mapUpdate 55 (Value.map p57) (Value.string s42) (Value.agg (Array.mk [Value.string s41, Value.string (ByteArray.mk (Array.mk []))]))) w56 = Result.ok PUnit.unit w58 ∧
                                                                   ∃ p59 : Option Nat, (World.cell? w58 (Addr.mk (Array.size (World.heap w1)) 1 none) = some (Value.map p59) ∧
                                                                    ∃ w60 : World, ∃ n61 : Int, (Sem.run Tryz.prog (Builtin.len_ (Array.mk [55]) 3 (Array.mk [Value.map p59])) w58 = Result.ok (Value.int IntKind.i64 n61) w60 ∧
                                                                     (((decide (n61 > 2000) = true →
                                                                        R (Value.tuple (Array.mk [Value.pointer none, Value.int IntKind.i64 2])) w60)) ∧
                                                                      (decide (n61 > 2000) = false →
                                                                        (I7 s15 s42 w60 ∧
                                                                         I8 s15 s42 w60 < I8 s9 s10 w11))))))))))))))))))))))))))))))))))))))))) ∧
                ((!ByteArray.toList s9 == ByteArray.toList (ByteArray.mk (Array.mk []))) = false →
                  R (Value.tuple (Array.mk [Value.pointer (some (Addr.mk (Array.size (World.heap w1)) 0 none)), Value.int IntKind.i64 0])) w11))))))))))
theorem vc_refs_Open_ok {x0 : Nat} {w : World} {R : Value → World → Prop} {R' : Ending → World → Prop} (h : vc_refs_Open x0 w R) (hR : ∀ v w', R v w' → R' (.returned v) w') :
    Calls Tryz.prog 8 #[.pointer (some ⟨x0, 0, none⟩)] w R' :=
  calls_of_body (vs := [(.pointer (some ⟨x0, 0, none⟩), true)]) (ty := ty) (ann := ⟨[], [(6, [(5, .str), (7, .str)])], [(17, .tail 9)], []⟩) (c := Tryz.f8.body.getD .skip) (by kernel_rfl) Tryz.func8 (by kernel_rfl) (by kernel_rfl) (Eq.mp (by kernel_rfl) h) hR
/-- (*refs.Refs).file -/
def vc_refs_Refs_file (x0 : Nat) (x1 : ByteArray) (w : World) (R : Value → World → Prop) : Prop :=
  ∃ p1 : Option Addr, (World.cell? w (Addr.mk x0 0 none) = some (Value.pointer p1) ∧
   Calls Tryz.prog (27 : Nat) (Array.mk [Value.pointer p1, Value.string x1]) (w) (fun e2 w3 =>
     ∃ s4 : ByteArray, ∃ n5 : Int, (e2 = Ending.returned (Value.tuple (Array.mk [Value.string s4, Value.int IntKind.i64 n5])) ∧
      ((((n5 != 0) = true →
         R (Value.tuple (Array.mk [Value.string (ByteArray.mk (Array.mk [])), Value.string (ByteArray.mk (Array.mk [])), Value.int IntKind.i64 n5])) w3)) ∧
       ((n5 != 0) = false →
         Calls Tryz.prog (64 : Nat) (Array.mk [Value.string s4, Value.string (ByteArray.mk (Array.mk [10]))]) (w3) (fun e6 w7 =>
           ∃ s8 : ByteArray, ∃ b9 : Bool, (e6 = Ending.returned (Value.tuple (Array.mk [Value.string s8, Value.bool b9])) ∧
            ∃ I10 : World → Prop, (Calls Tryz.prog (31 : Nat) (Array.mk [Value.string s8]) (w7) (fun e11 w12 =>
               ∃ b13 : Bool, (e11 = Ending.returned (Value.bool b13) ∧
                (((b13 = true →
                   (((b9 = true →
                      R (Value.tuple (Array.mk [Value.string s8, Value.string (ByteArray.mk (Array.mk [])), Value.int IntKind.i64 0])) w12)) ∧
                    (b9 = false →
                      I10 w12)))) ∧
                 (b13 = false →
                   I10 w12)))) ∧
             ∀ w14 : World,
             (I10 w14 →
               Calls Tryz.prog (30 : Nat) (Array.mk [Value.string s8, Value.string (ByteArray.mk (Array.mk [114, 101, 102, 58, 32]))]) (w14) (fun e15 w16 =>
                 ∃ s17 : ByteArray, ∃ b18 : Bool, (e15 = Ending.returned (Value.tuple (Array.mk [Value.string s17, Value.bool b18])) ∧
                  ((((!b9) = true →
                     R (Value.tuple (Array.mk [Value.string (ByteArray.mk (Array.mk [])), Value.string (ByteArray.mk (Array.mk [])), Value.int IntKind.i64 3])) w16)) ∧
                   ((!b9) = false →
                     ((((!b18) = true →
                        R (Value.tuple (Array.mk [Value.string (ByteArray.mk (Array.mk [])), Value.string (ByteArray.mk (Array.mk [])), Value.int IntKind.i64 3])) w16)) ∧
                      ((!b18) = false →
                        Calls Tryz.prog (10 : Nat) (Array.mk [Value.string s17]) (w16) (fun e19 w20 =>
                          ∃ b21 : Bool, (e19 = Ending.returned (Value.bool b21) ∧
                           ((((!b21) = true →
                              R (Value.tuple (Array.mk [Value.string (ByteArray.mk (Array.mk [])), Value.string (ByteArray.mk (Array.mk [])), Value.int IntKind.i64 3])) w20)) ∧
                            ((!b21) = false →
                              R (Value.tuple (Array.mk [Value.string (ByteArray.mk (Array.mk [])), Value.string s17, Value.int IntKind.i64 0])) w20)))))))))))))))))))
theorem vc_refs_Refs_file_ok {x0 : Nat} {x1 : ByteArray} {w : World} {R : Value → World → Prop} {R' : Ending → World → Prop} (h : vc_refs_Refs_file x0 x1 w R) (hR : ∀ v w', R v w' → R' (.returned v) w') :
    Calls Tryz.prog 47 #[.pointer (some ⟨x0, 0, none⟩), .string x1] w R' :=
  calls_of_body (vs := [(.pointer (some ⟨x0, 0, none⟩), true), (.string x1, false)]) (ty := ty) (ann := ⟨[(7, [])], [], [], []⟩) (c := Tryz.f47.body.getD .skip) (by kernel_rfl) Tryz.func47 (by kernel_rfl) (by kernel_rfl) (Eq.mp (by kernel_rfl) h) hR
/-- (*refs.Refs).Lookup -/
def vc_refs_Refs_Lookup (x0 : Nat) (x1 : ByteArray) (w : World) (R : Value → World → Prop) : Prop :=
  Calls Tryz.prog (10 : Nat) (Array.mk [Value.string x1]) (w) (fun e1 w2 =>
    ∃ b3 : Bool, (e1 = Ending.returned (Value.bool b3) ∧
     ((((!b3) = true →
        R (Value.tuple (Array.mk [Value.string (ByteArray.mk (Array.mk [])), Value.int IntKind.i64 4])) w2)) ∧
      ((!b3) = false →
        ∃ I4 : ByteArray → Int → World → Prop, ∃ I5 : ByteArray → Int → World → Nat, (I4 x1 0 w2 ∧
         ∀ s6 : ByteArray,
         ∀ n7 : Int,
         ∀ w8 : World,
         (I4 s6 n7 w8 →
           Calls Tryz.prog (47 : Nat) (Array.mk [Value.pointer (some (Addr.mk x0 0 none)), Value.string s6]) (w8) (fun e9 w10 =>
             ∃ s11 : ByteArray, ∃ s12 : ByteArray, ∃ n13 : Int, (e9 = Ending.returned (Value.tuple (Array.mk [Value.string s11, Value.string s12, Value.int IntKind.i64 n13])) ∧
              ((((n13 == 7) = true →
                 ∃ p14 : Option Nat, (World.cell? w10 (Addr.mk x0 1 none) = some (Value.map p14) ∧
                  ∃ w15 : World, ∃ s16 : ByteArray, ∃ s17 : ByteArray, ∃ b18 : Bool, (Sem.run Tryz.prog (Instr.lookup 55 (Value.map p14) (Value.string s6) true) w10 = Result.ok (Value.tuple (Array.mk [Value.agg (Array.mk [Value.string s16, Value.string s17]), Value.bool b18])) w15 ∧
                   ∀ w19 : World,
                   (w19 = World.alloc w15 (Obj.cells (Array.mk [Value.string (ByteArray.mk (Array.mk [])), Value.string (ByteArray.mk (Array.mk []))]) 64) →
                     ∃ w20 : World, (Sem.run Tryz.prog (storeVar 64 (Addr.mk (Array.size (World.heap w15)) 0 none) (Value.agg (Array.mk [Value.string s16, Value.string s17]))) w19 = Result.ok PUnit.unit w20 ∧
                      (((b18 = true →
                         ∃ s21 : ByteArray, (World.cell? w20 (Addr.mk (Array.size (World.heap w15)) 0 none) = some (Value.string s21) ∧
                          R (Value.tuple (Array.mk [Value.string s21, Value.int IntKind.i64 0])) w20))) ∧
                       (b18 = false →
                         R (Value.tuple (Array.mk [Value.string (ByteArray.mk (Array.mk [])), Value.int IntKind.i64 n13])) w20)))))))) ∧
               ((n13 == 7) = false →
                 ((((n13 != 0) = true →
                    R (Value.tuple (Array.mk [Value.string s11, Value.int IntKind.i64 n13])) w10)) ∧
                  ((n13 != 0) = false →
                    ((((!ByteArray.toList s11 == ByteArray.toList (ByteArray.mk (Array.mk []))) = true →
                       R (Value.tuple (Array.mk [Value.string s11, Value.int IntKind.i64 n13])) w10)) ∧
                     ((!ByteArray.toList s11 == ByteArray.toList (ByteArray.mk (Array.mk []))) = false →
                       ((((n7 == 5) = true →
                          R (Value.tuple (Array.mk [Value.string (ByteArray.mk (Array.mk [])), Value.int IntKind.i64 9])) w10)) ∧
                        ((n7 == 5) = false →
                          (I4 s12 (IntKind.wrap IntKind.i64 (n7 + 1)) w10 ∧
                           I5 s12 (IntKind.wrap IntKind.i64 (n7 + 1)) w10 < I5 s6 n7 w8)))))))))))))))))
theorem vc_refs_Refs_Lookup_ok {x0 : Nat} {x1 : ByteArray} {w : World} {R : Value → World → Prop} {R' : Ending → World → Prop} (h : vc_refs_Refs_Lookup x0 x1 w R) (hR : ∀ v w', R v w' → R' (.returned v) w') :
    Calls Tryz.prog 15 #[.pointer (some ⟨x0, 0, none⟩), .string x1] w R' :=
  calls_of_body (vs := [(.pointer (some ⟨x0, 0, none⟩), true), (.string x1, false)]) (ty := ty) (ann := ⟨[], [(5, [(1, .str), (6, .int .i64)])], [], []⟩) (c := Tryz.f15.body.getD .skip) (by kernel_rfl) Tryz.func15 (by kernel_rfl) (by kernel_rfl) (Eq.mp (by kernel_rfl) h) hR
/-- (*refs.Refs).Peeled -/
def vc_refs_Refs_Peeled (x0 : Nat) (x1 : ByteArray) (w : World) (R : Value → World → Prop) : Prop :=
  ∃ p1 : Option Addr, (World.cell? w (Addr.mk x0 0 none) = some (Value.pointer p1) ∧
   Calls Tryz.prog (27 : Nat) (Array.mk [Value.pointer p1, Value.string x1]) (w) (fun e2 w3 =>
     ∃ s4 : ByteArray, ∃ n5 : Int, (e2 = Ending.returned (Value.tuple (Array.mk [Value.string s4, Value.int IntKind.i64 n5])) ∧
      ((((n5 == 0) = true →
         R (Value.string (ByteArray.mk (Array.mk []))) w3)) ∧
       ((n5 == 0) = false →
         ∃ p6 : Option Nat, (World.cell? w3 (Addr.mk x0 1 none) = some (Value.map p6) ∧
          ∃ w7 : World, ∃ s8 : ByteArray, ∃ s9 : ByteArray, (Sem.run Tryz.prog (Instr.lookup 55 (Value.map p6) (Value.string x1) false) w3 = Result.ok (Value.agg (Array.mk [Value.string s8, Value.string s9])) w7 ∧
           R (Value.string s9) w7)))))))
theorem vc_refs_Refs_Peeled_ok {x0 : Nat} {x1 : ByteArray} {w : World} {R : Value → World → Prop} {R' : Ending → World → Prop} (h : vc_refs_Refs_Peeled x0 x1 w R) (hR : ∀ v w', R v w' → R' (.returned v) w') :
    Calls Tryz.prog 17 #[.pointer (some ⟨x0, 0, none⟩), .string x1] w R' :=
  calls_of_body (vs := [(.pointer (some ⟨x0, 0, none⟩), true), (.string x1, false)]) (ty := ty) (ann := ⟨[], [], [], []⟩) (c := Tryz.f17.body.getD .skip) (by kernel_rfl) Tryz.func17 (by kernel_rfl) (by kernel_rfl) (Eq.mp (by kernel_rfl) h) hR
end Go.Proofs.YtmhlmdnhpfhoeaaGreatDoor

/- Formulas of 1 Go functions of this seat (written by a program of the author's, vcgen.py), and that each is enough for the call. No condition. -/
import Derived.Test.YtmhlmdnhpfhoeaaGreatDoorTy
import Derived.Test.YtmhlmdnhpfhoeaaGreatDoorProg
set_option linter.unusedVariables false
namespace Go.Proofs.YtmhlmdnhpfhoeaaGreatDoor
open Go Vc Go.Proofs
set_option maxRecDepth 100000
/-- (*refs.Refs).Names -/
def vc_refs_Refs_Names (x0 : Nat) (x1 : ByteArray) (w : World) (R : Value → World → Prop) : Prop :=
  ∃ p1 : Option Addr, (World.cell? w (Addr.mk x0 0 none) = some (Value.pointer p1) ∧
   Calls Tryz.prog (26 : Nat) (Array.mk [Value.pointer p1, Value.string (ByteArray.mk (Array.mk [114, 101, 102, 115, 47]))]) (w) (fun e2 w3 =>
     ∃ l4 : Sl, (e2 = Ending.returned (Value.slice l4.1 l4.2 l4.3) ∧
      ∃ I5 : Sl → Int → World → Prop, ∃ I6 : Sl → Int → World → Nat, (I5 (Sl.mk none 0 0) 0 w3 ∧
       ∀ l7 : Sl,
       ∀ n8 : Int,
       ∀ w9 : World,
       (I5 l7 n8 w9 →
         (((decide (n8 < (↑l4.2 : Int)) = true →
            ((0 ≤ n8 ∧
              n8 < (↑l4.2 : Int)) ∧
             ∃ a10 : Addr, (l4.1 = some a10 ∧
              ∃ s11 : ByteArray, (World.cell? w9 (Addr.add a10 (Int.toNat n8 * 1)) = some (Value.string s11) ∧
               Calls Tryz.prog (10 : Nat) (Array.mk [Value.string s11]) (w9) (fun e12 w13 =>
                 ∃ b14 : Bool, (e12 = Ending.returned (Value.bool b14) ∧
                  (((b14 = true →
                     Calls Tryz.prog (29 : Nat) (Array.mk [Value.string s11, Value.string x1]) (w13) (fun e15 w16 =>
                       ∃ b17 : Bool, (e15 = Ending.returned (Value.bool b17) ∧
                        (((b17 = true →
                           ∀ w18 : World,
                           (w18 = World.alloc w16 (Obj.cells (Array.mk [Value.string s11]) 9) →
                             ∃ w19 : World, ∃ l20 : Sl, (Sem.run Tryz.prog (Builtin.append_ (Array.mk [37, 37]) 37 (Array.mk [Value.slice l7.1 l7.2 l7.3, Value.slice (some (Addr.mk (Array.size (World.heap w16)) 0 none)) 1 1])) w18 = Result.ok (Value.slice l20.1 l20.2 l20.3) w19 ∧
                              (I5 (Sl.mk l20.1 l20.2 l20.3) (IntKind.wrap IntKind.i64 (n8 + 1)) w19 ∧
                               I6 (Sl.mk l20.1 l20.2 l20.3) (IntKind.wrap IntKind.i64 (n8 + 1)) w19 < I6 l7 n8 w9))))) ∧
                         (b17 = false →
                           (I5 (Sl.mk l7.1 l7.2 l7.3) (IntKind.wrap IntKind.i64 (n8 + 1)) w16 ∧
                            I6 (Sl.mk l7.1 l7.2 l7.3) (IntKind.wrap IntKind.i64 (n8 + 1)) w16 < I6 l7 n8 w9))))))) ∧
                   (b14 = false →
                     (I5 (Sl.mk l7.1 l7.2 l7.3) (IntKind.wrap IntKind.i64 (n8 + 1)) w13 ∧
                      I6 (Sl.mk l7.1 l7.2 l7.3) (IntKind.wrap IntKind.i64 (n8 + 1)) w13 < I6 l7 n8 w9)))))))))) ∧
          (decide (n8 < (↑l4.2 : Int)) = false →
            ∃ p21 : Option Nat, (World.cell? w9 (Addr.mk x0 1 none) = some (Value.map p21) ∧
             ∃ w22 : World, ∃ a23 : Addr, (Sem.run Tryz.prog (Instr.range 55 (Value.map p21)) w9 = Result.ok (Value.pointer (some a23)) w22 ∧
              ∃ I24 : Sl → World → Prop, ∃ I25 : Sl → World → Nat, (I24 (Sl.mk l7.1 l7.2 l7.3) w22 ∧
               ∀ l26 : Sl,
               ∀ w27 : World,
               (I24 l26 w27 →
                 ((∃ w28 : World, (Sem.run Tryz.prog (Instr.next (Value.pointer (some a23)) false 0) w27 = Result.ok (Value.tuple (Array.mk [Value.bool false])) w28 ∧
                   (((false = true →
                      ∃ w29 : World, ∃ s30 : ByteArray, ∃ v31 : Value, (Sem.run Tryz.prog (Instr.entry (Value.pointer (some a23))) w28 = Result.ok (Value.tuple (Array.mk [Value.string s30, v31])) w29 ∧
                       Calls Tryz.prog (29 : Nat) (Array.mk [Value.string s30, Value.string x1]) (w29) (fun e32 w33 =>
                         ∃ b34 : Bool, (e32 = Ending.returned (Value.bool b34) ∧
                          (((b34 = true →
                             ∀ w35 : World,
                             (w35 = World.alloc w33 (Obj.cells (Array.mk [Value.string s30]) 9) →
                               ∃ w36 : World, ∃ l37 : Sl, (Sem.run Tryz.prog (Builtin.append_ (Array.mk [37, 37]) 37 (Array.mk [Value.slice l26.1 l26.2 l26.3, Value.slice (some (Addr.mk (Array.size (World.heap w33)) 0 none)) 1 1])) w35 = Result.ok (Value.slice l37.1 l37.2 l37.3) w36 ∧
                                (I24 (Sl.mk l37.1 l37.2 l37.3) w36 ∧
                                 I25 (Sl.mk l37.1 l37.2 l37.3) w36 < I25 l26 w27))))) ∧
                           (b34 = false →
                             (I24 (Sl.mk l26.1 l26.2 l26.3) w33 ∧
                              I25 (Sl.mk l26.1 l26.2 l26.3) w33 < I25 l26 w27)))))))) ∧
                    (false = false →
                      Calls Tryz.prog (43 : Nat) (Array.mk [Value.slice l26.1 l26.2 l26.3]) (w28) (fun e38 w39 =>
                        (e38 = Ending.returned (Value.tuple (Array.mk [])) ∧
                         Calls Tryz.prog (44 : Nat) (Array.mk [Value.slice l26.1 l26.2 l26.3]) (w39) (fun e40 w41 =>
                           ∃ l42 : Sl, (e40 = Ending.returned (Value.slice l42.1 l42.2 l42.3) ∧
                            R (Value.slice l42.1 l42.2 l42.3) w41)))))))) ∨
                  (∃ w43 : World, ∃ v44 : Value, ∃ v45 : Value, (Sem.run Tryz.prog (Instr.next (Value.pointer (some a23)) false 0) w27 = Result.ok (Value.tuple (Array.mk [Value.bool true, v44, v45])) w43 ∧
                   (((true = true →
                      ∃ w46 : World, ∃ s47 : ByteArray, ∃ v48 : Value, (Sem.run Tryz.prog (Instr.entry (Value.pointer (some a23))) w43 = Result.ok (Value.tuple (Array.mk [Value.string s47, v48])) w46 ∧
                       Calls Tryz.prog (29 : Nat) (Array.mk [Value.string s47, Value.string x1]) (w46) (fun e49 w50 =>
                         ∃ b51 : Bool, (e49 = Ending.returned (Value.bool b51) ∧
                          (((b51 = true →
                             ∀ w52 : World,
                             (w52 = World.alloc w50 (Obj.cells (Array.mk [Value.string s47]) 9) →
                               ∃ w53 : World, ∃ l54 : Sl, (Sem.run Tryz.prog (Builtin.append_ (Array.mk [37, 37]) 37 (Array.mk [Value.slice l26.1 l26.2 l26.3, Value.slice (some (Addr.mk (Array.size (World.heap w50)) 0 none)) 1 1])) w52 = Result.ok (Value.slice l54.1 l54.2 l54.3) w53 ∧
                                (I24 (Sl.mk l54.1 l54.2 l54.3) w53 ∧
                                 I25 (Sl.mk l54.1 l54.2 l54.3) w53 < I25 l26 w27))))) ∧
                           (b51 = false →
                             (I24 (Sl.mk l26.1 l26.2 l26.3) w50 ∧
                              I25 (Sl.mk l26.1 l26.2 l26.3) w50 < I25 l26 w27)))))))) ∧
                    (true = false →
                      Calls Tryz.prog (43 : Nat) (Array.mk [Value.slice l26.1 l26.2 l26.3]) (w43) (fun e55 w56 =>
                        (e55 = Ending.returned (Value.tuple (Array.mk [])) ∧
                         Calls Tryz.prog (44 : Nat) (Array.mk [Value.slice l26.1 l26.2 l26.3]) (w56) (fun e57 w58 =>
                           ∃ l59 : Sl, (e57 = Ending.returned (Value.slice l59.1 l59.2 l59.3) ∧
                            R (Value.slice l59.1 l59.2 l59.3) w58))))))))))))))))))))
theorem vc_refs_Refs_Names_ok {x0 : Nat} {x1 : ByteArray} {w : World} {R : Value → World → Prop} {R' : Ending → World → Prop} (h : vc_refs_Refs_Names x0 x1 w R) (hR : ∀ v w', R v w' → R' (.returned v) w') :
    Calls Tryz.prog 13 #[.pointer (some ⟨x0, 0, none⟩), .string x1] w R' :=
  calls_of_body (vs := [(.pointer (some ⟨x0, 0, none⟩), true), (.string x1, false)]) (ty := ty) (ann := ⟨[], [(3, [(5, .slice), (15, .int .i64)]), (9, [(5, .slice)])], [], []⟩) (c := Tryz.f13.body.getD .skip) (by kernel_rfl) Tryz.func13 (by kernel_rfl) (by kernel_rfl) (Eq.mp (by kernel_rfl) h) hR
end Go.Proofs.YtmhlmdnhpfhoeaaGreatDoor

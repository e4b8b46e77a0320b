/- Formulas of 5 Go functions of this seat (written by a program of the author's, vcgen.py), and that each is enough for the call. No condition. -/
import Derived.Test.YtofejgaanpaieaaTy
import Derived.Test.YtofejgaanpaieaaProg
set_option linter.unusedVariables false
namespace Go.Proofs.Ytofejgaanpaieaa
open Go Vc Go.Proofs
set_option maxRecDepth 100000
/-- (*bitin.Writer).Bits -/
def vc_bitin_Writer_Bits (x0 : Nat) (x1 : Int) (x2 : Int) (w : World) (R : Value → World → Prop) : Prop :=
  (((decide (x2 < 0) = true →
     R (Value.tuple (Array.mk [])) w)) ∧
   (decide (x2 < 0) = false →
     (((decide (x2 > 32) = true →
        R (Value.tuple (Array.mk [])) w)) ∧
      (decide (x2 > 32) = false →
        ∀ w1 : World,
        (Drew w w1 →
          ∃ n2 : Int, (World.cell? w1 (Addr.mk x0 1 none) = some (Value.int IntKind.u64 n2) ∧
           (0 ≤ x2 ∧
            ∃ n3 : Int, (World.cell? w1 (Addr.mk x0 2 none) = some (Value.int IntKind.i64 n3) ∧
             (0 ≤ n3 ∧
              (Wr w1 (Addr.mk x0 1 none) ∧
               ∀ w4 : World,
               (w4 = World.setCell w1 (Addr.mk x0 1 none) (Value.int IntKind.u64 (IntKind.wrap IntKind.u64 (↑(BitVec.toNat (BitVec.ofInt 64 n2 ||| BitVec.ofInt 64 (IntKind.wrap IntKind.u64 (IntKind.wrap IntKind.u64 (↑(BitVec.toNat (BitVec.ofInt 64 (IntKind.wrap IntKind.u64 x1) &&& BitVec.ofInt 64 (IntKind.wrap IntKind.u64 (IntKind.wrap IntKind.u64 (1 * 2 ^ min (Int.toNat x2) 64) - 1)))) : Int) * 2 ^ min (Int.toNat n3) 64)))) : Int))) →
                 ∃ n5 : Int, (World.cell? w4 (Addr.mk x0 2 none) = some (Value.int IntKind.i64 n5) ∧
                  (Wr w4 (Addr.mk x0 2 none) ∧
                   ∀ w6 : World,
                   (w6 = World.setCell w4 (Addr.mk x0 2 none) (Value.int IntKind.i64 (IntKind.wrap IntKind.i64 (n5 + x2))) →
                     ∃ I7 : World → Prop, ∃ I8 : World → Nat, (I7 w6 ∧
                      ∀ w9 : World,
                      (I7 w9 →
                        ∃ n10 : Int, (World.cell? w9 (Addr.mk x0 2 none) = some (Value.int IntKind.i64 n10) ∧
                         (((decide (n10 ≥ 8) = true →
                            ∀ w11 : World,
                            (Drew w9 w11 →
                              ∃ I12 : World → Prop, (I12 w11 ∧
                               ∃ l13 : Sl, ((∀ w14 : World,
                                (I12 w14 →
                                  World.cell? w14 (Addr.mk x0 0 none) = some (Value.slice l13.1 l13.2 l13.3))) ∧
                                ∃ n15 : Int, ((∀ w16 : World,
                                 (I12 w16 →
                                   World.cell? w16 (Addr.mk x0 1 none) = some (Value.int IntKind.u64 n15))) ∧
                                 ∀ w17 : World,
                                 (w17 = World.alloc w11 (Obj.cells (Array.mk [Value.int IntKind.u8 (IntKind.wrap IntKind.u8 n15)]) 5) →
                                   (I12 w17 ∧
                                    ∃ w18 : World, ∃ l19 : Sl, (Sem.run Try.prog (Builtin.append_ (Array.mk [40, 40]) 40 (Array.mk [Value.slice l13.1 l13.2 l13.3, Value.slice (some (Addr.mk (Array.size (World.heap w11)) 0 none)) 1 1])) w17 = Result.ok (Value.slice l19.1 l19.2 l19.3) w18 ∧
                                     (I12 w18 ∧
                                      (Wr w18 (Addr.mk x0 0 none) ∧
                                       ∀ w20 : World,
                                       (w20 = World.setCell w18 (Addr.mk x0 0 none) (Value.slice l19.1 l19.2 l19.3) →
                                         ∃ n21 : Int, (World.cell? w20 (Addr.mk x0 1 none) = some (Value.int IntKind.u64 n21) ∧
                                          ((0 : Int) ≤ (8 : Int) ∧
                                           (Wr w20 (Addr.mk x0 1 none) ∧
                                            ∀ w22 : World,
                                            (w22 = World.setCell w20 (Addr.mk x0 1 none) (Value.int IntKind.u64 (Int.fdiv n21 (2 ^ min (Int.toNat 8) 64))) →
                                              ∃ n23 : Int, (World.cell? w22 (Addr.mk x0 2 none) = some (Value.int IntKind.i64 n23) ∧
                                               (Wr w22 (Addr.mk x0 2 none) ∧
                                                ∀ w24 : World,
                                                (w24 = World.setCell w22 (Addr.mk x0 2 none) (Value.int IntKind.i64 (IntKind.wrap IntKind.i64 (n23 - 8))) →
                                                  (I7 w24 ∧
                                                   I8 w24 < I8 w9)))))))))))))))))))) ∧
                          (decide (n10 ≥ 8) = false →
                            R (Value.tuple (Array.mk [])) w9)))))))))))))))))))
theorem vc_bitin_Writer_Bits_ok {x0 : Nat} {x1 : Int} {x2 : Int} {w : World} {R : Value → World → Prop} {R' : Ending → World → Prop} (h : vc_bitin_Writer_Bits x0 x1 x2 w R) (hR : ∀ v w', R v w' → R' (.returned v) w') :
    Calls Try.prog 41 #[.pointer (some ⟨x0, 0, none⟩), .int .u32 x1, .int .i64 x2] w R' :=
  calls_of_body (vs := [(.pointer (some ⟨x0, 0, none⟩), true), (.int .u32 x1, false), (.int .i64 x2, false)]) (ty := ty) (ann := ⟨[], [(3, [])], [(1, .tail 18), (4, .held [(0, true), (1, true), (2, true), (3, true), (4, true), (5, true), (6, true), (7, true), (8, true), (9, true), (10, false), (11, false), (12, true), (13, true), (14, false)])], []⟩) (c := Try.f41.body.getD .skip) (by kernel_rfl) Try.func41 (by kernel_rfl) (by kernel_rfl) (Eq.mp (by kernel_rfl) h) hR
/-- (*bitin.Writer).Code -/
def vc_bitin_Writer_Code (x0 : Nat) (x1 : Int) (x2 : Int) (w : World) (R : Value → World → Prop) : Prop :=
  (((decide (x2 < 1) = true →
     R (Value.tuple (Array.mk [])) w)) ∧
   (decide (x2 < 1) = false →
     (((decide (x2 > 32) = true →
        R (Value.tuple (Array.mk [])) w)) ∧
      (decide (x2 > 32) = false →
        ∃ I1 : Int → World → Prop, ∃ I2 : Int → World → Nat, (I1 (IntKind.wrap IntKind.i64 (x2 - 1)) w ∧
         ∀ n3 : Int,
         ∀ w4 : World,
         (I1 n3 w4 →
           (((decide (n3 ≥ 0) = true →
              (0 ≤ n3 ∧
               Calls Try.prog (41 : Nat) (Array.mk [Value.pointer (some (Addr.mk x0 0 none)), Value.int IntKind.u32 (Int.fdiv x1 (2 ^ min (Int.toNat n3) 32)), Value.int IntKind.i64 1]) (w4) (fun e5 w6 =>
                 (e5 = Ending.returned (Value.tuple (Array.mk [])) ∧
                  (I1 (IntKind.wrap IntKind.i64 (n3 - 1)) w6 ∧
                   I2 (IntKind.wrap IntKind.i64 (n3 - 1)) w6 < I2 n3 w4)))))) ∧
            (decide (n3 ≥ 0) = false →
              R (Value.tuple (Array.mk [])) w4))))))))
theorem vc_bitin_Writer_Code_ok {x0 : Nat} {x1 : Int} {x2 : Int} {w : World} {R : Value → World → Prop} {R' : Ending → World → Prop} (h : vc_bitin_Writer_Code x0 x1 x2 w R) (hR : ∀ v w', R v w' → R' (.returned v) w') :
    Calls Try.prog 47 #[.pointer (some ⟨x0, 0, none⟩), .int .u32 x1, .int .i64 x2] w R' :=
  calls_of_body (vs := [(.pointer (some ⟨x0, 0, none⟩), true), (.int .u32 x1, false), (.int .i64 x2, false)]) (ty := ty) (ann := ⟨[], [(2, [(6, .int .i64)])], [], []⟩) (c := Try.f47.body.getD .skip) (by kernel_rfl) Try.func47 (by kernel_rfl) (by kernel_rfl) (Eq.mp (by kernel_rfl) h) hR
/-- (*bitin.Writer).Text -/
def vc_bitin_Writer_Text (x0 : Nat) (w : World) (R : Value → World → Prop) : Prop :=
  ∃ n1 : Int, (World.cell? w (Addr.mk x0 2 none) = some (Value.int IntKind.i64 n1) ∧
   (((decide (n1 > 0) = true →
      ∀ w2 : World,
      (Drew w w2 →
        ∃ I3 : World → Prop, (I3 w2 ∧
         ∃ l4 : Sl, ((∀ w5 : World,
          (I3 w5 →
            World.cell? w5 (Addr.mk x0 0 none) = some (Value.slice l4.1 l4.2 l4.3))) ∧
          ∃ n6 : Int, ((∀ w7 : World,
           (I3 w7 →
             World.cell? w7 (Addr.mk x0 1 none) = some (Value.int IntKind.u64 n6))) ∧
           ∃ s8 : ByteArray, ((∀ w9 : World,
            (I3 w9 →
              Sem.run Try.prog (convert 40 9 (Value.slice l4.1 l4.2 l4.3)) w9 = Result.ok (Value.string s8) w9)) ∧
            ∀ w10 : World,
            (w10 = World.alloc w2 (Obj.cells (Array.mk [Value.int IntKind.u8 (IntKind.wrap IntKind.u8 n6)]) 5) →
              (I3 w10 ∧
               ∃ w11 : World, ∃ s12 : ByteArray, (Sem.run Try.prog (convert 40 9 (Value.slice (some (Addr.mk (Array.size (World.heap w2)) 0 none)) 1 1)) w10 = Result.ok (Value.string s12) w11 ∧
                (I3 w11 ∧
                 (ByteArray.size s8 + ByteArray.size s12 ≤ 9223372036854775807 ∧
                  R (Value.string (s8 ++ s12)) w11)))))))))))) ∧
    (decide (n1 > 0) = false →
      ∃ l13 : Sl, (World.cell? w (Addr.mk x0 0 none) = some (Value.slice l13.1 l13.2 l13.3) ∧
       ∃ w14 : World, ∃ s15 : ByteArray, (Sem.run Try.prog (convert 40 9 (Value.slice l13.1 l13.2 l13.3)) w = Result.ok (Value.string s15) w14 ∧
        R (Value.string s15) w14)))))
theorem vc_bitin_Writer_Text_ok {x0 : Nat} {w : World} {R : Value → World → Prop} {R' : Ending → World → Prop} (h : vc_bitin_Writer_Text x0 w R) (hR : ∀ v w', R v w' → R' (.returned v) w') :
    Calls Try.prog 44 #[.pointer (some ⟨x0, 0, none⟩)] w R' :=
  calls_of_body (vs := [(.pointer (some ⟨x0, 0, none⟩), true)]) (ty := ty) (ann := ⟨[], [], [(2, .held [(0, true), (1, true), (2, true), (3, true), (5, true), (6, true), (7, true), (8, true), (9, true), (4, true), (10, false), (11, false), (12, true), (13, true)])], []⟩) (c := Try.f44.body.getD .skip) (by kernel_rfl) Try.func44 (by kernel_rfl) (by kernel_rfl) (Eq.mp (by kernel_rfl) h) hR
/-- (*bitin.Writer).Align -/
def vc_bitin_Writer_Align (x0 : Nat) (w : World) (R : Value → World → Prop) : Prop :=
  ∃ n1 : Int, (World.cell? w (Addr.mk x0 2 none) = some (Value.int IntKind.i64 n1) ∧
   (((decide (n1 > 0) = true →
      ∃ n2 : Int, (World.cell? w (Addr.mk x0 2 none) = some (Value.int IntKind.i64 n2) ∧
       Calls Try.prog (41 : Nat) (Array.mk [Value.pointer (some (Addr.mk x0 0 none)), Value.int IntKind.u32 0, Value.int IntKind.i64 (IntKind.wrap IntKind.i64 (8 - n2))]) (w) (fun e3 w4 =>
         (e3 = Ending.returned (Value.tuple (Array.mk [])) ∧
          R (Value.tuple (Array.mk [])) w4))))) ∧
    (decide (n1 > 0) = false →
      R (Value.tuple (Array.mk [])) w)))
theorem vc_bitin_Writer_Align_ok {x0 : Nat} {w : World} {R : Value → World → Prop} {R' : Ending → World → Prop} (h : vc_bitin_Writer_Align x0 w R) (hR : ∀ v w', R v w' → R' (.returned v) w') :
    Calls Try.prog 68 #[.pointer (some ⟨x0, 0, none⟩)] w R' :=
  calls_of_body (vs := [(.pointer (some ⟨x0, 0, none⟩), true)]) (ty := ty) (ann := ⟨[], [], [], []⟩) (c := Try.f68.body.getD .skip) (by kernel_rfl) Try.func68 (by kernel_rfl) (by kernel_rfl) (Eq.mp (by kernel_rfl) h) hR
/-- (*bitin.Writer).Bytes -/
def vc_bitin_Writer_Bytes (x0 : Nat) (x1 : ByteArray) (w : World) (R : Value → World → Prop) : Prop :=
  Calls Try.prog (68 : Nat) (Array.mk [Value.pointer (some (Addr.mk x0 0 none))]) (w) (fun e1 w2 =>
    (e1 = Ending.returned (Value.tuple (Array.mk [])) ∧
     ∃ l3 : Sl, (World.cell? w2 (Addr.mk x0 0 none) = some (Value.slice l3.1 l3.2 l3.3) ∧
      ∃ w4 : World, ∃ l5 : Sl, (Sem.run Try.prog (Builtin.append_ (Array.mk [40, 9]) 40 (Array.mk [Value.slice l3.1 l3.2 l3.3, Value.string x1])) w2 = Result.ok (Value.slice l5.1 l5.2 l5.3) w4 ∧
       (Wr w4 (Addr.mk x0 0 none) ∧
        ∀ w6 : World,
        (w6 = World.setCell w4 (Addr.mk x0 0 none) (Value.slice l5.1 l5.2 l5.3) →
          R (Value.tuple (Array.mk [])) w6))))))
theorem vc_bitin_Writer_Bytes_ok {x0 : Nat} {x1 : ByteArray} {w : World} {R : Value → World → Prop} {R' : Ending → World → Prop} (h : vc_bitin_Writer_Bytes x0 x1 w R) (hR : ∀ v w', R v w' → R' (.returned v) w') :
    Calls Try.prog 42 #[.pointer (some ⟨x0, 0, none⟩), .string x1] w R' :=
  calls_of_body (vs := [(.pointer (some ⟨x0, 0, none⟩), true), (.string x1, false)]) (ty := ty) (ann := ⟨[], [], [], []⟩) (c := Try.f42.body.getD .skip) (by kernel_rfl) Try.func42 (by kernel_rfl) (by kernel_rfl) (Eq.mp (by kernel_rfl) h) hR
end Go.Proofs.Ytofejgaanpaieaa

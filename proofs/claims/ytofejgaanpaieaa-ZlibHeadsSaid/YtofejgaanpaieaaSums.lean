/- Formulas of 6 Go functions of this seat (written by a program of the author's, vcgen.py), and that each is enough for the call. No condition. -/
import Derived.Test.YtofejgaanpaieaaTy
import Derived.Test.YtofejgaanpaieaaProg
set_option linter.unusedVariables false
namespace Go.Proofs.Ytofejgaanpaieaa
open Go Vc Go.Proofs
set_option maxRecDepth 100000
/-- sums.Big -/
def vc_sums_Big (x0 : Int) (x1 : Int) (w : World) (R : Value → World → Prop) : Prop :=
  ∃ I1 : Sl → Int → World → Prop, ∃ I2 : Sl → Int → World → Nat, (I1 (Sl.mk none 0 0) 0 w ∧
   ∀ l3 : Sl,
   ∀ n4 : Int,
   ∀ w5 : World,
   (I1 l3 n4 w5 →
     ((((decide (n4 < if 0 > x1 then 0 else x1) = true) →
        (((decide (IntKind.wrap IntKind.i64 (x1 - n4) > 8) = true →
           ∀ w6 : World,
           (w6 = World.alloc w5 (Obj.cells (Array.mk [Value.int IntKind.u8 0]) 5) →
             ∃ w7 : World, ∃ l8 : Sl, (Sem.run Try.prog (Builtin.append_ (Array.mk [40, 40]) 40 (Array.mk [Value.slice l3.1 l3.2 l3.3, Value.slice (some (Addr.mk (Array.size (World.heap w5)) 0 none)) 1 1])) w6 = Result.ok (Value.slice l8.1 l8.2 l8.3) w7 ∧
              (I1 (Sl.mk l8.1 l8.2 l8.3) (IntKind.wrap IntKind.i64 (n4 + 1)) w7 ∧
               I2 (Sl.mk l8.1 l8.2 l8.3) (IntKind.wrap IntKind.i64 (n4 + 1)) w7 < I2 l3 n4 w5))))) ∧
         (decide (IntKind.wrap IntKind.i64 (x1 - n4) > 8) = false →
           (0 ≤ IntKind.wrap IntKind.i64 (8 * IntKind.wrap IntKind.i64 (IntKind.wrap IntKind.i64 (x1 - 1) - n4)) ∧
            ∀ w9 : World,
            (w9 = World.alloc w5 (Obj.cells (Array.mk [Value.int IntKind.u8 (IntKind.wrap IntKind.u8 (Int.fdiv x0 (2 ^ min (Int.toNat (IntKind.wrap IntKind.i64 (8 * IntKind.wrap IntKind.i64 (IntKind.wrap IntKind.i64 (x1 - 1) - n4)))) 64)))]) 5) →
              ∃ w10 : World, ∃ l11 : Sl, (Sem.run Try.prog (Builtin.append_ (Array.mk [40, 40]) 40 (Array.mk [Value.slice l3.1 l3.2 l3.3, Value.slice (some (Addr.mk (Array.size (World.heap w5)) 0 none)) 1 1])) w9 = Result.ok (Value.slice l11.1 l11.2 l11.3) w10 ∧
               (I1 (Sl.mk l11.1 l11.2 l11.3) (IntKind.wrap IntKind.i64 (n4 + 1)) w10 ∧
                I2 (Sl.mk l11.1 l11.2 l11.3) (IntKind.wrap IntKind.i64 (n4 + 1)) w10 < I2 l3 n4 w5)))))))) ∧
      ((decide (n4 < if 0 > x1 then 0 else x1) = false) →
        ∃ w12 : World, ∃ s13 : ByteArray, (Sem.run Try.prog (convert 40 9 (Value.slice l3.1 l3.2 l3.3)) w5 = Result.ok (Value.string s13) w12 ∧
         R (Value.string s13) w12)))))
theorem vc_sums_Big_ok {x0 : Int} {x1 : Int} {w : World} {R : Value → World → Prop} {R' : Ending → World → Prop} (h : vc_sums_Big x0 x1 w R) (hR : ∀ v w', R v w' → R' (.returned v) w') :
    Calls Try.prog 70 #[.int .u64 x0, .int .i64 x1] w R' :=
  calls_of_body (vs := [(.int .u64 x0, false), (.int .i64 x1, false)]) (ty := ty) (ann := ⟨[], [(3, [(5, .slice), (9, .int .i64)])], [], []⟩) (c := Try.f70.body.getD .skip) (by kernel_rfl) Try.func70 (by kernel_rfl) (by kernel_rfl) (Eq.mp (by kernel_rfl) h) hR
/-- sums.Little -/
def vc_sums_Little (x0 : Int) (x1 : Int) (w : World) (R : Value → World → Prop) : Prop :=
  ∃ I1 : Sl → Int → World → Prop, ∃ I2 : Sl → Int → World → Nat, (I1 (Sl.mk none 0 0) 0 w ∧
   ∀ l3 : Sl,
   ∀ n4 : Int,
   ∀ w5 : World,
   (I1 l3 n4 w5 →
     ((((decide (n4 < if 0 > x1 then 0 else x1) = true) →
        (((decide (n4 ≥ 8) = true →
           ∀ w6 : World,
           (w6 = World.alloc w5 (Obj.cells (Array.mk [Value.int IntKind.u8 0]) 5) →
             ∃ w7 : World, ∃ l8 : Sl, (Sem.run Try.prog (Builtin.append_ (Array.mk [40, 40]) 40 (Array.mk [Value.slice l3.1 l3.2 l3.3, Value.slice (some (Addr.mk (Array.size (World.heap w5)) 0 none)) 1 1])) w6 = Result.ok (Value.slice l8.1 l8.2 l8.3) w7 ∧
              (I1 (Sl.mk l8.1 l8.2 l8.3) (IntKind.wrap IntKind.i64 (n4 + 1)) w7 ∧
               I2 (Sl.mk l8.1 l8.2 l8.3) (IntKind.wrap IntKind.i64 (n4 + 1)) w7 < I2 l3 n4 w5))))) ∧
         (decide (n4 ≥ 8) = false →
           (0 ≤ IntKind.wrap IntKind.i64 (8 * n4) ∧
            ∀ w9 : World,
            (w9 = World.alloc w5 (Obj.cells (Array.mk [Value.int IntKind.u8 (IntKind.wrap IntKind.u8 (Int.fdiv x0 (2 ^ min (Int.toNat (IntKind.wrap IntKind.i64 (8 * n4))) 64)))]) 5) →
              ∃ w10 : World, ∃ l11 : Sl, (Sem.run Try.prog (Builtin.append_ (Array.mk [40, 40]) 40 (Array.mk [Value.slice l3.1 l3.2 l3.3, Value.slice (some (Addr.mk (Array.size (World.heap w5)) 0 none)) 1 1])) w9 = Result.ok (Value.slice l11.1 l11.2 l11.3) w10 ∧
               (I1 (Sl.mk l11.1 l11.2 l11.3) (IntKind.wrap IntKind.i64 (n4 + 1)) w10 ∧
                I2 (Sl.mk l11.1 l11.2 l11.3) (IntKind.wrap IntKind.i64 (n4 + 1)) w10 < I2 l3 n4 w5)))))))) ∧
      ((decide (n4 < if 0 > x1 then 0 else x1) = false) →
        ∃ w12 : World, ∃ s13 : ByteArray, (Sem.run Try.prog (convert 40 9 (Value.slice l3.1 l3.2 l3.3)) w5 = Result.ok (Value.string s13) w12 ∧
         R (Value.string s13) w12)))))
theorem vc_sums_Little_ok {x0 : Int} {x1 : Int} {w : World} {R : Value → World → Prop} {R' : Ending → World → Prop} (h : vc_sums_Little x0 x1 w R) (hR : ∀ v w', R v w' → R' (.returned v) w') :
    Calls Try.prog 43 #[.int .u64 x0, .int .i64 x1] w R' :=
  calls_of_body (vs := [(.int .u64 x0, false), (.int .i64 x1, false)]) (ty := ty) (ann := ⟨[], [(3, [(5, .slice), (9, .int .i64)])], [], []⟩) (c := Try.f43.body.getD .skip) (by kernel_rfl) Try.func43 (by kernel_rfl) (by kernel_rfl) (Eq.mp (by kernel_rfl) h) hR
/-- sums.FromBig -/
def vc_sums_FromBig (x0 : ByteArray) (w : World) (R : Value → World → Prop) : Prop :=
  ∃ I1 : Int → Int → World → Prop, ∃ I2 : Int → Int → World → Nat, (I1 0 0 w ∧
   ∀ n3 : Int,
   ∀ n4 : Int,
   ∀ w5 : World,
   (I1 n3 n4 w5 →
     (((decide (n4 < (↑(ByteArray.size x0) : Int)) = true →
        ((0 : Int) ≤ (8 : Int) ∧
         ((0 ≤ n4 ∧
           n4 < (↑(ByteArray.size x0) : Int)) ∧
          (I1 (IntKind.wrap IntKind.u64 (↑(BitVec.toNat (BitVec.ofInt 64 (IntKind.wrap IntKind.u64 (n3 * 2 ^ min (Int.toNat 8) 64)) ||| BitVec.ofInt 64 (IntKind.wrap IntKind.u64 (byteAt x0 n4)))) : Int)) (IntKind.wrap IntKind.i64 (n4 + 1)) w5 ∧
           I2 (IntKind.wrap IntKind.u64 (↑(BitVec.toNat (BitVec.ofInt 64 (IntKind.wrap IntKind.u64 (n3 * 2 ^ min (Int.toNat 8) 64)) ||| BitVec.ofInt 64 (IntKind.wrap IntKind.u64 (byteAt x0 n4)))) : Int)) (IntKind.wrap IntKind.i64 (n4 + 1)) w5 < I2 n3 n4 w5))))) ∧
      (decide (n4 < (↑(ByteArray.size x0) : Int)) = false →
        R (Value.int IntKind.u64 n3) w5))))
theorem vc_sums_FromBig_ok {x0 : ByteArray} {w : World} {R : Value → World → Prop} {R' : Ending → World → Prop} (h : vc_sums_FromBig x0 w R) (hR : ∀ v w', R v w' → R' (.returned v) w') :
    Calls Try.prog 37 #[.string x0] w R' :=
  calls_of_body (vs := [(.string x0, false)]) (ty := ty) (ann := ⟨[], [(3, [(3, .int .u64), (7, .int .i64)])], [], []⟩) (c := Try.f37.body.getD .skip) (by kernel_rfl) Try.func37 (by kernel_rfl) (by kernel_rfl) (Eq.mp (by kernel_rfl) h) hR
/-- (*sums.Adler).Write -/
def vc_sums_Adler_Write (x0 : Nat) (x1 : ByteArray) (w : World) (R : Value → World → Prop) : Prop :=
  ∃ I1 : Int → World → Prop, ∃ I2 : Int → World → Nat, (I1 0 w ∧
   ∀ n3 : Int,
   ∀ w4 : World,
   (I1 n3 w4 →
     (((decide (n3 < (↑(ByteArray.size x1) : Int)) = true →
        ∀ w5 : World,
        (Drew w4 w5 →
          ∃ n6 : Int, (World.cell? w5 (Addr.mk x0 0 none) = some (Value.int IntKind.u32 n6) ∧
           ((0 ≤ n3 ∧
             n3 < (↑(ByteArray.size x1) : Int)) ∧
            ((65521 : Int) ≠ (0 : Int) ∧
             (Wr w5 (Addr.mk x0 0 none) ∧
              ∀ w7 : World,
              (w7 = World.setCell w5 (Addr.mk x0 0 none) (Value.int IntKind.u32 (Int.tmod (IntKind.wrap IntKind.u32 (n6 + IntKind.wrap IntKind.u32 (byteAt x1 n3))) 65521)) →
                ∀ w8 : World,
                (Drew w7 w8 →
                  ∃ n9 : Int, (World.cell? w8 (Addr.mk x0 1 none) = some (Value.int IntKind.u32 n9) ∧
                   ∃ n10 : Int, (World.cell? w8 (Addr.mk x0 0 none) = some (Value.int IntKind.u32 n10) ∧
                    ((65521 : Int) ≠ (0 : Int) ∧
                     (Wr w8 (Addr.mk x0 1 none) ∧
                      ∀ w11 : World,
                      (w11 = World.setCell w8 (Addr.mk x0 1 none) (Value.int IntKind.u32 (Int.tmod (IntKind.wrap IntKind.u32 (IntKind.wrap IntKind.u32 (n9 + n10) + 1)) 65521)) →
                        (I1 (IntKind.wrap IntKind.i64 (n3 + 1)) w11 ∧
                         I2 (IntKind.wrap IntKind.i64 (n3 + 1)) w11 < I2 n3 w4))))))))))))))) ∧
      (decide (n3 < (↑(ByteArray.size x1) : Int)) = false →
        R (Value.tuple (Array.mk [])) w4))))
theorem vc_sums_Adler_Write_ok {x0 : Nat} {x1 : ByteArray} {w : World} {R : Value → World → Prop} {R' : Ending → World → Prop} (h : vc_sums_Adler_Write x0 x1 w R) (hR : ∀ v w', R v w' → R' (.returned v) w') :
    Calls Try.prog 64 #[.pointer (some ⟨x0, 0, none⟩), .string x1] w R' :=
  calls_of_body (vs := [(.pointer (some ⟨x0, 0, none⟩), true), (.string x1, false)]) (ty := ty) (ann := ⟨[], [(1, [(7, .int .i64)])], [(3, .tail 13), (4, .tail 14)], []⟩) (c := Try.f64.body.getD .skip) (by kernel_rfl) Try.func64 (by kernel_rfl) (by kernel_rfl) (Eq.mp (by kernel_rfl) h) hR
/-- (*sums.Adler).Sum -/
def vc_sums_Adler_Sum (x0 : Nat) (w : World) (R : Value → World → Prop) : Prop :=
  ∃ n1 : Int, (World.cell? w (Addr.mk x0 1 none) = some (Value.int IntKind.u32 n1) ∧
   ((0 : Int) ≤ (16 : Int) ∧
    ∃ n2 : Int, (World.cell? w (Addr.mk x0 0 none) = some (Value.int IntKind.u32 n2) ∧
     ((65521 : Int) ≠ (0 : Int) ∧
      ∀ w3 : World,
      (Drew w w3 →
        R (Value.int IntKind.u32 (IntKind.wrap IntKind.u32 (↑(BitVec.toNat (BitVec.ofInt 32 (IntKind.wrap IntKind.u32 (n1 * 2 ^ min (Int.toNat 16) 32)) ||| BitVec.ofInt 32 (Int.tmod (IntKind.wrap IntKind.u32 (n2 + 1)) 65521))) : Int))) w3)))))
theorem vc_sums_Adler_Sum_ok {x0 : Nat} {w : World} {R : Value → World → Prop} {R' : Ending → World → Prop} (h : vc_sums_Adler_Sum x0 w R) (hR : ∀ v w', R v w' → R' (.returned v) w') :
    Calls Try.prog 65 #[.pointer (some ⟨x0, 0, none⟩)] w R' :=
  calls_of_body (vs := [(.pointer (some ⟨x0, 0, none⟩), true)]) (ty := ty) (ann := ⟨[], [], [(1, .quiet)], []⟩) (c := Try.f65.body.getD .skip) (by kernel_rfl) Try.func65 (by kernel_rfl) (by kernel_rfl) (Eq.mp (by kernel_rfl) h) hR
/-- sums.Adler32 -/
def vc_sums_Adler32 (x0 : ByteArray) (w : World) (R : Value → World → Prop) : Prop :=
  ∀ w1 : World,
  (w1 = World.alloc w (Obj.cells (Array.mk [Value.int IntKind.u32 0, Value.int IntKind.u32 0]) 101) →
    Calls Try.prog (64 : Nat) (Array.mk [Value.pointer (some (Addr.mk (Array.size (World.heap w)) 0 none)), Value.string x0]) (w1) (fun e2 w3 =>
      (e2 = Ending.returned (Value.tuple (Array.mk [])) ∧
       Calls Try.prog (65 : Nat) (Array.mk [Value.pointer (some (Addr.mk (Array.size (World.heap w)) 0 none))]) (w3) (fun e4 w5 =>
         ∃ n6 : Int, (e4 = Ending.returned (Value.int IntKind.u32 n6) ∧
          R (Value.int IntKind.u32 n6) w5)))))
theorem vc_sums_Adler32_ok {x0 : ByteArray} {w : World} {R : Value → World → Prop} {R' : Ending → World → Prop} (h : vc_sums_Adler32 x0 w R) (hR : ∀ v w', R v w' → R' (.returned v) w') :
    Calls Try.prog 38 #[.string x0] w R' :=
  calls_of_body (vs := [(.string x0, false)]) (ty := ty) (ann := ⟨[], [], [], []⟩) (c := Try.f38.body.getD .skip) (by kernel_rfl) Try.func38 (by kernel_rfl) (by kernel_rfl) (Eq.mp (by kernel_rfl) h) hR
end Go.Proofs.Ytofejgaanpaieaa

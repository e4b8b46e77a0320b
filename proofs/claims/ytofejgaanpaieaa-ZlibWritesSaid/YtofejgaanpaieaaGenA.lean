/- Formulas of 16 Go functions of this seat (written by a program of the author's, vcgen.py), and that each is enough for the call. No condition. -/
import Derived.Test.YtofejgaanpaieaaTy
import Derived.Test.YtofejgaanpaieaaProg
set_option linter.unusedVariables false
namespace Go.Proofs.Ytofejgaanpaieaa
open Go Vc Go.Proofs
set_option maxRecDepth 100000
/-- sums.Big -/
def vc_sums_Big (x0 : Int) (x1 : Int) (w : World) (R : Value → World → Prop) : Prop :=
  ∃ I1 : Sl → Int → World → Prop, ∃ I2 : Sl → Int → World → Nat, (I1 (Sl.mk none 0 0) 0 w ∧
   ∀ l3 : Sl,
   ∀ n4 : Int,
   ∀ w5 : World,
   (I1 l3 n4 w5 →
     ((((decide (n4 < if 0 > x1 then 0 else x1) = true) →
        (((decide (IntKind.wrap IntKind.i64 (x1 - n4) > 8) = true →
           ∀ w6 : World,
           (w6 = World.alloc w5 (Obj.cells (Array.mk [Value.int IntKind.u8 0]) 5) →
             ∃ w7 : World, ∃ l8 : Sl, (Sem.run Try.prog (Builtin.append_ (Array.mk [40, 40]) 40 (Array.mk [Value.slice l3.1 l3.2 l3.3, Value.slice (some (Addr.mk (Array.size (World.heap w5)) 0 none)) 1 1])) w6 = Result.ok (Value.slice l8.1 l8.2 l8.3) w7 ∧
              (I1 (Sl.mk l8.1 l8.2 l8.3) (IntKind.wrap IntKind.i64 (n4 + 1)) w7 ∧
               I2 (Sl.mk l8.1 l8.2 l8.3) (IntKind.wrap IntKind.i64 (n4 + 1)) w7 < I2 l3 n4 w5))))) ∧
         (decide (IntKind.wrap IntKind.i64 (x1 - n4) > 8) = false →
           (0 ≤ IntKind.wrap IntKind.i64 (8 * IntKind.wrap IntKind.i64 (IntKind.wrap IntKind.i64 (x1 - 1) - n4)) ∧
            ∀ w9 : World,
            (w9 = World.alloc w5 (Obj.cells (Array.mk [Value.int IntKind.u8 (IntKind.wrap IntKind.u8 (Int.fdiv x0 (2 ^ min (Int.toNat (IntKind.wrap IntKind.i64 (8 * IntKind.wrap IntKind.i64 (IntKind.wrap IntKind.i64 (x1 - 1) - n4)))) 64)))]) 5) →
              ∃ w10 : World, ∃ l11 : Sl, (Sem.run Try.prog (Builtin.append_ (Array.mk [40, 40]) 40 (Array.mk [Value.slice l3.1 l3.2 l3.3, Value.slice (some (Addr.mk (Array.size (World.heap w5)) 0 none)) 1 1])) w9 = Result.ok (Value.slice l11.1 l11.2 l11.3) w10 ∧
               (I1 (Sl.mk l11.1 l11.2 l11.3) (IntKind.wrap IntKind.i64 (n4 + 1)) w10 ∧
                I2 (Sl.mk l11.1 l11.2 l11.3) (IntKind.wrap IntKind.i64 (n4 + 1)) w10 < I2 l3 n4 w5)))))))) ∧
      ((decide (n4 < if 0 > x1 then 0 else x1) = false) →
        ∃ w12 : World, ∃ s13 : ByteArray, (Sem.run Try.prog (convert 40 9 (Value.slice l3.1 l3.2 l3.3)) w5 = Result.ok (Value.string s13) w12 ∧
         R (Value.string s13) w12)))))
theorem vc_sums_Big_ok {x0 : Int} {x1 : Int} {w : World} {R : Value → World → Prop} {R' : Ending → World → Prop} (h : vc_sums_Big x0 x1 w R) (hR : ∀ v w', R v w' → R' (.returned v) w') :
    Calls Try.prog 70 #[.int .u64 x0, .int .i64 x1] w R' :=
  calls_of_body (vs := [(.int .u64 x0, false), (.int .i64 x1, false)]) (ty := ty) (ann := ⟨[], [(3, [(5, .slice), (9, .int .i64)])], [], []⟩) (c := Try.f70.body.getD .skip) (by kernel_rfl) Try.func70 (by kernel_rfl) (by kernel_rfl) (Eq.mp (by kernel_rfl) h) hR
/-- sums.Little -/
def vc_sums_Little (x0 : Int) (x1 : Int) (w : World) (R : Value → World → Prop) : Prop :=
  ∃ I1 : Sl → Int → World → Prop, ∃ I2 : Sl → Int → World → Nat, (I1 (Sl.mk none 0 0) 0 w ∧
   ∀ l3 : Sl,
   ∀ n4 : Int,
   ∀ w5 : World,
   (I1 l3 n4 w5 →
     ((((decide (n4 < if 0 > x1 then 0 else x1) = true) →
        (((decide (n4 ≥ 8) = true →
           ∀ w6 : World,
           (w6 = World.alloc w5 (Obj.cells (Array.mk [Value.int IntKind.u8 0]) 5) →
             ∃ w7 : World, ∃ l8 : Sl, (Sem.run Try.prog (Builtin.append_ (Array.mk [40, 40]) 40 (Array.mk [Value.slice l3.1 l3.2 l3.3, Value.slice (some (Addr.mk (Array.size (World.heap w5)) 0 none)) 1 1])) w6 = Result.ok (Value.slice l8.1 l8.2 l8.3) w7 ∧
              (I1 (Sl.mk l8.1 l8.2 l8.3) (IntKind.wrap IntKind.i64 (n4 + 1)) w7 ∧
               I2 (Sl.mk l8.1 l8.2 l8.3) (IntKind.wrap IntKind.i64 (n4 + 1)) w7 < I2 l3 n4 w5))))) ∧
         (decide (n4 ≥ 8) = false →
           (0 ≤ IntKind.wrap IntKind.i64 (8 * n4) ∧
            ∀ w9 : World,
            (w9 = World.alloc w5 (Obj.cells (Array.mk [Value.int IntKind.u8 (IntKind.wrap IntKind.u8 (Int.fdiv x0 (2 ^ min (Int.toNat (IntKind.wrap IntKind.i64 (8 * n4))) 64)))]) 5) →
              ∃ w10 : World, ∃ l11 : Sl, (Sem.run Try.prog (Builtin.append_ (Array.mk [40, 40]) 40 (Array.mk [Value.slice l3.1 l3.2 l3.3, Value.slice (some (Addr.mk (Array.size (World.heap w5)) 0 none)) 1 1])) w9 = Result.ok (Value.slice l11.1 l11.2 l11.3) w10 ∧
               (I1 (Sl.mk l11.1 l11.2 l11.3) (IntKind.wrap IntKind.i64 (n4 + 1)) w10 ∧
                I2 (Sl.mk l11.1 l11.2 l11.3) (IntKind.wrap IntKind.i64 (n4 + 1)) w10 < I2 l3 n4 w5)))))))) ∧
      ((decide (n4 < if 0 > x1 then 0 else x1) = false) →
        ∃ w12 : World, ∃ s13 : ByteArray, (Sem.run Try.prog (convert 40 9 (Value.slice l3.1 l3.2 l3.3)) w5 = Result.ok (Value.string s13) w12 ∧
         R (Value.string s13) w12)))))
theorem vc_sums_Little_ok {x0 : Int} {x1 : Int} {w : World} {R : Value → World → Prop} {R' : Ending → World → Prop} (h : vc_sums_Little x0 x1 w R) (hR : ∀ v w', R v w' → R' (.returned v) w') :
    Calls Try.prog 43 #[.int .u64 x0, .int .i64 x1] w R' :=
  calls_of_body (vs := [(.int .u64 x0, false), (.int .i64 x1, false)]) (ty := ty) (ann := ⟨[], [(3, [(5, .slice), (9, .int .i64)])], [], []⟩) (c := Try.f43.body.getD .skip) (by kernel_rfl) Try.func43 (by kernel_rfl) (by kernel_rfl) (Eq.mp (by kernel_rfl) h) hR
/-- sums.FromBig -/
def vc_sums_FromBig (x0 : ByteArray) (w : World) (R : Value → World → Prop) : Prop :=
  ∃ I1 : Int → Int → World → Prop, ∃ I2 : Int → Int → World → Nat, (I1 0 0 w ∧
   ∀ n3 : Int,
   ∀ n4 : Int,
   ∀ w5 : World,
   (I1 n3 n4 w5 →
     (((decide (n4 < (↑(ByteArray.size x0) : Int)) = true →
        ((0 : Int) ≤ (8 : Int) ∧
         ((0 ≤ n4 ∧
           n4 < (↑(ByteArray.size x0) : Int)) ∧
          (I1 (IntKind.wrap IntKind.u64 (↑(BitVec.toNat (BitVec.ofInt 64 (IntKind.wrap IntKind.u64 (n3 * 2 ^ min (Int.toNat 8) 64)) ||| BitVec.ofInt 64 (IntKind.wrap IntKind.u64 (byteAt x0 n4)))) : Int)) (IntKind.wrap IntKind.i64 (n4 + 1)) w5 ∧
           I2 (IntKind.wrap IntKind.u64 (↑(BitVec.toNat (BitVec.ofInt 64 (IntKind.wrap IntKind.u64 (n3 * 2 ^ min (Int.toNat 8) 64)) ||| BitVec.ofInt 64 (IntKind.wrap IntKind.u64 (byteAt x0 n4)))) : Int)) (IntKind.wrap IntKind.i64 (n4 + 1)) w5 < I2 n3 n4 w5))))) ∧
      (decide (n4 < (↑(ByteArray.size x0) : Int)) = false →
        R (Value.int IntKind.u64 n3) w5))))
theorem vc_sums_FromBig_ok {x0 : ByteArray} {w : World} {R : Value → World → Prop} {R' : Ending → World → Prop} (h : vc_sums_FromBig x0 w R) (hR : ∀ v w', R v w' → R' (.returned v) w') :
    Calls Try.prog 37 #[.string x0] w R' :=
  calls_of_body (vs := [(.string x0, false)]) (ty := ty) (ann := ⟨[], [(3, [(3, .int .u64), (7, .int .i64)])], [], []⟩) (c := Try.f37.body.getD .skip) (by kernel_rfl) Try.func37 (by kernel_rfl) (by kernel_rfl) (Eq.mp (by kernel_rfl) h) hR
/-- (*sums.Adler).Write -/
def vc_sums_Adler_Write (x0 : Nat) (x1 : ByteArray) (w : World) (R : Value → World → Prop) : Prop :=
  ∃ I1 : Int → World → Prop, ∃ I2 : Int → World → Nat, (I1 0 w ∧
   ∀ n3 : Int,
   ∀ w4 : World,
   (I1 n3 w4 →
     (((decide (n3 < (↑(ByteArray.size x1) : Int)) = true →
        ∀ w5 : World,
        (Drew w4 w5 →
          ∃ n6 : Int, (World.cell? w5 (Addr.mk x0 0 none) = some (Value.int IntKind.u32 n6) ∧
           ((0 ≤ n3 ∧
             n3 < (↑(ByteArray.size x1) : Int)) ∧
            ((65521 : Int) ≠ (0 : Int) ∧
             (Wr w5 (Addr.mk x0 0 none) ∧
              ∀ w7 : World,
              (w7 = World.setCell w5 (Addr.mk x0 0 none) (Value.int IntKind.u32 (Int.tmod (IntKind.wrap IntKind.u32 (n6 + IntKind.wrap IntKind.u32 (byteAt x1 n3))) 65521)) →
                ∀ w8 : World,
                (Drew w7 w8 →
                  ∃ n9 : Int, (World.cell? w8 (Addr.mk x0 1 none) = some (Value.int IntKind.u32 n9) ∧
                   ∃ n10 : Int, (World.cell? w8 (Addr.mk x0 0 none) = some (Value.int IntKind.u32 n10) ∧
                    ((65521 : Int) ≠ (0 : Int) ∧
                     (Wr w8 (Addr.mk x0 1 none) ∧
                      ∀ w11 : World,
                      (w11 = World.setCell w8 (Addr.mk x0 1 none) (Value.int IntKind.u32 (Int.tmod (IntKind.wrap IntKind.u32 (IntKind.wrap IntKind.u32 (n9 + n10) + 1)) 65521)) →
                        (I1 (IntKind.wrap IntKind.i64 (n3 + 1)) w11 ∧
                         I2 (IntKind.wrap IntKind.i64 (n3 + 1)) w11 < I2 n3 w4))))))))))))))) ∧
      (decide (n3 < (↑(ByteArray.size x1) : Int)) = false →
        R (Value.tuple (Array.mk [])) w4))))
theorem vc_sums_Adler_Write_ok {x0 : Nat} {x1 : ByteArray} {w : World} {R : Value → World → Prop} {R' : Ending → World → Prop} (h : vc_sums_Adler_Write x0 x1 w R) (hR : ∀ v w', R v w' → R' (.returned v) w') :
    Calls Try.prog 64 #[.pointer (some ⟨x0, 0, none⟩), .string x1] w R' :=
  calls_of_body (vs := [(.pointer (some ⟨x0, 0, none⟩), true), (.string x1, false)]) (ty := ty) (ann := ⟨[], [(1, [(7, .int .i64)])], [(3, .tail 13), (4, .tail 14)], []⟩) (c := Try.f64.body.getD .skip) (by kernel_rfl) Try.func64 (by kernel_rfl) (by kernel_rfl) (Eq.mp (by kernel_rfl) h) hR
/-- (*sums.Adler).Sum -/
def vc_sums_Adler_Sum (x0 : Nat) (w : World) (R : Value → World → Prop) : Prop :=
  ∃ n1 : Int, (World.cell? w (Addr.mk x0 1 none) = some (Value.int IntKind.u32 n1) ∧
   ((0 : Int) ≤ (16 : Int) ∧
    ∃ n2 : Int, (World.cell? w (Addr.mk x0 0 none) = some (Value.int IntKind.u32 n2) ∧
     ((65521 : Int) ≠ (0 : Int) ∧
      ∀ w3 : World,
      (Drew w w3 →
        R (Value.int IntKind.u32 (IntKind.wrap IntKind.u32 (↑(BitVec.toNat (BitVec.ofInt 32 (IntKind.wrap IntKind.u32 (n1 * 2 ^ min (Int.toNat 16) 32)) ||| BitVec.ofInt 32 (Int.tmod (IntKind.wrap IntKind.u32 (n2 + 1)) 65521))) : Int))) w3)))))
theorem vc_sums_Adler_Sum_ok {x0 : Nat} {w : World} {R : Value → World → Prop} {R' : Ending → World → Prop} (h : vc_sums_Adler_Sum x0 w R) (hR : ∀ v w', R v w' → R' (.returned v) w') :
    Calls Try.prog 65 #[.pointer (some ⟨x0, 0, none⟩)] w R' :=
  calls_of_body (vs := [(.pointer (some ⟨x0, 0, none⟩), true)]) (ty := ty) (ann := ⟨[], [], [(1, .quiet)], []⟩) (c := Try.f65.body.getD .skip) (by kernel_rfl) Try.func65 (by kernel_rfl) (by kernel_rfl) (Eq.mp (by kernel_rfl) h) hR
/-- sums.Adler32 -/
def vc_sums_Adler32 (x0 : ByteArray) (w : World) (R : Value → World → Prop) : Prop :=
  ∀ w1 : World,
  (w1 = World.alloc w (Obj.cells (Array.mk [Value.int IntKind.u32 0, Value.int IntKind.u32 0]) 101) →
    Calls Try.prog (64 : Nat) (Array.mk [Value.pointer (some (Addr.mk (Array.size (World.heap w)) 0 none)), Value.string x0]) (w1) (fun e2 w3 =>
      (e2 = Ending.returned (Value.tuple (Array.mk [])) ∧
       Calls Try.prog (65 : Nat) (Array.mk [Value.pointer (some (Addr.mk (Array.size (World.heap w)) 0 none))]) (w3) (fun e4 w5 =>
         ∃ n6 : Int, (e4 = Ending.returned (Value.int IntKind.u32 n6) ∧
          R (Value.int IntKind.u32 n6) w5)))))
theorem vc_sums_Adler32_ok {x0 : ByteArray} {w : World} {R : Value → World → Prop} {R' : Ending → World → Prop} (h : vc_sums_Adler32 x0 w R) (hR : ∀ v w', R v w' → R' (.returned v) w') :
    Calls Try.prog 38 #[.string x0] w R' :=
  calls_of_body (vs := [(.string x0, false)]) (ty := ty) (ann := ⟨[], [], [], []⟩) (c := Try.f38.body.getD .skip) (by kernel_rfl) Try.func38 (by kernel_rfl) (by kernel_rfl) (Eq.mp (by kernel_rfl) h) hR
/-- cartularyref01.Little -/
def vc_cartularyref01_Little (x0 : Int) (x1 : Int) (w : World) (R : Value → World → Prop) : Prop :=
  ∀ w1 : World,
  (w1 = World.alloc w (Obj.cells (Array.mk []) 5) →
    ∃ I2 : Int → Sl → Int → World → Prop, ∃ I3 : Int → Sl → Int → World → Nat, (I2 x0 (Sl.mk (some (Addr.mk (Array.size (World.heap w)) 0 none)) 0 0) 0 w1 ∧
     ∀ n4 : Int,
     ∀ l5 : Sl,
     ∀ n6 : Int,
     ∀ w7 : World,
     (I2 n4 l5 n6 w7 →
       (((decide (n6 < x1) = true →
          ((256 : Int) ≠ (0 : Int) ∧
           ∀ w8 : World,
           (w8 = World.alloc w7 (Obj.cells (Array.mk [Value.int IntKind.u8 (IntKind.wrap IntKind.u8 (Int.tmod n4 256))]) 5) →
             ∃ w9 : World, ∃ l10 : Sl, (Sem.run Try.prog (Builtin.append_ (Array.mk [40, 40]) 40 (Array.mk [Value.slice l5.1 l5.2 l5.3, Value.slice (some (Addr.mk (Array.size (World.heap w7)) 0 none)) 1 1])) w8 = Result.ok (Value.slice l10.1 l10.2 l10.3) w9 ∧
              ((256 : Int) ≠ (0 : Int) ∧
               (I2 (IntKind.wrap IntKind.u64 (Int.tdiv n4 256)) (Sl.mk l10.1 l10.2 l10.3) (IntKind.wrap IntKind.i64 (n6 + 1)) w9 ∧
                I3 (IntKind.wrap IntKind.u64 (Int.tdiv n4 256)) (Sl.mk l10.1 l10.2 l10.3) (IntKind.wrap IntKind.i64 (n6 + 1)) w9 < I3 n4 l5 n6 w7))))))) ∧
        (decide (n6 < x1) = false →
          ∃ w11 : World, ∃ s12 : ByteArray, (Sem.run Try.prog (convert 40 9 (Value.slice l5.1 l5.2 l5.3)) w7 = Result.ok (Value.string s12) w11 ∧
           R (Value.string s12) w11))))))
theorem vc_cartularyref01_Little_ok {x0 : Int} {x1 : Int} {w : World} {R : Value → World → Prop} {R' : Ending → World → Prop} (h : vc_cartularyref01_Little x0 x1 w R) (hR : ∀ v w', R v w' → R' (.returned v) w') :
    Calls Try.prog 67 #[.int .u64 x0, .int .i64 x1] w R' :=
  calls_of_body (vs := [(.int .u64 x0, false), (.int .i64 x1, false)]) (ty := ty) (ann := ⟨[], [(3, [(0, .int .u64), (5, .slice), (6, .int .i64)])], [], []⟩) (c := Try.f67.body.getD .skip) (by kernel_rfl) Try.func67 (by kernel_rfl) (by kernel_rfl) (Eq.mp (by kernel_rfl) h) hR
/-- cartularyref01.Turn -/
def vc_cartularyref01_Turn (x0 : ByteArray) (w : World) (R : Value → World → Prop) : Prop :=
  ∀ w1 : World,
  (w1 = World.alloc w (Obj.cells (Array.mk []) 5) →
    ∃ I2 : Sl → Int → World → Prop, ∃ I3 : Sl → Int → World → Nat, (I2 (Sl.mk (some (Addr.mk (Array.size (World.heap w)) 0 none)) 0 0) (IntKind.wrap IntKind.i64 ((↑(ByteArray.size x0) : Int) - 1)) w1 ∧
     ∀ l4 : Sl,
     ∀ n5 : Int,
     ∀ w6 : World,
     (I2 l4 n5 w6 →
       (((decide (n5 ≥ 0) = true →
          ((0 ≤ n5 ∧
            n5 < (↑(ByteArray.size x0) : Int)) ∧
           ∀ w7 : World,
           (w7 = World.alloc w6 (Obj.cells (Array.mk [Value.int IntKind.u8 (byteAt x0 n5)]) 5) →
             ∃ w8 : World, ∃ l9 : Sl, (Sem.run Try.prog (Builtin.append_ (Array.mk [40, 40]) 40 (Array.mk [Value.slice l4.1 l4.2 l4.3, Value.slice (some (Addr.mk (Array.size (World.heap w6)) 0 none)) 1 1])) w7 = Result.ok (Value.slice l9.1 l9.2 l9.3) w8 ∧
              (I2 (Sl.mk l9.1 l9.2 l9.3) (IntKind.wrap IntKind.i64 (n5 - 1)) w8 ∧
               I3 (Sl.mk l9.1 l9.2 l9.3) (IntKind.wrap IntKind.i64 (n5 - 1)) w8 < I3 l4 n5 w6)))))) ∧
        (decide (n5 ≥ 0) = false →
          ∃ w10 : World, ∃ s11 : ByteArray, (Sem.run Try.prog (convert 40 9 (Value.slice l4.1 l4.2 l4.3)) w6 = Result.ok (Value.string s11) w10 ∧
           R (Value.string s11) w10))))))
theorem vc_cartularyref01_Turn_ok {x0 : ByteArray} {w : World} {R : Value → World → Prop} {R' : Ending → World → Prop} (h : vc_cartularyref01_Turn x0 w R) (hR : ∀ v w', R v w' → R' (.returned v) w') :
    Calls Try.prog 66 #[.string x0] w R' :=
  calls_of_body (vs := [(.string x0, false)]) (ty := ty) (ann := ⟨[], [(3, [(3, .slice), (4, .int .i64)])], [], []⟩) (c := Try.f66.body.getD .skip) (by kernel_rfl) Try.func66 (by kernel_rfl) (by kernel_rfl) (Eq.mp (by kernel_rfl) h) hR
/-- cartularyref01.Big -/
def vc_cartularyref01_Big (x0 : Int) (x1 : Int) (w : World) (R : Value → World → Prop) : Prop :=
  Calls Try.prog (67 : Nat) (Array.mk [Value.int IntKind.u64 x0, Value.int IntKind.i64 x1]) (w) (fun e1 w2 =>
    ∃ s3 : ByteArray, (e1 = Ending.returned (Value.string s3) ∧
     Calls Try.prog (66 : Nat) (Array.mk [Value.string s3]) (w2) (fun e4 w5 =>
       ∃ s6 : ByteArray, (e4 = Ending.returned (Value.string s6) ∧
        R (Value.string s6) w5))))
theorem vc_cartularyref01_Big_ok {x0 : Int} {x1 : Int} {w : World} {R : Value → World → Prop} {R' : Ending → World → Prop} (h : vc_cartularyref01_Big x0 x1 w R) (hR : ∀ v w', R v w' → R' (.returned v) w') :
    Calls Try.prog 39 #[.int .u64 x0, .int .i64 x1] w R' :=
  calls_of_body (vs := [(.int .u64 x0, false), (.int .i64 x1, false)]) (ty := ty) (ann := ⟨[], [], [], []⟩) (c := Try.f39.body.getD .skip) (by kernel_rfl) Try.func39 (by kernel_rfl) (by kernel_rfl) (Eq.mp (by kernel_rfl) h) hR
/-- cartularyref01.Adler32 -/
def vc_cartularyref01_Adler32 (x0 : ByteArray) (w : World) (R : Value → World → Prop) : Prop :=
  ∃ I1 : Int → Int → Int → World → Prop, ∃ I2 : Int → Int → Int → World → Nat, (I1 1 0 0 w ∧
   ∀ n3 : Int,
   ∀ n4 : Int,
   ∀ n5 : Int,
   ∀ w6 : World,
   (I1 n3 n4 n5 w6 →
     (((decide (n5 < (↑(ByteArray.size x0) : Int)) = true →
        ((0 ≤ n5 ∧
          n5 < (↑(ByteArray.size x0) : Int)) ∧
         ((65521 : Int) ≠ (0 : Int) ∧
          ((65521 : Int) ≠ (0 : Int) ∧
           (I1 (Int.tmod (IntKind.wrap IntKind.i64 (n3 + IntKind.wrap IntKind.i64 (byteAt x0 n5))) 65521) (Int.tmod (IntKind.wrap IntKind.i64 (n4 + Int.tmod (IntKind.wrap IntKind.i64 (n3 + IntKind.wrap IntKind.i64 (byteAt x0 n5))) 65521)) 65521) (IntKind.wrap IntKind.i64 (n5 + 1)) w6 ∧
            I2 (Int.tmod (IntKind.wrap IntKind.i64 (n3 + IntKind.wrap IntKind.i64 (byteAt x0 n5))) 65521) (Int.tmod (IntKind.wrap IntKind.i64 (n4 + Int.tmod (IntKind.wrap IntKind.i64 (n3 + IntKind.wrap IntKind.i64 (byteAt x0 n5))) 65521)) 65521) (IntKind.wrap IntKind.i64 (n5 + 1)) w6 < I2 n3 n4 n5 w6)))))) ∧
      (decide (n5 < (↑(ByteArray.size x0) : Int)) = false →
        R (Value.int IntKind.u32 (IntKind.wrap IntKind.u32 (IntKind.wrap IntKind.i64 (IntKind.wrap IntKind.i64 (65536 * n4) + n3)))) w6))))
theorem vc_cartularyref01_Adler32_ok {x0 : ByteArray} {w : World} {R : Value → World → Prop} {R' : Ending → World → Prop} (h : vc_cartularyref01_Adler32 x0 w R) (hR : ∀ v w', R v w' → R' (.returned v) w') :
    Calls Try.prog 40 #[.string x0] w R' :=
  calls_of_body (vs := [(.string x0, false)]) (ty := ty) (ann := ⟨[], [(3, [(3, .int .i64), (4, .int .i64), (5, .int .i64)])], [], []⟩) (c := Try.f40.body.getD .skip) (by kernel_rfl) Try.func40 (by kernel_rfl) (by kernel_rfl) (Eq.mp (by kernel_rfl) h) hR
/-- inflate.Stored -/
def vc_inflate_Stored (x0 : ByteArray) (w : World) (R : Value → World → Prop) : Prop :=
  ∀ w1 : World,
  (w1 = World.alloc w (Obj.cells (Array.mk [Value.slice none 0 0, Value.int IntKind.u64 0, Value.int IntKind.i64 0]) 68) →
    ∃ I2 : ByteArray → World → Prop, ∃ I3 : ByteArray → World → Nat, (I2 x0 w1 ∧
     ∀ s4 : ByteArray,
     ∀ w5 : World,
     (I2 s4 w5 →
       ∃ I6 : Int → World → Prop, (((((((if 65535 < (↑(ByteArray.size s4) : Int) then 65535 else (↑(ByteArray.size s4) : Int)) == (↑(ByteArray.size s4) : Int)) = true) →
           I6 1 w5)) ∧
         ((((if 65535 < (↑(ByteArray.size s4) : Int) then 65535 else (↑(ByteArray.size s4) : Int)) == (↑(ByteArray.size s4) : Int)) = false) →
           I6 0 w5)) ∧
        ∀ n7 : Int,
        ∀ w8 : World,
        (I6 n7 w8 →
          Calls Try.prog (41 : Nat) (Array.mk [Value.pointer (some (Addr.mk (Array.size (World.heap w)) 0 none)), Value.int IntKind.u32 n7, Value.int IntKind.i64 3]) (w8) (fun e9 w10 =>
            (e9 = Ending.returned (Value.tuple (Array.mk [])) ∧
             ∀ w11 : World,
             (Drew w10 w11 →
               ∃ I12 : World → Prop, (I12 w11 ∧
                (((0 ≤ if 65535 < (↑(ByteArray.size s4) : Int) then 65535 else (↑(ByteArray.size s4) : Int)) ∧
                  ((if 65535 < (↑(ByteArray.size s4) : Int) then 65535 else (↑(ByteArray.size s4) : Int)) ≤ (↑(ByteArray.size s4) : Int))) ∧
                 Calls Try.prog (43 : Nat) ((Array.mk [Value.int IntKind.u64 (IntKind.wrap IntKind.u64 (if 65535 < (↑(ByteArray.size s4) : Int) then 65535 else (↑(ByteArray.size s4) : Int))), Value.int IntKind.i64 2])) (w11) (fun e13 w14 =>
                   ∃ s15 : ByteArray, (e13 = Ending.returned (Value.string s15) ∧
                    (I12 w14 ∧
                     Calls Try.prog (43 : Nat) ((Array.mk [Value.int IntKind.u64 (IntKind.wrap IntKind.u64 (IntKind.wrap IntKind.i64 (↑(BitVec.toNat (BitVec.ofInt 64 (if 65535 < (↑(ByteArray.size s4) : Int) then 65535 else (↑(ByteArray.size s4) : Int)) ^^^ BitVec.ofInt 64 65535)) : Int))), Value.int IntKind.i64 2])) (w14) (fun e16 w17 =>
                       ∃ s18 : ByteArray, (e16 = Ending.returned (Value.string s18) ∧
                        (I12 w17 ∧
                         (ByteArray.size s15 + ByteArray.size s18 ≤ 9223372036854775807 ∧
                          ((ByteArray.size (s15 ++ s18) + ByteArray.size (ByteArray.extract s4 0 (Int.toNat (if 65535 < (↑(ByteArray.size s4) : Int) then 65535 else (↑(ByteArray.size s4) : Int)))) ≤ 9223372036854775807) ∧
                           Calls Try.prog (42 : Nat) ((Array.mk [Value.pointer (some (Addr.mk (Array.size (World.heap w)) 0 none)), Value.string (s15 ++ s18 ++ ByteArray.extract s4 0 (Int.toNat (if 65535 < (↑(ByteArray.size s4) : Int) then 65535 else (↑(ByteArray.size s4) : Int))))])) (w17) (fun e19 w20 =>
                             (e19 = Ending.returned (Value.tuple (Array.mk [])) ∧
                              (((0 ≤ if 65535 < (↑(ByteArray.size s4) : Int) then 65535 else (↑(ByteArray.size s4) : Int)) ∧
                                ((if 65535 < (↑(ByteArray.size s4) : Int) then 65535 else (↑(ByteArray.size s4) : Int)) ≤ (↑(ByteArray.size s4) : Int))) ∧
                               ((((n7 == 1) = true →
                                  Calls Try.prog (44 : Nat) (Array.mk [Value.pointer (some (Addr.mk (Array.size (World.heap w)) 0 none))]) (w20) (fun e21 w22 =>
                                    ∃ s23 : ByteArray, (e21 = Ending.returned (Value.string s23) ∧
                                     R (Value.string s23) w22)))) ∧
                                ((n7 == 1) = false →
                                  ((I2 (ByteArray.extract s4 (Int.toNat (if 65535 < (↑(ByteArray.size s4) : Int) then 65535 else (↑(ByteArray.size s4) : Int))) (ByteArray.size s4)) w20) ∧
                                   (I3 (ByteArray.extract s4 (Int.toNat (if 65535 < (↑(ByteArray.size s4) : Int) then 65535 else (↑(ByteArray.size s4) : Int))) (ByteArray.size s4)) w20 < I3 s4 w5)))))))))))))))))))))))))
theorem vc_inflate_Stored_ok {x0 : ByteArray} {w : World} {R : Value → World → Prop} {R' : Ending → World → Prop} (h : vc_inflate_Stored x0 w R) (hR : ∀ v w', R v w' → R' (.returned v) w') :
    Calls Try.prog 20 #[.string x0] w R' :=
  calls_of_body (vs := [(.string x0, false)]) (ty := ty) (ann := ⟨[(6, [(5, .int .u32)])], [(2, [(0, .str)])], [(7, .held [(0, true), (1, true), (3, true), (4, true), (5, true), (8, true), (9, true), (10, true), (2, false), (6, false), (7, true), (11, true), (12, false)])], []⟩) (c := Try.f20.body.getD .skip) (by kernel_rfl) Try.func20 (by kernel_rfl) (by kernel_rfl) (Eq.mp (by kernel_rfl) h) hR
/-- (*huff.Table).Code -/
def vc_huff_Table_Code (x0 : Nat) (x1 : Int) (w : World) (R : Value → World → Prop) : Prop :=
  (((decide (x1 < 0) = true →
     R (Value.tuple (Array.mk [Value.int IntKind.u32 0, Value.int IntKind.i64 0])) w)) ∧
   (decide (x1 < 0) = false →
     ∃ l1 : Sl, (World.cell? w (Addr.mk x0 0 none) = some (Value.slice l1.1 l1.2 l1.3) ∧
      (((decide (x1 ≥ (↑l1.2 : Int)) = true →
         R (Value.tuple (Array.mk [Value.int IntKind.u32 0, Value.int IntKind.i64 0])) w)) ∧
       (decide (x1 ≥ (↑l1.2 : Int)) = false →
         ∃ l2 : Sl, (World.cell? w (Addr.mk x0 0 none) = some (Value.slice l2.1 l2.2 l2.3) ∧
          ((0 ≤ x1 ∧
            x1 < (↑l2.2 : Int)) ∧
           ∃ a3 : Addr, (l2.1 = some a3 ∧
            ∃ n4 : Int, (World.cell? w (Addr.add a3 (Int.toNat x1 * 1)) = some (Value.int IntKind.i64 n4) ∧
             ((((n4 == 0) = true →
                R (Value.tuple (Array.mk [Value.int IntKind.u32 0, Value.int IntKind.i64 0])) w)) ∧
              ((n4 == 0) = false →
                ∃ I5 : Int → Int → Int → World → Prop, ∃ I6 : Int → Int → Int → World → Nat, (I5 0 0 1 w ∧
                 ∀ n7 : Int,
                 ∀ n8 : Int,
                 ∀ n9 : Int,
                 ∀ w10 : World,
                 (I5 n7 n8 n9 w10 →
                   (((decide (n9 ≤ 15) = true →
                      ((0 : Int) ≤ (1 : Int) ∧
                       ((0 ≤ n9 ∧
                         n9 < (↑16 : Int)) ∧
                        ∃ n11 : Int, (World.cell? w10 (Addr.add (Addr.mk x0 1 none) (Int.toNat n9 * 1)) = some (Value.int IntKind.i64 n11) ∧
                         ∃ I12 : Int → Int → Int → World → Prop, ∃ I13 : Int → Int → Int → World → Nat, (I12 (IntKind.wrap IntKind.u32 (n7 * 2 ^ min (Int.toNat 1) 32)) n8 0 w10 ∧
                          ∀ n14 : Int,
                          ∀ n15 : Int,
                          ∀ n16 : Int,
                          ∀ w17 : World,
                          (I12 n14 n15 n16 w17 →
                            (((decide (n16 < n11) = true →
                               ∃ l18 : Sl, (World.cell? w17 (Addr.mk x0 17 none) = some (Value.slice l18.1 l18.2 l18.3) ∧
                                ((0 ≤ n15 ∧
                                  n15 < (↑l18.2 : Int)) ∧
                                 ∃ a19 : Addr, (l18.1 = some a19 ∧
                                  ∃ n20 : Int, (World.cell? w17 (Addr.add a19 (Int.toNat n15 * 1)) = some (Value.int IntKind.i64 n20) ∧
                                   ((((n20 == x1) = true →
                                      R (Value.tuple (Array.mk [Value.int IntKind.u32 n14, Value.int IntKind.i64 n9])) w17)) ∧
                                    ((n20 == x1) = false →
                                      (I12 (IntKind.wrap IntKind.u32 (n14 + 1)) (IntKind.wrap IntKind.i64 (n15 + 1)) (IntKind.wrap IntKind.i64 (n16 + 1)) w17 ∧
                                       I13 (IntKind.wrap IntKind.u32 (n14 + 1)) (IntKind.wrap IntKind.i64 (n15 + 1)) (IntKind.wrap IntKind.i64 (n16 + 1)) w17 < I13 n14 n15 n16 w17))))))))) ∧
                             (decide (n16 < n11) = false →
                               (I5 n14 n15 (IntKind.wrap IntKind.i64 (n9 + 1)) w17 ∧
                                I6 n14 n15 (IntKind.wrap IntKind.i64 (n9 + 1)) w17 < I6 n7 n8 n9 w10)))))))))) ∧
                    (decide (n9 ≤ 15) = false →
                      R (Value.tuple (Array.mk [Value.int IntKind.u32 0, Value.int IntKind.i64 0])) w10)))))))))))))))
theorem vc_huff_Table_Code_ok {x0 : Nat} {x1 : Int} {w : World} {R : Value → World → Prop} {R' : Ending → World → Prop} (h : vc_huff_Table_Code x0 x1 w R) (hR : ∀ v w', R v w' → R' (.returned v) w') :
    Calls Try.prog 46 #[.pointer (some ⟨x0, 0, none⟩), .int .i64 x1] w R' :=
  calls_of_body (vs := [(.pointer (some ⟨x0, 0, none⟩), true), (.int .i64 x1, false)]) (ty := ty) (ann := ⟨[], [(5, [(6, .int .u32), (7, .int .i64), (8, .int .i64)]), (9, [(6, .int .u32), (7, .int .i64), (42, .int .i64)])], [], []⟩) (c := Try.f46.body.getD .skip) (by kernel_rfl) Try.func46 (by kernel_rfl) (by kernel_rfl) (Eq.mp (by kernel_rfl) h) hR
/-- inflate.symbolOf#len -/
def vc_inflate_symbolOf_len (x0 : Int) (x1 : Int) (w : World) (R : Value → World → Prop) : Prop :=
  ∃ I1 : Int → World → Prop, ∃ I2 : Int → World → Nat, (I1 x1 w ∧
   ∀ n3 : Int,
   ∀ w4 : World,
   (I1 n3 w4 →
     Calls Try.prog (49 : FuncId) (Array.mk [Value.int IntKind.i64 n3]) (w4) (fun e5 w6 =>
       ∃ n7 : Int, ∃ n8 : Int, (e5 = Ending.returned (Value.tuple (Array.mk [Value.int IntKind.i64 n7, Value.int IntKind.i64 n8])) ∧
        (((decide (n7 ≤ x0) = true →
           R (Value.tuple (Array.mk [Value.int IntKind.i64 n3, Value.int IntKind.u32 (IntKind.wrap IntKind.u32 (IntKind.wrap IntKind.i64 (x0 - n7))), Value.int IntKind.i64 n8])) w6)) ∧
         (decide (n7 ≤ x0) = false →
           (I1 (IntKind.wrap IntKind.i64 (n3 - 1)) w6 ∧
            I2 (IntKind.wrap IntKind.i64 (n3 - 1)) w6 < I2 n3 w4)))))))
theorem vc_inflate_symbolOf_len_ok {x0 : Int} {x1 : Int} {w : World} {R : Value → World → Prop} {R' : Ending → World → Prop} (h : vc_inflate_symbolOf_len x0 x1 w R) (hR : ∀ v w', R v w' → R' (.returned v) w') :
    Calls Try.prog 48 #[.int .i64 x0, .int .i64 x1, .func (.func 49) #[] #[]] w R' :=
  calls_of_body (vs := [(.int .i64 x0, false), (.int .i64 x1, false), (.func (.func 49) #[] #[], false)]) (ty := ty) (ann := ⟨[], [(3, [(9, .int .i64)])], [], []⟩) (c := Try.f48.body.getD .skip) (by kernel_rfl) Try.func48 (by kernel_rfl) (by kernel_rfl) (Eq.mp (by kernel_rfl) h) hR
/-- inflate.symbolOf#dist -/
def vc_inflate_symbolOf_dist (x0 : Int) (x1 : Int) (w : World) (R : Value → World → Prop) : Prop :=
  ∃ I1 : Int → World → Prop, ∃ I2 : Int → World → Nat, (I1 x1 w ∧
   ∀ n3 : Int,
   ∀ w4 : World,
   (I1 n3 w4 →
     Calls Try.prog (50 : FuncId) (Array.mk [Value.int IntKind.i64 n3]) (w4) (fun e5 w6 =>
       ∃ n7 : Int, ∃ n8 : Int, (e5 = Ending.returned (Value.tuple (Array.mk [Value.int IntKind.i64 n7, Value.int IntKind.i64 n8])) ∧
        (((decide (n7 ≤ x0) = true →
           R (Value.tuple (Array.mk [Value.int IntKind.i64 n3, Value.int IntKind.u32 (IntKind.wrap IntKind.u32 (IntKind.wrap IntKind.i64 (x0 - n7))), Value.int IntKind.i64 n8])) w6)) ∧
         (decide (n7 ≤ x0) = false →
           (I1 (IntKind.wrap IntKind.i64 (n3 - 1)) w6 ∧
            I2 (IntKind.wrap IntKind.i64 (n3 - 1)) w6 < I2 n3 w4)))))))
theorem vc_inflate_symbolOf_dist_ok {x0 : Int} {x1 : Int} {w : World} {R : Value → World → Prop} {R' : Ending → World → Prop} (h : vc_inflate_symbolOf_dist x0 x1 w R) (hR : ∀ v w', R v w' → R' (.returned v) w') :
    Calls Try.prog 48 #[.int .i64 x0, .int .i64 x1, .func (.func 50) #[] #[]] w R' :=
  calls_of_body (vs := [(.int .i64 x0, false), (.int .i64 x1, false), (.func (.func 50) #[] #[], false)]) (ty := ty) (ann := ⟨[], [(3, [(9, .int .i64)])], [], []⟩) (c := Try.f48.body.getD .skip) (by kernel_rfl) Try.func48 (by kernel_rfl) (by kernel_rfl) (Eq.mp (by kernel_rfl) h) hR
/-- inflate.Deflate -/
def vc_inflate_Deflate (x0 : ByteArray) (w : World) (R : Value → World → Prop) : Prop :=
  ∀ w1 : World,
  (w1 = World.alloc w (Obj.cells (Array.mk [Value.slice none 0 0, Value.int IntKind.u64 0, Value.int IntKind.i64 0]) 68) →
    Calls Try.prog (45 : Nat) (Array.mk []) (w1) (fun e2 w3 =>
      ∃ p4 : Option Addr, ∃ p5 : Option Addr, (e2 = Ending.returned (Value.tuple (Array.mk [Value.pointer p4, Value.pointer p5])) ∧
       Calls Try.prog (41 : Nat) (Array.mk [Value.pointer (some (Addr.mk (Array.size (World.heap w)) 0 none)), Value.int IntKind.u32 3, Value.int IntKind.i64 3]) (w3) (fun e6 w7 =>
         (e6 = Ending.returned (Value.tuple (Array.mk [])) ∧
          ∀ w8 : World,
          (w8 = World.alloc w7 (Obj.map (Array.mk []) 0) →
            ∃ I9 : Int → World → Prop, ∃ I10 : Int → World → Nat, (I9 0 w8 ∧
             ∀ n11 : Int,
             ∀ w12 : World,
             (I9 n11 w12 →
               (((decide (n11 < (↑(ByteArray.size x0) : Int)) = true →
                  ∃ I13 : Int → Int → World → Prop, ((((decide (IntKind.wrap IntKind.i64 (n11 + 3) ≤ (↑(ByteArray.size x0) : Int)) = true →
                      ((0 ≤ n11 ∧
                        (n11 ≤ IntKind.wrap IntKind.i64 (n11 + 3) ∧
                         IntKind.wrap IntKind.i64 (n11 + 3) ≤ (↑(ByteArray.size x0) : Int))) ∧
                       ∃ w14 : World, ∃ n15 : Int, ∃ b16 : Bool, (Sem.run Try.prog (Instr.lookup 75 (Value.map (some (Array.size (World.heap w7)))) (Value.string (ByteArray.extract x0 (Int.toNat n11) (Int.toNat (IntKind.wrap IntKind.i64 (n11 + 3))))) true) w12 = Result.ok (Value.tuple (Array.mk [Value.int IntKind.i64 n15, Value.bool b16])) w14 ∧
                        (((b16 = true →
                           (((decide (IntKind.wrap IntKind.i64 (n11 - n15) ≤ 32768) = true →
                              ∃ I17 : Int → World → Prop, ∃ I18 : Int → World → Nat, (I17 0 w14 ∧
                               ∀ n19 : Int,
                               ∀ w20 : World,
                               (I17 n19 w20 →
                                 (((decide (n19 < 258) = true →
                                    (((decide (IntKind.wrap IntKind.i64 (n11 + n19) < (↑(ByteArray.size x0) : Int)) = true →
                                       ((0 ≤ IntKind.wrap IntKind.i64 (n15 + n19) ∧
                                         IntKind.wrap IntKind.i64 (n15 + n19) < (↑(ByteArray.size x0) : Int)) ∧
                                        ((0 ≤ IntKind.wrap IntKind.i64 (n11 + n19) ∧
                                          IntKind.wrap IntKind.i64 (n11 + n19) < (↑(ByteArray.size x0) : Int)) ∧
                                         ∀ w21 : World,
                                         (Drew w20 w21 →
                                           ((((byteAt x0 (IntKind.wrap IntKind.i64 (n15 + n19)) == byteAt x0 (IntKind.wrap IntKind.i64 (n11 + n19))) = true →
                                              (I17 (IntKind.wrap IntKind.i64 (n19 + 1)) w21 ∧
                                               I18 (IntKind.wrap IntKind.i64 (n19 + 1)) w21 < I18 n19 w20))) ∧
                                            ((byteAt x0 (IntKind.wrap IntKind.i64 (n15 + n19)) == byteAt x0 (IntKind.wrap IntKind.i64 (n11 + n19))) = false →
                                              ((0 ≤ n11 ∧
                                                (n11 ≤ IntKind.wrap IntKind.i64 (n11 + 3) ∧
                                                 IntKind.wrap IntKind.i64 (n11 + 3) ≤ (↑(ByteArray.size x0) : Int))) ∧
                                               ∃ w22 : World, (Sem.run Try.prog (Instr.mapUpdate 75 (Value.map (some (Array.size (World.heap w7)))) (Value.string (ByteArray.extract x0 (Int.toNat n11) (Int.toNat (IntKind.wrap IntKind.i64 (n11 + 3))))) (Value.int IntKind.i64 n11)) w21 = Result.ok PUnit.unit w22 ∧
                                                I13 n19 (IntKind.wrap IntKind.i64 (n11 - n15)) w22))))))))) ∧
                                     (decide (IntKind.wrap IntKind.i64 (n11 + n19) < (↑(ByteArray.size x0) : Int)) = false →
                                       ∀ w23 : World,
                                       (Drew w20 w23 →
                                         ((0 ≤ n11 ∧
                                           (n11 ≤ IntKind.wrap IntKind.i64 (n11 + 3) ∧
                                            IntKind.wrap IntKind.i64 (n11 + 3) ≤ (↑(ByteArray.size x0) : Int))) ∧
                                          ∃ w24 : World, (Sem.run Try.prog (Instr.mapUpdate 75 (Value.map (some (Array.size (World.heap w7)))) (Value.string (ByteArray.extract x0 (Int.toNat n11) (Int.toNat (IntKind.wrap IntKind.i64 (n11 + 3))))) (Value.int IntKind.i64 n11)) w23 = Result.ok PUnit.unit w24 ∧
                                           I13 n19 (IntKind.wrap IntKind.i64 (n11 - n15)) w24))))))) ∧
                                  (decide (n19 < 258) = false →
                                    ∀ w25 : World,
                                    (Drew w20 w25 →
                                      ((0 ≤ n11 ∧
                                        (n11 ≤ IntKind.wrap IntKind.i64 (n11 + 3) ∧
                                         IntKind.wrap IntKind.i64 (n11 + 3) ≤ (↑(ByteArray.size x0) : Int))) ∧
                                       ∃ w26 : World, (Sem.run Try.prog (Instr.mapUpdate 75 (Value.map (some (Array.size (World.heap w7)))) (Value.string (ByteArray.extract x0 (Int.toNat n11) (Int.toNat (IntKind.wrap IntKind.i64 (n11 + 3))))) (Value.int IntKind.i64 n11)) w25 = Result.ok PUnit.unit w26 ∧
                                        I13 n19 (IntKind.wrap IntKind.i64 (n11 - n15)) w26))))))))) ∧
                            (decide (IntKind.wrap IntKind.i64 (n11 - n15) ≤ 32768) = false →
                              ((0 ≤ n11 ∧
                                (n11 ≤ IntKind.wrap IntKind.i64 (n11 + 3) ∧
                                 IntKind.wrap IntKind.i64 (n11 + 3) ≤ (↑(ByteArray.size x0) : Int))) ∧
                               ∃ w27 : World, (Sem.run Try.prog (Instr.mapUpdate 75 (Value.map (some (Array.size (World.heap w7)))) (Value.string (ByteArray.extract x0 (Int.toNat n11) (Int.toNat (IntKind.wrap IntKind.i64 (n11 + 3))))) (Value.int IntKind.i64 n11)) w14 = Result.ok PUnit.unit w27 ∧
                                I13 0 0 w27)))))) ∧
                         (b16 = false →
                           ((0 ≤ n11 ∧
                             (n11 ≤ IntKind.wrap IntKind.i64 (n11 + 3) ∧
                              IntKind.wrap IntKind.i64 (n11 + 3) ≤ (↑(ByteArray.size x0) : Int))) ∧
                            ∃ w28 : World, (Sem.run Try.prog (Instr.mapUpdate 75 (Value.map (some (Array.size (World.heap w7)))) (Value.string (ByteArray.extract x0 (Int.toNat n11) (Int.toNat (IntKind.wrap IntKind.i64 (n11 + 3))))) (Value.int IntKind.i64 n11)) w14 = Result.ok PUnit.unit w28 ∧
                             I13 0 0 w28)))))))) ∧
                    (decide (IntKind.wrap IntKind.i64 (n11 + 3) ≤ (↑(ByteArray.size x0) : Int)) = false →
                      I13 0 0 w12)) ∧
                   ∀ n29 : Int,
                   ∀ n30 : Int,
                   ∀ w31 : World,
                   (I13 n29 n30 w31 →
                     (((decide (n29 < 3) = true →
                        ((0 ≤ n11 ∧
                          n11 < (↑(ByteArray.size x0) : Int)) ∧
                         Calls Try.prog (46 : Nat) (Array.mk [Value.pointer p4, Value.int IntKind.i64 (IntKind.wrap IntKind.i64 (byteAt x0 n11))]) (w31) (fun e32 w33 =>
                           ∃ n34 : Int, ∃ n35 : Int, (e32 = Ending.returned (Value.tuple (Array.mk [Value.int IntKind.u32 n34, Value.int IntKind.i64 n35])) ∧
                            Calls Try.prog (47 : Nat) (Array.mk [Value.pointer (some (Addr.mk (Array.size (World.heap w)) 0 none)), Value.int IntKind.u32 n34, Value.int IntKind.i64 n35]) (w33) (fun e36 w37 =>
                              (e36 = Ending.returned (Value.tuple (Array.mk [])) ∧
                               (I9 (IntKind.wrap IntKind.i64 (n11 + 1)) w37 ∧
                                I10 (IntKind.wrap IntKind.i64 (n11 + 1)) w37 < I10 n11 w12)))))))) ∧
                      (decide (n29 < 3) = false →
                        Calls Try.prog (48 : Nat) (Array.mk [Value.int IntKind.i64 n29, Value.int IntKind.i64 28, Value.func (Fn.func 49) (Array.mk []) (Array.mk [])]) (w31) (fun e38 w39 =>
                          ∃ n40 : Int, ∃ n41 : Int, ∃ n42 : Int, (e38 = Ending.returned (Value.tuple (Array.mk [Value.int IntKind.i64 n40, Value.int IntKind.u32 n41, Value.int IntKind.i64 n42])) ∧
                           Calls Try.prog (46 : Nat) (Array.mk [Value.pointer p4, Value.int IntKind.i64 (IntKind.wrap IntKind.i64 (257 + n40))]) (w39) (fun e43 w44 =>
                             ∃ n45 : Int, ∃ n46 : Int, (e43 = Ending.returned (Value.tuple (Array.mk [Value.int IntKind.u32 n45, Value.int IntKind.i64 n46])) ∧
                              Calls Try.prog (47 : Nat) (Array.mk [Value.pointer (some (Addr.mk (Array.size (World.heap w)) 0 none)), Value.int IntKind.u32 n45, Value.int IntKind.i64 n46]) (w44) (fun e47 w48 =>
                                (e47 = Ending.returned (Value.tuple (Array.mk [])) ∧
                                 Calls Try.prog (41 : Nat) (Array.mk [Value.pointer (some (Addr.mk (Array.size (World.heap w)) 0 none)), Value.int IntKind.u32 n41, Value.int IntKind.i64 n42]) (w48) (fun e49 w50 =>
                                   (e49 = Ending.returned (Value.tuple (Array.mk [])) ∧
                                    Calls Try.prog (48 : Nat) (Array.mk [Value.int IntKind.i64 n30, Value.int IntKind.i64 29, Value.func (Fn.func 50) (Array.mk []) (Array.mk [])]) (w50) (fun e51 w52 =>
                                      ∃ n53 : Int, ∃ n54 : Int, ∃ n55 : Int, (e51 = Ending.returned (Value.tuple (Array.mk [Value.int IntKind.i64 n53, Value.int IntKind.u32 n54, Value.int IntKind.i64 n55])) ∧
                                       Calls Try.prog (46 : Nat) (Array.mk [Value.pointer p5, Value.int IntKind.i64 n53]) (w52) (fun e56 w57 =>
                                         ∃ n58 : Int, ∃ n59 : Int, (e56 = Ending.returned (Value.tuple (Array.mk [Value.int IntKind.u32 n58, Value.int IntKind.i64 n59])) ∧
                                          Calls Try.prog (47 : Nat) (Array.mk [Value.pointer (some (Addr.mk (Array.size (World.heap w)) 0 none)), Value.int IntKind.u32 n58, Value.int IntKind.i64 n59]) (w57) (fun e60 w61 =>
                                            (e60 = Ending.returned (Value.tuple (Array.mk [])) ∧
                                             Calls Try.prog (41 : Nat) (Array.mk [Value.pointer (some (Addr.mk (Array.size (World.heap w)) 0 none)), Value.int IntKind.u32 n54, Value.int IntKind.i64 n55]) (w61) (fun e62 w63 =>
                                               (e62 = Ending.returned (Value.tuple (Array.mk [])) ∧
                                                (I9 (IntKind.wrap IntKind.i64 (n11 + n29)) w63 ∧
                                                 I10 (IntKind.wrap IntKind.i64 (n11 + n29)) w63 < I10 n11 w12))))))))))))))))))))))) ∧
                (decide (n11 < (↑(ByteArray.size x0) : Int)) = false →
                  Calls Try.prog (46 : Nat) (Array.mk [Value.pointer p4, Value.int IntKind.i64 256]) (w12) (fun e64 w65 =>
                    ∃ n66 : Int, ∃ n67 : Int, (e64 = Ending.returned (Value.tuple (Array.mk [Value.int IntKind.u32 n66, Value.int IntKind.i64 n67])) ∧
                     Calls Try.prog (47 : Nat) (Array.mk [Value.pointer (some (Addr.mk (Array.size (World.heap w)) 0 none)), Value.int IntKind.u32 n66, Value.int IntKind.i64 n67]) (w65) (fun e68 w69 =>
                       (e68 = Ending.returned (Value.tuple (Array.mk [])) ∧
                        Calls Try.prog (44 : Nat) (Array.mk [Value.pointer (some (Addr.mk (Array.size (World.heap w)) 0 none))]) (w69) (fun e70 w71 =>
                          ∃ s72 : ByteArray, (e70 = Ending.returned (Value.string s72) ∧
                           Calls Try.prog (20 : Nat) (Array.mk [Value.string x0]) (w71) (fun e73 w74 =>
                             ∃ s75 : ByteArray, (e73 = Ending.returned (Value.string s75) ∧
                              (((decide ((↑(ByteArray.size s72) : Int) < (↑(ByteArray.size s75) : Int)) = true →
                                 R (Value.string s72) w74)) ∧
                               (decide ((↑(ByteArray.size s72) : Int) < (↑(ByteArray.size s75) : Int)) = false →
                                 Calls Try.prog (20 : Nat) (Array.mk [Value.string x0]) (w74) (fun e76 w77 =>
                                   ∃ s78 : ByteArray, (e76 = Ending.returned (Value.string s78) ∧
                                    R (Value.string s78) w77))))))))))))))))))))))
theorem vc_inflate_Deflate_ok {x0 : ByteArray} {w : World} {R : Value → World → Prop} {R' : Ending → World → Prop} (h : vc_inflate_Deflate x0 w R) (hR : ∀ v w', R v w' → R' (.returned v) w') :
    Calls Try.prog 21 #[.string x0] w R' :=
  calls_of_body (vs := [(.string x0, false)]) (ty := ty) (ann := ⟨[(15, [(8, .int .i64), (9, .int .i64)])], [(6, [(7, .int .i64)]), (11, [(8, .int .i64)])], [(11, .quiet)], []⟩) (c := Try.f21.body.getD .skip) (by kernel_rfl) Try.func21 (by kernel_rfl) (by kernel_rfl) (Eq.mp (by kernel_rfl) h) hR
/-- cartularyref05.Stored -/
def vc_cartularyref05_Stored (x0 : ByteArray) (w : World) (R : Value → World → Prop) : Prop :=
  ∃ I1 : ByteArray → ByteArray → World → Prop, ∃ I2 : ByteArray → ByteArray → World → Nat, (I1 x0 (ByteArray.mk (Array.mk [])) w ∧
   ∀ s3 : ByteArray,
   ∀ s4 : ByteArray,
   ∀ w5 : World,
   (I1 s3 s4 w5 →
     (((decide ((↑(ByteArray.size s3) : Int) > 65535) = true →
        (((0 : Int) ≤ (65535 : Int) ∧
          65535 ≤ (↑(ByteArray.size s3) : Int)) ∧
         (ByteArray.size (ByteArray.mk (Array.mk [0, 255, 255, 0, 0])) + ByteArray.size (ByteArray.extract s3 0 (Int.toNat 65535)) ≤ 9223372036854775807 ∧
          (ByteArray.size s4 + ByteArray.size (ByteArray.mk (Array.mk [0, 255, 255, 0, 0]) ++ ByteArray.extract s3 0 (Int.toNat 65535)) ≤ 9223372036854775807 ∧
           (((0 : Int) ≤ (65535 : Int) ∧
             65535 ≤ (↑(ByteArray.size s3) : Int)) ∧
            (I1 (ByteArray.extract s3 (Int.toNat 65535) (ByteArray.size s3)) (s4 ++ (ByteArray.mk (Array.mk [0, 255, 255, 0, 0]) ++ ByteArray.extract s3 0 (Int.toNat 65535))) w5 ∧
             I2 (ByteArray.extract s3 (Int.toNat 65535) (ByteArray.size s3)) (s4 ++ (ByteArray.mk (Array.mk [0, 255, 255, 0, 0]) ++ ByteArray.extract s3 0 (Int.toNat 65535))) w5 < I2 s3 s4 w5))))))) ∧
      (decide ((↑(ByteArray.size s3) : Int) > 65535) = false →
        ((256 : Int) ≠ (0 : Int) ∧
         ((256 : Int) ≠ (0 : Int) ∧
          ((256 : Int) ≠ (0 : Int) ∧
           ((256 : Int) ≠ (0 : Int) ∧
            ∀ w6 : World,
            (w6 = World.alloc w5 (Obj.cells (Array.mk [Value.int IntKind.u8 1, Value.int IntKind.u8 (IntKind.wrap IntKind.u8 (Int.tmod (↑(ByteArray.size s3) : Int) 256)), Value.int IntKind.u8 (IntKind.wrap IntKind.u8 (IntKind.wrap IntKind.i64 (Int.tdiv (↑(ByteArray.size s3) : Int) 256))), Value.int IntKind.u8 (IntKind.wrap IntKind.u8 (IntKind.wrap IntKind.i64 (255 - Int.tmod (↑(ByteArray.size s3) : Int) 256))), Value.int IntKind.u8 (IntKind.wrap IntKind.u8 (IntKind.wrap IntKind.i64 (255 - IntKind.wrap IntKind.i64 (Int.tdiv (↑(ByteArray.size s3) : Int) 256))))]) 5) →
              ∃ w7 : World, ∃ s8 : ByteArray, (Sem.run Try.prog (convert 40 9 (Value.slice (some (Addr.mk (Array.size (World.heap w5)) 0 none)) 5 5)) w6 = Result.ok (Value.string s8) w7 ∧
               (ByteArray.size s4 + ByteArray.size s8 ≤ 9223372036854775807 ∧
                (ByteArray.size (s4 ++ s8) + ByteArray.size s3 ≤ 9223372036854775807 ∧
                 R (Value.string (s4 ++ s8 ++ s3)) w7))))))))))))
theorem vc_cartularyref05_Stored_ok {x0 : ByteArray} {w : World} {R : Value → World → Prop} {R' : Ending → World → Prop} (h : vc_cartularyref05_Stored x0 w R) (hR : ∀ v w', R v w' → R' (.returned v) w') :
    Calls Try.prog 22 #[.string x0] w R' :=
  calls_of_body (vs := [(.string x0, false)]) (ty := ty) (ann := ⟨[], [(2, [(0, .str), (3, .str)])], [], []⟩) (c := Try.f22.body.getD .skip) (by kernel_rfl) Try.func22 (by kernel_rfl) (by kernel_rfl) (Eq.mp (by kernel_rfl) h) hR
end Go.Proofs.Ytofejgaanpaieaa

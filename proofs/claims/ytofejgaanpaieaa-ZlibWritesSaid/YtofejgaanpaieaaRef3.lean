/- Formulas of 4 Go functions of this seat (written by a program of the author's, vcgen.py), and that each is enough for the call. No condition. -/
import Derived.Test.YtofejgaanpaieaaTy
import Derived.Test.YtofejgaanpaieaaProg
set_option linter.unusedVariables false
namespace Go.Proofs.Ytofejgaanpaieaa
open Go Vc Go.Proofs
set_option maxRecDepth 100000
/-- cartularyref03.Number -/
def vc_cartularyref03_Number (x0a : Option Addr) (x0n : Nat) (x0c : Nat) (w : World) (R : Value → World → Prop) : Prop :=
  ∃ I1 : Int → Int → World → Prop, ∃ I2 : Int → Int → World → Nat, (I1 0 (IntKind.wrap IntKind.i64 ((↑x0n : Int) - 1)) w ∧
   ∀ n3 : Int,
   ∀ n4 : Int,
   ∀ w5 : World,
   (I1 n3 n4 w5 →
     (((decide (n4 ≥ 0) = true →
        ((0 ≤ n4 ∧
          n4 < (↑x0n : Int)) ∧
         ∃ a6 : Addr, (x0a = some a6 ∧
          ∃ b7 : Bool, (World.cell? w5 (Addr.add a6 (Int.toNat n4 * 1)) = some (Value.bool b7) ∧
           (((b7 = true →
              (I1 (IntKind.wrap IntKind.u32 (IntKind.wrap IntKind.u32 (2 * n3) + 1)) (IntKind.wrap IntKind.i64 (n4 - 1)) w5 ∧
               I2 (IntKind.wrap IntKind.u32 (IntKind.wrap IntKind.u32 (2 * n3) + 1)) (IntKind.wrap IntKind.i64 (n4 - 1)) w5 < I2 n3 n4 w5))) ∧
            (b7 = false →
              (I1 (IntKind.wrap IntKind.u32 (2 * n3)) (IntKind.wrap IntKind.i64 (n4 - 1)) w5 ∧
               I2 (IntKind.wrap IntKind.u32 (2 * n3)) (IntKind.wrap IntKind.i64 (n4 - 1)) w5 < I2 n3 n4 w5)))))))) ∧
      (decide (n4 ≥ 0) = false →
        R (Value.int IntKind.u32 n3) w5))))
theorem vc_cartularyref03_Number_ok {x0a : Option Addr} {x0n : Nat} {x0c : Nat} {w : World} {R : Value → World → Prop} {R' : Ending → World → Prop} (h : vc_cartularyref03_Number x0a x0n x0c w R) (hR : ∀ v w', R v w' → R' (.returned v) w') :
    Calls Try.prog 58 #[.slice x0a x0n x0c] w R' :=
  calls_of_body (vs := [(.slice x0a x0n x0c, false)]) (ty := ty) (ann := ⟨[], [(3, [(3, .int .u32), (4, .int .i64)])], [], []⟩) (c := Try.f58.body.getD .skip) (by kernel_rfl) Try.func58 (by kernel_rfl) (by kernel_rfl) (Eq.mp (by kernel_rfl) h) hR
/-- cartularyref03.Bits -/
def vc_cartularyref03_Bits (x0 : ByteArray) (w : World) (R : Value → World → Prop) : Prop :=
  ∀ w1 : World,
  (w1 = World.alloc w (Obj.cells (Array.mk []) 4) →
    ∃ I2 : Sl → Int → World → Prop, ∃ I3 : Sl → Int → World → Nat, (I2 (Sl.mk (some (Addr.mk (Array.size (World.heap w)) 0 none)) 0 0) 0 w1 ∧
     ∀ l4 : Sl,
     ∀ n5 : Int,
     ∀ w6 : World,
     (I2 l4 n5 w6 →
       (((decide (n5 < (↑(ByteArray.size x0) : Int)) = true →
          ∃ I7 : Sl → Int → World → Prop, ∃ I8 : Sl → Int → World → Nat, (I7 (Sl.mk l4.1 l4.2 l4.3) 0 w6 ∧
           ∀ l9 : Sl,
           ∀ n10 : Int,
           ∀ w11 : World,
           (I7 l9 n10 w11 →
             (((decide (n10 < 8) = true →
                ((0 ≤ n5 ∧
                  n5 < (↑(ByteArray.size x0) : Int)) ∧
                 (0 ≤ n10 ∧
                  ∀ w12 : World,
                  (w12 = World.alloc w11 (Obj.cells (Array.mk [Value.bool (IntKind.wrap IntKind.u8 (↑(BitVec.toNat (BitVec.ofInt 8 (Int.fdiv (byteAt x0 n5) (2 ^ min (Int.toNat n10) 8)) &&& BitVec.ofInt 8 1)) : Int) == 1)]) 4) →
                    ∃ w13 : World, ∃ l14 : Sl, (Sem.run Try.prog (Builtin.append_ (Array.mk [52, 52]) 52 (Array.mk [Value.slice l9.1 l9.2 l9.3, Value.slice (some (Addr.mk (Array.size (World.heap w11)) 0 none)) 1 1])) w12 = Result.ok (Value.slice l14.1 l14.2 l14.3) w13 ∧
                     (I7 (Sl.mk l14.1 l14.2 l14.3) (IntKind.wrap IntKind.i64 (n10 + 1)) w13 ∧
                      I8 (Sl.mk l14.1 l14.2 l14.3) (IntKind.wrap IntKind.i64 (n10 + 1)) w13 < I8 l9 n10 w11))))))) ∧
              (decide (n10 < 8) = false →
                (I2 (Sl.mk l9.1 l9.2 l9.3) (IntKind.wrap IntKind.i64 (n5 + 1)) w11 ∧
                 I3 (Sl.mk l9.1 l9.2 l9.3) (IntKind.wrap IntKind.i64 (n5 + 1)) w11 < I3 l4 n5 w6))))))) ∧
        (decide (n5 < (↑(ByteArray.size x0) : Int)) = false →
          R (Value.slice l4.1 l4.2 l4.3) w6)))))
theorem vc_cartularyref03_Bits_ok {x0 : ByteArray} {w : World} {R : Value → World → Prop} {R' : Ending → World → Prop} (h : vc_cartularyref03_Bits x0 w R) (hR : ∀ v w', R v w' → R' (.returned v) w') :
    Calls Try.prog 29 #[.string x0] w R' :=
  calls_of_body (vs := [(.string x0, false)]) (ty := ty) (ann := ⟨[], [(3, [(3, .slice), (4, .int .i64)]), (6, [(3, .slice), (5, .int .i64)])], [], []⟩) (c := Try.f29.body.getD .skip) (by kernel_rfl) Try.func29 (by kernel_rfl) (by kernel_rfl) (Eq.mp (by kernel_rfl) h) hR
/-- cartularyref03.Up -/
def vc_cartularyref03_Up (x0 : Int) (w : World) (R : Value → World → Prop) : Prop :=
  ((8 : Int) ≠ (0 : Int) ∧
   R (Value.int IntKind.i64 (IntKind.wrap IntKind.i64 (IntKind.wrap IntKind.i64 (Int.tdiv (IntKind.wrap IntKind.i64 (x0 + 7)) 8) * 8))) w)
theorem vc_cartularyref03_Up_ok {x0 : Int} {w : World} {R : Value → World → Prop} {R' : Ending → World → Prop} (h : vc_cartularyref03_Up x0 w R) (hR : ∀ v w', R v w' → R' (.returned v) w') :
    Calls Try.prog 36 #[.int .i64 x0] w R' :=
  calls_of_body (vs := [(.int .i64 x0, false)]) (ty := ty) (ann := ⟨[], [], [], []⟩) (c := Try.f36.body.getD .skip) (by kernel_rfl) Try.func36 (by kernel_rfl) (by kernel_rfl) (Eq.mp (by kernel_rfl) h) hR
/-- cartularylaw01.Few -/
def vc_cartularylaw01_Few (x0 : ByteArray) (x1 : Int) (w : World) (R : Value → World → Prop) : Prop :=
  (((decide ((↑(ByteArray.size x0) : Int) > x1) = true →
     ((0 ≤ x1 ∧
       x1 ≤ (↑(ByteArray.size x0) : Int)) ∧
      R (Value.string (ByteArray.extract x0 0 (Int.toNat x1))) w))) ∧
   (decide ((↑(ByteArray.size x0) : Int) > x1) = false →
     R (Value.string x0) w))
theorem vc_cartularylaw01_Few_ok {x0 : ByteArray} {x1 : Int} {w : World} {R : Value → World → Prop} {R' : Ending → World → Prop} (h : vc_cartularylaw01_Few x0 x1 w R) (hR : ∀ v w', R v w' → R' (.returned v) w') :
    Calls Try.prog 11 #[.string x0, .int .i64 x1] w R' :=
  calls_of_body (vs := [(.string x0, false), (.int .i64 x1, false)]) (ty := ty) (ann := ⟨[], [], [], []⟩) (c := Try.f11.body.getD .skip) (by kernel_rfl) Try.func11 (by kernel_rfl) (by kernel_rfl) (Eq.mp (by kernel_rfl) h) hR
end Go.Proofs.Ytofejgaanpaieaa

/- Formulas of 4 Go functions of this seat (written by a program of the author's, vcgen.py), and that each is enough for the call. No condition. -/
import Derived.Test.YtofejgaanpaieaaTy
import Derived.Test.YtofejgaanpaieaaProg
set_option linter.unusedVariables false
namespace Go.Proofs.Ytofejgaanpaieaa
open Go Vc Go.Proofs
set_option maxRecDepth 100000
/-- cartularyref01.Little -/
def vc_cartularyref01_Little (x0 : Int) (x1 : Int) (w : World) (R : Value → World → Prop) : Prop :=
  ∀ w1 : World,
  (w1 = World.alloc w (Obj.cells (Array.mk []) 5) →
    ∃ I2 : Int → Sl → Int → World → Prop, ∃ I3 : Int → Sl → Int → World → Nat, (I2 x0 (Sl.mk (some (Addr.mk (Array.size (World.heap w)) 0 none)) 0 0) 0 w1 ∧
     ∀ n4 : Int,
     ∀ l5 : Sl,
     ∀ n6 : Int,
     ∀ w7 : World,
     (I2 n4 l5 n6 w7 →
       (((decide (n6 < x1) = true →
          ((256 : Int) ≠ (0 : Int) ∧
           ∀ w8 : World,
           (w8 = World.alloc w7 (Obj.cells (Array.mk [Value.int IntKind.u8 (IntKind.wrap IntKind.u8 (Int.tmod n4 256))]) 5) →
             ∃ w9 : World, ∃ l10 : Sl, (Sem.run Try.prog (Builtin.append_ (Array.mk [40, 40]) 40 (Array.mk [Value.slice l5.1 l5.2 l5.3, Value.slice (some (Addr.mk (Array.size (World.heap w7)) 0 none)) 1 1])) w8 = Result.ok (Value.slice l10.1 l10.2 l10.3) w9 ∧
              ((256 : Int) ≠ (0 : Int) ∧
               (I2 (IntKind.wrap IntKind.u64 (Int.tdiv n4 256)) (Sl.mk l10.1 l10.2 l10.3) (IntKind.wrap IntKind.i64 (n6 + 1)) w9 ∧
                I3 (IntKind.wrap IntKind.u64 (Int.tdiv n4 256)) (Sl.mk l10.1 l10.2 l10.3) (IntKind.wrap IntKind.i64 (n6 + 1)) w9 < I3 n4 l5 n6 w7))))))) ∧
        (decide (n6 < x1) = false →
          ∃ w11 : World, ∃ s12 : ByteArray, (Sem.run Try.prog (convert 40 9 (Value.slice l5.1 l5.2 l5.3)) w7 = Result.ok (Value.string s12) w11 ∧
           R (Value.string s12) w11))))))
theorem vc_cartularyref01_Little_ok {x0 : Int} {x1 : Int} {w : World} {R : Value → World → Prop} {R' : Ending → World → Prop} (h : vc_cartularyref01_Little x0 x1 w R) (hR : ∀ v w', R v w' → R' (.returned v) w') :
    Calls Try.prog 67 #[.int .u64 x0, .int .i64 x1] w R' :=
  calls_of_body (vs := [(.int .u64 x0, false), (.int .i64 x1, false)]) (ty := ty) (ann := ⟨[], [(3, [(0, .int .u64), (5, .slice), (6, .int .i64)])], [], []⟩) (c := Try.f67.body.getD .skip) (by kernel_rfl) Try.func67 (by kernel_rfl) (by kernel_rfl) (Eq.mp (by kernel_rfl) h) hR
/-- cartularyref01.Turn -/
def vc_cartularyref01_Turn (x0 : ByteArray) (w : World) (R : Value → World → Prop) : Prop :=
  ∀ w1 : World,
  (w1 = World.alloc w (Obj.cells (Array.mk []) 5) →
    ∃ I2 : Sl → Int → World → Prop, ∃ I3 : Sl → Int → World → Nat, (I2 (Sl.mk (some (Addr.mk (Array.size (World.heap w)) 0 none)) 0 0) (IntKind.wrap IntKind.i64 ((↑(ByteArray.size x0) : Int) - 1)) w1 ∧
     ∀ l4 : Sl,
     ∀ n5 : Int,
     ∀ w6 : World,
     (I2 l4 n5 w6 →
       (((decide (n5 ≥ 0) = true →
          ((0 ≤ n5 ∧
            n5 < (↑(ByteArray.size x0) : Int)) ∧
           ∀ w7 : World,
           (w7 = World.alloc w6 (Obj.cells (Array.mk [Value.int IntKind.u8 (byteAt x0 n5)]) 5) →
             ∃ w8 : World, ∃ l9 : Sl, (Sem.run Try.prog (Builtin.append_ (Array.mk [40, 40]) 40 (Array.mk [Value.slice l4.1 l4.2 l4.3, Value.slice (some (Addr.mk (Array.size (World.heap w6)) 0 none)) 1 1])) w7 = Result.ok (Value.slice l9.1 l9.2 l9.3) w8 ∧
              (I2 (Sl.mk l9.1 l9.2 l9.3) (IntKind.wrap IntKind.i64 (n5 - 1)) w8 ∧
               I3 (Sl.mk l9.1 l9.2 l9.3) (IntKind.wrap IntKind.i64 (n5 - 1)) w8 < I3 l4 n5 w6)))))) ∧
        (decide (n5 ≥ 0) = false →
          ∃ w10 : World, ∃ s11 : ByteArray, (Sem.run Try.prog (convert 40 9 (Value.slice l4.1 l4.2 l4.3)) w6 = Result.ok (Value.string s11) w10 ∧
           R (Value.string s11) w10))))))
theorem vc_cartularyref01_Turn_ok {x0 : ByteArray} {w : World} {R : Value → World → Prop} {R' : Ending → World → Prop} (h : vc_cartularyref01_Turn x0 w R) (hR : ∀ v w', R v w' → R' (.returned v) w') :
    Calls Try.prog 66 #[.string x0] w R' :=
  calls_of_body (vs := [(.string x0, false)]) (ty := ty) (ann := ⟨[], [(3, [(3, .slice), (4, .int .i64)])], [], []⟩) (c := Try.f66.body.getD .skip) (by kernel_rfl) Try.func66 (by kernel_rfl) (by kernel_rfl) (Eq.mp (by kernel_rfl) h) hR
/-- cartularyref01.Big -/
def vc_cartularyref01_Big (x0 : Int) (x1 : Int) (w : World) (R : Value → World → Prop) : Prop :=
  Calls Try.prog (67 : Nat) (Array.mk [Value.int IntKind.u64 x0, Value.int IntKind.i64 x1]) (w) (fun e1 w2 =>
    ∃ s3 : ByteArray, (e1 = Ending.returned (Value.string s3) ∧
     Calls Try.prog (66 : Nat) (Array.mk [Value.string s3]) (w2) (fun e4 w5 =>
       ∃ s6 : ByteArray, (e4 = Ending.returned (Value.string s6) ∧
        R (Value.string s6) w5))))
theorem vc_cartularyref01_Big_ok {x0 : Int} {x1 : Int} {w : World} {R : Value → World → Prop} {R' : Ending → World → Prop} (h : vc_cartularyref01_Big x0 x1 w R) (hR : ∀ v w', R v w' → R' (.returned v) w') :
    Calls Try.prog 39 #[.int .u64 x0, .int .i64 x1] w R' :=
  calls_of_body (vs := [(.int .u64 x0, false), (.int .i64 x1, false)]) (ty := ty) (ann := ⟨[], [], [], []⟩) (c := Try.f39.body.getD .skip) (by kernel_rfl) Try.func39 (by kernel_rfl) (by kernel_rfl) (Eq.mp (by kernel_rfl) h) hR
/-- cartularyref01.Adler32 -/
def vc_cartularyref01_Adler32 (x0 : ByteArray) (w : World) (R : Value → World → Prop) : Prop :=
  ∃ I1 : Int → Int → Int → World → Prop, ∃ I2 : Int → Int → Int → World → Nat, (I1 1 0 0 w ∧
   ∀ n3 : Int,
   ∀ n4 : Int,
   ∀ n5 : Int,
   ∀ w6 : World,
   (I1 n3 n4 n5 w6 →
     (((decide (n5 < (↑(ByteArray.size x0) : Int)) = true →
        ((0 ≤ n5 ∧
          n5 < (↑(ByteArray.size x0) : Int)) ∧
         ((65521 : Int) ≠ (0 : Int) ∧
          ((65521 : Int) ≠ (0 : Int) ∧
           (I1 (Int.tmod (IntKind.wrap IntKind.i64 (n3 + IntKind.wrap IntKind.i64 (byteAt x0 n5))) 65521) (Int.tmod (IntKind.wrap IntKind.i64 (n4 + Int.tmod (IntKind.wrap IntKind.i64 (n3 + IntKind.wrap IntKind.i64 (byteAt x0 n5))) 65521)) 65521) (IntKind.wrap IntKind.i64 (n5 + 1)) w6 ∧
            I2 (Int.tmod (IntKind.wrap IntKind.i64 (n3 + IntKind.wrap IntKind.i64 (byteAt x0 n5))) 65521) (Int.tmod (IntKind.wrap IntKind.i64 (n4 + Int.tmod (IntKind.wrap IntKind.i64 (n3 + IntKind.wrap IntKind.i64 (byteAt x0 n5))) 65521)) 65521) (IntKind.wrap IntKind.i64 (n5 + 1)) w6 < I2 n3 n4 n5 w6)))))) ∧
      (decide (n5 < (↑(ByteArray.size x0) : Int)) = false →
        R (Value.int IntKind.u32 (IntKind.wrap IntKind.u32 (IntKind.wrap IntKind.i64 (IntKind.wrap IntKind.i64 (65536 * n4) + n3)))) w6))))
theorem vc_cartularyref01_Adler32_ok {x0 : ByteArray} {w : World} {R : Value → World → Prop} {R' : Ending → World → Prop} (h : vc_cartularyref01_Adler32 x0 w R) (hR : ∀ v w', R v w' → R' (.returned v) w') :
    Calls Try.prog 40 #[.string x0] w R' :=
  calls_of_body (vs := [(.string x0, false)]) (ty := ty) (ann := ⟨[], [(3, [(3, .int .i64), (4, .int .i64), (5, .int .i64)])], [], []⟩) (c := Try.f40.body.getD .skip) (by kernel_rfl) Try.func40 (by kernel_rfl) (by kernel_rfl) (Eq.mp (by kernel_rfl) h) hR
end Go.Proofs.Ytofejgaanpaieaa

/- Formulas of 11 Go functions of this seat (written by a program of the author's, vcgen.py), and that each is enough for the call. No condition. -/
import Derived.Test.YtofejgaanpaieaaTy
import Derived.Test.YtofejgaanpaieaaProg
set_option linter.unusedVariables false
namespace Go.Proofs.Ytofejgaanpaieaa
open Go Vc Go.Proofs
set_option maxRecDepth 100000
/-- sums.FromLittle -/
def vc_sums_FromLittle (x0 : ByteArray) (w : World) (R : Value → World → Prop) : Prop :=
  ∃ I1 : Int → Int → World → Prop, ∃ I2 : Int → Int → World → Nat, (I1 0 0 w ∧
   ∀ n3 : Int,
   ∀ n4 : Int,
   ∀ w5 : World,
   (I1 n3 n4 w5 →
     ((((decide (n4 < if 8 < (↑(ByteArray.size x0) : Int) then 8 else (↑(ByteArray.size x0) : Int)) = true) →
        ((0 ≤ n4 ∧
          n4 < (↑(ByteArray.size x0) : Int)) ∧
         (0 ≤ IntKind.wrap IntKind.i64 (8 * n4) ∧
          (I1 (IntKind.wrap IntKind.u64 (↑(BitVec.toNat (BitVec.ofInt 64 n3 ||| BitVec.ofInt 64 (IntKind.wrap IntKind.u64 (IntKind.wrap IntKind.u64 (byteAt x0 n4) * 2 ^ min (Int.toNat (IntKind.wrap IntKind.i64 (8 * n4))) 64)))) : Int)) (IntKind.wrap IntKind.i64 (n4 + 1)) w5 ∧
           I2 (IntKind.wrap IntKind.u64 (↑(BitVec.toNat (BitVec.ofInt 64 n3 ||| BitVec.ofInt 64 (IntKind.wrap IntKind.u64 (IntKind.wrap IntKind.u64 (byteAt x0 n4) * 2 ^ min (Int.toNat (IntKind.wrap IntKind.i64 (8 * n4))) 64)))) : Int)) (IntKind.wrap IntKind.i64 (n4 + 1)) w5 < I2 n3 n4 w5))))) ∧
      ((decide (n4 < if 8 < (↑(ByteArray.size x0) : Int) then 8 else (↑(ByteArray.size x0) : Int)) = false) →
        R (Value.int IntKind.u64 n3) w5))))
theorem vc_sums_FromLittle_ok {x0 : ByteArray} {w : World} {R : Value → World → Prop} {R' : Ending → World → Prop} (h : vc_sums_FromLittle x0 w R) (hR : ∀ v w', R v w' → R' (.returned v) w') :
    Calls Try.prog 74 #[.string x0] w R' :=
  calls_of_body (vs := [(.string x0, false)]) (ty := ty) (ann := ⟨[], [(3, [(3, .int .u64), (8, .int .i64)])], [], []⟩) (c := Try.f74.body.getD .skip) (by kernel_rfl) Try.func74 (by kernel_rfl) (by kernel_rfl) (Eq.mp (by kernel_rfl) h) hR
/-- inflate.order -/
def vc_inflate_order (w : World) (R : Value → World → Prop) : Prop :=
  ∀ w1 : World,
  (w1 = World.alloc w (Obj.cells (Array.mk [Value.int IntKind.i64 0, Value.int IntKind.i64 0, Value.int IntKind.i64 0, Value.int IntKind.i64 0, Value.int IntKind.i64 0, Value.int IntKind.i64 0, Value.int IntKind.i64 0, Value.int IntKind.i64 0, Value.int IntKind.i64 0, Value.int IntKind.i64 0, Value.int IntKind.i64 0, Value.int IntKind.i64 0, Value.int IntKind.i64 0, Value.int IntKind.i64 0, Value.int IntKind.i64 0, Value.int IntKind.i64 0, Value.int IntKind.i64 0, Value.int IntKind.i64 0, Value.int IntKind.i64 0]) 113) →
    ∃ w2 : World, (Sem.run Try.prog (storeVar 113 (Addr.mk (Array.size (World.heap w)) 0 none) (Value.agg (Array.mk [Value.int IntKind.i64 16, Value.int IntKind.i64 17, Value.int IntKind.i64 18, Value.int IntKind.i64 0, Value.int IntKind.i64 8, Value.int IntKind.i64 7, Value.int IntKind.i64 9, Value.int IntKind.i64 6, Value.int IntKind.i64 10, Value.int IntKind.i64 5, Value.int IntKind.i64 11, Value.int IntKind.i64 4, Value.int IntKind.i64 12, Value.int IntKind.i64 3, Value.int IntKind.i64 13, Value.int IntKind.i64 2, Value.int IntKind.i64 14, Value.int IntKind.i64 1, Value.int IntKind.i64 15]))) w1 = Result.ok PUnit.unit w2 ∧
     ∃ v3 : Value, (Sem.run Try.prog (loadVar 113 (Addr.mk (Array.size (World.heap w)) 0 none)) w2 = Result.ok v3 w2 ∧
      R v3 w2)))
theorem vc_inflate_order_ok {w : World} {R : Value → World → Prop} {R' : Ending → World → Prop} (h : vc_inflate_order w R) (hR : ∀ v w', R v w' → R' (.returned v) w') :
    Calls Try.prog 76 #[] w R' :=
  calls_of_body (vs := []) (ty := ty) (ann := ⟨[], [], [], []⟩) (c := Try.f76.body.getD .skip) (by kernel_rfl) Try.func76 (by kernel_rfl) (by kernel_rfl) (Eq.mp (by kernel_rfl) h) hR
/-- inflate.lengthBase -/
def vc_inflate_lengthBase (x0 : Int) (w : World) (R : Value → World → Prop) : Prop :=
  ((((x0 == 28) = true →
     R (Value.tuple (Array.mk [Value.int IntKind.i64 258, Value.int IntKind.i64 0])) w)) ∧
   ((x0 == 28) = false →
     (((decide (x0 < 8) = true →
        R (Value.tuple (Array.mk [Value.int IntKind.i64 (IntKind.wrap IntKind.i64 (3 + x0)), Value.int IntKind.i64 0])) w)) ∧
      (decide (x0 < 8) = false →
        ((4 : Int) ≠ (0 : Int) ∧
         ((4 : Int) ≠ (0 : Int) ∧
          (0 ≤ IntKind.wrap IntKind.i64 (IntKind.wrap IntKind.i64 (Int.tdiv x0 4) - 1) ∧
           R (Value.tuple (Array.mk [Value.int IntKind.i64 (IntKind.wrap IntKind.i64 (3 + IntKind.wrap IntKind.i64 (IntKind.wrap IntKind.i64 (4 + Int.tmod x0 4) * 2 ^ min (Int.toNat (IntKind.wrap IntKind.i64 (IntKind.wrap IntKind.i64 (Int.tdiv x0 4) - 1))) 64))), Value.int IntKind.i64 (IntKind.wrap IntKind.i64 (IntKind.wrap IntKind.i64 (Int.tdiv x0 4) - 1))])) w)))))))
theorem vc_inflate_lengthBase_ok {x0 : Int} {w : World} {R : Value → World → Prop} {R' : Ending → World → Prop} (h : vc_inflate_lengthBase x0 w R) (hR : ∀ v w', R v w' → R' (.returned v) w') :
    Calls Try.prog 49 #[.int .i64 x0] w R' :=
  calls_of_body (vs := [(.int .i64 x0, false)]) (ty := ty) (ann := ⟨[], [], [], []⟩) (c := Try.f49.body.getD .skip) (by kernel_rfl) Try.func49 (by kernel_rfl) (by kernel_rfl) (Eq.mp (by kernel_rfl) h) hR
/-- inflate.distBase -/
def vc_inflate_distBase (x0 : Int) (w : World) (R : Value → World → Prop) : Prop :=
  (((decide (x0 < 4) = true →
     R (Value.tuple (Array.mk [Value.int IntKind.i64 (IntKind.wrap IntKind.i64 (1 + x0)), Value.int IntKind.i64 0])) w)) ∧
   (decide (x0 < 4) = false →
     ((2 : Int) ≠ (0 : Int) ∧
      ((2 : Int) ≠ (0 : Int) ∧
       (0 ≤ IntKind.wrap IntKind.i64 (IntKind.wrap IntKind.i64 (Int.tdiv x0 2) - 1) ∧
        R (Value.tuple (Array.mk [Value.int IntKind.i64 (IntKind.wrap IntKind.i64 (1 + IntKind.wrap IntKind.i64 (IntKind.wrap IntKind.i64 (2 + Int.tmod x0 2) * 2 ^ min (Int.toNat (IntKind.wrap IntKind.i64 (IntKind.wrap IntKind.i64 (Int.tdiv x0 2) - 1))) 64))), Value.int IntKind.i64 (IntKind.wrap IntKind.i64 (IntKind.wrap IntKind.i64 (Int.tdiv x0 2) - 1))])) w)))))
theorem vc_inflate_distBase_ok {x0 : Int} {w : World} {R : Value → World → Prop} {R' : Ending → World → Prop} (h : vc_inflate_distBase x0 w R) (hR : ∀ v w', R v w' → R' (.returned v) w') :
    Calls Try.prog 50 #[.int .i64 x0] w R' :=
  calls_of_body (vs := [(.int .i64 x0, false)]) (ty := ty) (ann := ⟨[], [], [], []⟩) (c := Try.f50.body.getD .skip) (by kernel_rfl) Try.func50 (by kernel_rfl) (by kernel_rfl) (Eq.mp (by kernel_rfl) h) hR
/-- (*inflate.state).put -/
def vc_inflate_state_put (x0 : Nat) (x1 : Int) (w : World) (R : Value → World → Prop) : Prop :=
  ∃ l1 : Sl, (World.cell? w (Addr.mk x0 1 none) = some (Value.slice l1.1 l1.2 l1.3) ∧
   ∃ n2 : Int, (World.cell? w (Addr.mk x0 2 none) = some (Value.int IntKind.i64 n2) ∧
    ∀ w3 : World,
    (Drew w w3 →
      (((((↑l1.2 : Int) == n2) = true →
         R (Value.int IntKind.i64 2) w3)) ∧
       (((↑l1.2 : Int) == n2) = false →
         ∃ l4 : Sl, (World.cell? w3 (Addr.mk x0 1 none) = some (Value.slice l4.1 l4.2 l4.3) ∧
          ∀ w5 : World,
          (w5 = World.alloc w3 (Obj.cells (Array.mk [Value.int IntKind.u8 x1]) 5) →
            ∃ w6 : World, ∃ l7 : Sl, (Sem.run Try.prog (Builtin.append_ (Array.mk [40, 40]) 40 (Array.mk [Value.slice l4.1 l4.2 l4.3, Value.slice (some (Addr.mk (Array.size (World.heap w3)) 0 none)) 1 1])) w5 = Result.ok (Value.slice l7.1 l7.2 l7.3) w6 ∧
             (Wr w6 (Addr.mk x0 1 none) ∧
              ∀ w8 : World,
              (w8 = World.setCell w6 (Addr.mk x0 1 none) (Value.slice l7.1 l7.2 l7.3) →
                R (Value.int IntKind.i64 0) w8))))))))))
theorem vc_inflate_state_put_ok {x0 : Nat} {x1 : Int} {w : World} {R : Value → World → Prop} {R' : Ending → World → Prop} (h : vc_inflate_state_put x0 x1 w R) (hR : ∀ v w', R v w' → R' (.returned v) w') :
    Calls Try.prog 56 #[.pointer (some ⟨x0, 0, none⟩), .int .u8 x1] w R' :=
  calls_of_body (vs := [(.pointer (some ⟨x0, 0, none⟩), true), (.int .u8 x1, false)]) (ty := ty) (ann := ⟨[], [], [(1, .quiet)], []⟩) (c := Try.f56.body.getD .skip) (by kernel_rfl) Try.func56 (by kernel_rfl) (by kernel_rfl) (Eq.mp (by kernel_rfl) h) hR
/-- inflate.fixed -/
def vc_inflate_fixed (w : World) (R : Value → World → Prop) : Prop :=
  ∃ I1 : Sl → Int → World → Prop, ∃ I2 : Sl → Int → World → Nat, (I1 (Sl.mk none 0 0) 0 w ∧
   ∀ l3 : Sl,
   ∀ n4 : Int,
   ∀ w5 : World,
   (I1 l3 n4 w5 →
     (((decide (n4 < 288) = true →
        ∃ I6 : Bool → World → Prop, ((((decide (n4 < 144) = true →
            I6 (decide (n4 < 144)) w5)) ∧
          (decide (n4 < 144) = false →
            I6 (decide (n4 ≥ 280)) w5)) ∧
         ∀ b7 : Bool,
         ∀ w8 : World,
         (I6 b7 w8 →
           (((b7 = true →
              ∀ w9 : World,
              (w9 = World.alloc w8 (Obj.cells (Array.mk [Value.int IntKind.i64 8]) 3) →
                ∃ w10 : World, ∃ l11 : Sl, (Sem.run Try.prog (Builtin.append_ (Array.mk [58, 58]) 58 (Array.mk [Value.slice l3.1 l3.2 l3.3, Value.slice (some (Addr.mk (Array.size (World.heap w8)) 0 none)) 1 1])) w9 = Result.ok (Value.slice l11.1 l11.2 l11.3) w10 ∧
                 (I1 (Sl.mk l11.1 l11.2 l11.3) (IntKind.wrap IntKind.i64 (n4 + 1)) w10 ∧
                  I2 (Sl.mk l11.1 l11.2 l11.3) (IntKind.wrap IntKind.i64 (n4 + 1)) w10 < I2 l3 n4 w5))))) ∧
            (b7 = false →
              (((decide (n4 < 256) = true →
                 ∀ w12 : World,
                 (w12 = World.alloc w8 (Obj.cells (Array.mk [Value.int IntKind.i64 9]) 3) →
                   ∃ w13 : World, ∃ l14 : Sl, (Sem.run Try.prog (Builtin.append_ (Array.mk [58, 58]) 58 (Array.mk [Value.slice l3.1 l3.2 l3.3, Value.slice (some (Addr.mk (Array.size (World.heap w8)) 0 none)) 1 1])) w12 = Result.ok (Value.slice l14.1 l14.2 l14.3) w13 ∧
                    (I1 (Sl.mk l14.1 l14.2 l14.3) (IntKind.wrap IntKind.i64 (n4 + 1)) w13 ∧
                     I2 (Sl.mk l14.1 l14.2 l14.3) (IntKind.wrap IntKind.i64 (n4 + 1)) w13 < I2 l3 n4 w5))))) ∧
               (decide (n4 < 256) = false →
                 ∀ w15 : World,
                 (w15 = World.alloc w8 (Obj.cells (Array.mk [Value.int IntKind.i64 7]) 3) →
                   ∃ w16 : World, ∃ l17 : Sl, (Sem.run Try.prog (Builtin.append_ (Array.mk [58, 58]) 58 (Array.mk [Value.slice l3.1 l3.2 l3.3, Value.slice (some (Addr.mk (Array.size (World.heap w8)) 0 none)) 1 1])) w15 = Result.ok (Value.slice l17.1 l17.2 l17.3) w16 ∧
                    (I1 (Sl.mk l17.1 l17.2 l17.3) (IntKind.wrap IntKind.i64 (n4 + 1)) w16 ∧
                     I2 (Sl.mk l17.1 l17.2 l17.3) (IntKind.wrap IntKind.i64 (n4 + 1)) w16 < I2 l3 n4 w5))))))))))) ∧
      (decide (n4 < 288) = false →
        ∃ I18 : Sl → Int → World → Prop, ∃ I19 : Sl → Int → World → Nat, (I18 (Sl.mk none 0 0) 0 w5 ∧
         ∀ l20 : Sl,
         ∀ n21 : Int,
         ∀ w22 : World,
         (I18 l20 n21 w22 →
           (((decide (n21 < 32) = true →
              ∀ w23 : World,
              (w23 = World.alloc w22 (Obj.cells (Array.mk [Value.int IntKind.i64 5]) 3) →
                ∃ w24 : World, ∃ l25 : Sl, (Sem.run Try.prog (Builtin.append_ (Array.mk [58, 58]) 58 (Array.mk [Value.slice l20.1 l20.2 l20.3, Value.slice (some (Addr.mk (Array.size (World.heap w22)) 0 none)) 1 1])) w23 = Result.ok (Value.slice l25.1 l25.2 l25.3) w24 ∧
                 (I18 (Sl.mk l25.1 l25.2 l25.3) (IntKind.wrap IntKind.i64 (n21 + 1)) w24 ∧
                  I19 (Sl.mk l25.1 l25.2 l25.3) (IntKind.wrap IntKind.i64 (n21 + 1)) w24 < I19 l20 n21 w22))))) ∧
            (decide (n21 < 32) = false →
              Calls Try.prog (69 : Nat) (Array.mk [Value.slice l3.1 l3.2 l3.3]) (w22) (fun e26 w27 =>
                ∃ p28 : Option Addr, ∃ n29 : Int, (e26 = Ending.returned (Value.tuple (Array.mk [Value.pointer p28, Value.int IntKind.i64 n29])) ∧
                 Calls Try.prog (69 : Nat) (Array.mk [Value.slice l20.1 l20.2 l20.3]) (w27) (fun e30 w31 =>
                   ∃ p32 : Option Addr, ∃ n33 : Int, (e30 = Ending.returned (Value.tuple (Array.mk [Value.pointer p32, Value.int IntKind.i64 n33])) ∧
                    R (Value.tuple (Array.mk [Value.pointer p28, Value.pointer p32])) w31))))))))))))
theorem vc_inflate_fixed_ok {w : World} {R : Value → World → Prop} {R' : Ending → World → Prop} (h : vc_inflate_fixed w R) (hR : ∀ v w', R v w' → R' (.returned v) w') :
    Calls Try.prog 45 #[] w R' :=
  calls_of_body (vs := []) (ty := ty) (ann := ⟨[(8, [(15, .bool)])], [(3, [(2, .slice), (9, .int .i64)]), (13, [(3, .slice), (30, .int .i64)])], [], []⟩) (c := Try.f45.body.getD .skip) (by kernel_rfl) Try.func45 (by kernel_rfl) (by kernel_rfl) (Eq.mp (by kernel_rfl) h) hR
/-- (*inflate.state).stored -/
def vc_inflate_state_stored (x0 : Nat) (w : World) (R : Value → World → Prop) : Prop :=
  ∃ p1 : Option Addr, (World.cell? w (Addr.mk x0 0 none) = some (Value.pointer p1) ∧
   Calls Try.prog (73 : Nat) (Array.mk [Value.pointer p1, Value.int IntKind.i64 4]) (w) (fun e2 w3 =>
     ∃ s4 : ByteArray, ∃ b5 : Bool, (e2 = Ending.returned (Value.tuple (Array.mk [Value.string s4, Value.bool b5])) ∧
      ((((!b5) = true →
         R (Value.int IntKind.i64 6) w3)) ∧
       ((!b5) = false →
         (((0 : Int) ≤ (2 : Int) ∧
           2 ≤ (↑(ByteArray.size s4) : Int)) ∧
          Calls Try.prog (74 : Nat) (Array.mk [Value.string (ByteArray.extract s4 0 (Int.toNat 2))]) (w3) (fun e6 w7 =>
            ∃ n8 : Int, (e6 = Ending.returned (Value.int IntKind.u64 n8) ∧
             (((0 : Int) ≤ (2 : Int) ∧
               2 ≤ (↑(ByteArray.size s4) : Int)) ∧
              Calls Try.prog (74 : Nat) (Array.mk [Value.string (ByteArray.extract s4 (Int.toNat 2) (ByteArray.size s4))]) (w7) (fun e9 w10 =>
                ∃ n11 : Int, (e9 = Ending.returned (Value.int IntKind.u64 n11) ∧
                 ((((IntKind.wrap IntKind.i64 (↑(BitVec.toNat (BitVec.ofInt 64 (IntKind.wrap IntKind.i64 n8) ^^^ BitVec.ofInt 64 65535)) : Int) != IntKind.wrap IntKind.i64 n11) = true →
                    R (Value.int IntKind.i64 3) w10)) ∧
                  ((IntKind.wrap IntKind.i64 (↑(BitVec.toNat (BitVec.ofInt 64 (IntKind.wrap IntKind.i64 n8) ^^^ BitVec.ofInt 64 65535)) : Int) != IntKind.wrap IntKind.i64 n11) = false →
                    ∃ p12 : Option Addr, (World.cell? w10 (Addr.mk x0 0 none) = some (Value.pointer p12) ∧
                     Calls Try.prog (73 : Nat) (Array.mk [Value.pointer p12, Value.int IntKind.i64 (IntKind.wrap IntKind.i64 n8)]) (w10) (fun e13 w14 =>
                       ∃ s15 : ByteArray, ∃ b16 : Bool, (e13 = Ending.returned (Value.tuple (Array.mk [Value.string s15, Value.bool b16])) ∧
                        ∃ I17 : ByteArray → World → Prop, (((((!b16) = true →
                            ∀ w18 : World,
                            (Drew w14 w18 →
                              ∃ I19 : World → Prop, (I19 w18 ∧
                               ∃ p20 : Option Addr, ((∀ w21 : World,
                                (I19 w21 →
                                  World.cell? w21 (Addr.mk x0 0 none) = some (Value.pointer p20))) ∧
                                ∃ p22 : Option Addr, ((∀ w23 : World,
                                 (I19 w23 →
                                   World.cell? w23 (Addr.mk x0 0 none) = some (Value.pointer p22))) ∧
                                 Calls Try.prog (75 : Nat) (Array.mk [Value.pointer p22]) (w18) (fun e24 w25 =>
                                   ∃ n26 : Int, (e24 = Ending.returned (Value.int IntKind.i64 n26) ∧
                                    (I19 w25 ∧
                                     ((8 : Int) ≠ (0 : Int) ∧
                                      Calls Try.prog (73 : Nat) (Array.mk [Value.pointer p20, Value.int IntKind.i64 (IntKind.wrap IntKind.i64 (Int.tdiv n26 8))]) (w25) (fun e27 w28 =>
                                        ∃ s29 : ByteArray, ∃ b30 : Bool, (e27 = Ending.returned (Value.tuple (Array.mk [Value.string s29, Value.bool b30])) ∧
                                         (I19 w28 ∧
                                          I17 s29 w28))))))))))))) ∧
                          ((!b16) = false →
                            I17 s15 w14)) ∧
                         ∀ s31 : ByteArray,
                         ∀ w32 : World,
                         (I17 s31 w32 →
                           ∃ n33 : Int, (World.cell? w32 (Addr.mk x0 2 none) = some (Value.int IntKind.i64 n33) ∧
                            ∃ l34 : Sl, (World.cell? w32 (Addr.mk x0 1 none) = some (Value.slice l34.1 l34.2 l34.3) ∧
                             ∀ w35 : World,
                             (Drew w32 w35 →
                               (((decide ((↑(ByteArray.size s31) : Int) > IntKind.wrap IntKind.i64 (n33 - (↑l34.2 : Int))) = true →
                                  R (Value.int IntKind.i64 2) w35)) ∧
                                (decide ((↑(ByteArray.size s31) : Int) > IntKind.wrap IntKind.i64 (n33 - (↑l34.2 : Int))) = false →
                                  ∃ l36 : Sl, (World.cell? w35 (Addr.mk x0 1 none) = some (Value.slice l36.1 l36.2 l36.3) ∧
                                   ∃ w37 : World, ∃ l38 : Sl, (Sem.run Try.prog (Builtin.append_ (Array.mk [40, 9]) 40 (Array.mk [Value.slice l36.1 l36.2 l36.3, Value.string s31])) w35 = Result.ok (Value.slice l38.1 l38.2 l38.3) w37 ∧
                                    (Wr w37 (Addr.mk x0 1 none) ∧
                                     ∀ w39 : World,
                                     (w39 = World.setCell w37 (Addr.mk x0 1 none) (Value.slice l38.1 l38.2 l38.3) →
                                       ((((!b16) = true →
                                          R (Value.int IntKind.i64 6) w39)) ∧
                                        ((!b16) = false →
                                          R (Value.int IntKind.i64 0) w39)))))))))))))))))))))))))))))
theorem vc_inflate_state_stored_ok {x0 : Nat} {w : World} {R : Value → World → Prop} {R' : Ending → World → Prop} (h : vc_inflate_state_stored x0 w R) (hR : ∀ v w', R v w' → R' (.returned v) w') :
    Calls Try.prog 53 #[.pointer (some ⟨x0, 0, none⟩)] w R' :=
  calls_of_body (vs := [(.pointer (some ⟨x0, 0, none⟩), true)]) (ty := ty) (ann := ⟨[(10, [(6, .str)])], [], [(9, .held [(0, true), (1, true), (2, true), (3, true), (4, true), (5, true), (6, true), (7, true), (8, false), (9, true), (10, false), (11, true), (12, true), (13, true), (14, true)]), (10, .quiet)], []⟩) (c := Try.f53.body.getD .skip) (by kernel_rfl) Try.func53 (by kernel_rfl) (by kernel_rfl) (Eq.mp (by kernel_rfl) h) hR
/-- (*inflate.state).tables -/
def vc_inflate_state_tables (x0 : Nat) (w : World) (R : Value → World → Prop) : Prop :=
  ∃ p1 : Option Addr, (World.cell? w (Addr.mk x0 0 none) = some (Value.pointer p1) ∧
   Calls Try.prog (52 : Nat) (Array.mk [Value.pointer p1, Value.int IntKind.i64 14]) (w) (fun e2 w3 =>
     ∃ n4 : Int, ∃ b5 : Bool, (e2 = Ending.returned (Value.tuple (Array.mk [Value.int IntKind.u32 n4, Value.bool b5])) ∧
      ((((!b5) = true →
         R (Value.tuple (Array.mk [Value.pointer none, Value.pointer none, Value.int IntKind.i64 6])) w3)) ∧
       ((!b5) = false →
         ((0 : Int) ≤ (5 : Int) ∧
          ((0 : Int) ≤ (10 : Int) ∧
           (((decide (IntKind.wrap IntKind.i64 (IntKind.wrap IntKind.i64 (IntKind.wrap IntKind.u32 (↑(BitVec.toNat (BitVec.ofInt 32 n4 &&& BitVec.ofInt 32 31)) : Int)) + 257) > 286) = true →
              R (Value.tuple (Array.mk [Value.pointer none, Value.pointer none, Value.int IntKind.i64 3])) w3)) ∧
            (decide (IntKind.wrap IntKind.i64 (IntKind.wrap IntKind.i64 (IntKind.wrap IntKind.u32 (↑(BitVec.toNat (BitVec.ofInt 32 n4 &&& BitVec.ofInt 32 31)) : Int)) + 257) > 286) = false →
              (((decide (IntKind.wrap IntKind.i64 (IntKind.wrap IntKind.i64 (IntKind.wrap IntKind.u32 (↑(BitVec.toNat (BitVec.ofInt 32 (Int.fdiv n4 (2 ^ min (Int.toNat 5) 32)) &&& BitVec.ofInt 32 31)) : Int)) + 1) > 30) = true →
                 R (Value.tuple (Array.mk [Value.pointer none, Value.pointer none, Value.int IntKind.i64 3])) w3)) ∧
               (decide (IntKind.wrap IntKind.i64 (IntKind.wrap IntKind.i64 (IntKind.wrap IntKind.u32 (↑(BitVec.toNat (BitVec.ofInt 32 (Int.fdiv n4 (2 ^ min (Int.toNat 5) 32)) &&& BitVec.ofInt 32 31)) : Int)) + 1) > 30) = false →
                 ∃ w6 : World, ∃ l7 : Sl, (Sem.run Try.prog (Instr.makeSlice 58 (Value.int IntKind.i64 19) (Value.int IntKind.i64 19)) w3 = Result.ok (Value.slice l7.1 l7.2 l7.3) w6 ∧
                  ∃ I8 : Int → World → Prop, ∃ I9 : Int → World → Nat, (I8 0 w6 ∧
                   ∀ n10 : Int,
                   ∀ w11 : World,
                   (I8 n10 w11 →
                     (((decide (n10 < IntKind.wrap IntKind.i64 (IntKind.wrap IntKind.i64 (Int.fdiv n4 (2 ^ min (Int.toNat 10) 32)) + 4)) = true →
                        ∃ p12 : Option Addr, (World.cell? w11 (Addr.mk x0 0 none) = some (Value.pointer p12) ∧
                         Calls Try.prog (52 : Nat) (Array.mk [Value.pointer p12, Value.int IntKind.i64 3]) (w11) (fun e13 w14 =>
                           ∃ n15 : Int, ∃ b16 : Bool, (e13 = Ending.returned (Value.tuple (Array.mk [Value.int IntKind.u32 n15, Value.bool b16])) ∧
                            ((((!b16) = true →
                               R (Value.tuple (Array.mk [Value.pointer none, Value.pointer none, Value.int IntKind.i64 6])) w14)) ∧
                             ((!b16) = false →
                               Calls Try.prog (76 : Nat) (Array.mk []) (w14) (fun e17 w18 =>
                                 ∃ v19 : Value, (e17 = Ending.returned v19 ∧
                                  ∃ w20 : World, ∃ n21 : Int, (Sem.run Try.prog (Instr.index 113 v19 (Value.int IntKind.i64 n10)) w18 = Result.ok (Value.int IntKind.i64 n21) w20 ∧
                                   ((0 ≤ n21 ∧
                                     n21 < (↑l7.2 : Int)) ∧
                                    ∃ a22 : Addr, (l7.1 = some a22 ∧
                                     (Wr w20 (Addr.add a22 (Int.toNat n21 * 1)) ∧
                                      ∀ w23 : World,
                                      (w23 = World.setCell w20 (Addr.add a22 (Int.toNat n21 * 1)) (Value.int IntKind.i64 (IntKind.wrap IntKind.i64 n15)) →
                                        (I8 (IntKind.wrap IntKind.i64 (n10 + 1)) w23 ∧
                                         I9 (IntKind.wrap IntKind.i64 (n10 + 1)) w23 < I9 n10 w11))))))))))))))) ∧
                      (decide (n10 < IntKind.wrap IntKind.i64 (IntKind.wrap IntKind.i64 (Int.fdiv n4 (2 ^ min (Int.toNat 10) 32)) + 4)) = false →
                        Calls Try.prog (69 : Nat) (Array.mk [Value.slice l7.1 l7.2 l7.3]) (w11) (fun e24 w25 =>
                          ∃ p26 : Option Addr, ∃ n27 : Int, (e24 = Ending.returned (Value.tuple (Array.mk [Value.pointer p26, Value.int IntKind.i64 n27])) ∧
                           ((((n27 != 0) = true →
                              R (Value.tuple (Array.mk [Value.pointer none, Value.pointer none, Value.int IntKind.i64 3])) w25)) ∧
                            ((n27 != 0) = false →
                              ∃ I28 : Sl → World → Prop, ∃ I29 : Sl → World → Nat, (I28 (Sl.mk none 0 0) w25 ∧
                               ∀ l30 : Sl,
                               ∀ w31 : World,
                               (I28 l30 w31 →
                                 (((decide ((↑l30.2 : Int) < IntKind.wrap IntKind.i64 (IntKind.wrap IntKind.i64 (IntKind.wrap IntKind.i64 (IntKind.wrap IntKind.u32 (↑(BitVec.toNat (BitVec.ofInt 32 n4 &&& BitVec.ofInt 32 31)) : Int)) + 257) + IntKind.wrap IntKind.i64 (IntKind.wrap IntKind.i64 (IntKind.wrap IntKind.u32 (↑(BitVec.toNat (BitVec.ofInt 32 (Int.fdiv n4 (2 ^ min (Int.toNat 5) 32)) &&& BitVec.ofInt 32 31)) : Int)) + 1))) = true →
                                    ∃ p32 : Option Addr, (World.cell? w31 (Addr.mk x0 0 none) = some (Value.pointer p32) ∧
                                     Calls Try.prog (55 : Nat) (Array.mk [Value.pointer p26, Value.pointer p32]) (w31) (fun e33 w34 =>
                                       ∃ n35 : Int, ∃ n36 : Int, (e33 = Ending.returned (Value.tuple (Array.mk [Value.int IntKind.i64 n35, Value.int IntKind.i64 n36])) ∧
                                        ((((n36 != 0) = true →
                                           R (Value.tuple (Array.mk [Value.pointer none, Value.pointer none, Value.int IntKind.i64 n36])) w34)) ∧
                                         ((n36 != 0) = false →
                                           (((decide (n35 < 16) = true →
                                              ∀ w37 : World,
                                              (w37 = World.alloc w34 (Obj.cells (Array.mk [Value.int IntKind.i64 n35]) 3) →
                                                ∃ w38 : World, ∃ l39 : Sl, (Sem.run Try.prog (Builtin.append_ (Array.mk [58, 58]) 58 (Array.mk [Value.slice l30.1 l30.2 l30.3, Value.slice (some (Addr.mk (Array.size (World.heap w34)) 0 none)) 1 1])) w37 = Result.ok (Value.slice l39.1 l39.2 l39.3) w38 ∧
                                                 (I28 (Sl.mk l39.1 l39.2 l39.3) w38 ∧
                                                  I29 (Sl.mk l39.1 l39.2 l39.3) w38 < I29 l30 w31))))) ∧
                                            (decide (n35 < 16) = false →
                                              ∃ I40 : Int → Int → Int → World → Prop, (((((n35 == 16) = true →
                                                  (((((↑l30.2 : Int) == 0) = true →
                                                     R (Value.tuple (Array.mk [Value.pointer none, Value.pointer none, Value.int IntKind.i64 3])) w34)) ∧
                                                   (((↑l30.2 : Int) == 0) = false →
                                                     ((0 ≤ IntKind.wrap IntKind.i64 ((↑l30.2 : Int) - 1) ∧
                                                       IntKind.wrap IntKind.i64 ((↑l30.2 : Int) - 1) < (↑l30.2 : Int)) ∧
                                                      ∃ a41 : Addr, (l30.1 = some a41 ∧
                                                       ∃ n42 : Int, (World.cell? w34 (Addr.add a41 (Int.toNat (IntKind.wrap IntKind.i64 ((↑l30.2 : Int) - 1)) * 1)) = some (Value.int IntKind.i64 n42) ∧
                                                        I40 2 3 n42 w34))))))) ∧
                                                ((n35 == 16) = false →
                                                  ((((n35 == 17) = true →
                                                     I40 3 3 0 w34)) ∧
                                                   ((n35 == 17) = false →
                                                     I40 7 11 0 w34)))) ∧
                                               ∀ n43 : Int,
                                               ∀ n44 : Int,
                                               ∀ n45 : Int,
                                               ∀ w46 : World,
                                               (I40 n43 n44 n45 w46 →
                                                 ∃ p47 : Option Addr, (World.cell? w46 (Addr.mk x0 0 none) = some (Value.pointer p47) ∧
                                                  Calls Try.prog (52 : Nat) (Array.mk [Value.pointer p47, Value.int IntKind.i64 n43]) (w46) (fun e48 w49 =>
                                                    ∃ n50 : Int, ∃ b51 : Bool, (e48 = Ending.returned (Value.tuple (Array.mk [Value.int IntKind.u32 n50, Value.bool b51])) ∧
                                                     ((((!b51) = true →
                                                        R (Value.tuple (Array.mk [Value.pointer none, Value.pointer none, Value.int IntKind.i64 6])) w49)) ∧
                                                      ((!b51) = false →
                                                        (((decide (IntKind.wrap IntKind.i64 (IntKind.wrap IntKind.i64 ((↑l30.2 : Int) + n44) + IntKind.wrap IntKind.i64 n50) > IntKind.wrap IntKind.i64 (IntKind.wrap IntKind.i64 (IntKind.wrap IntKind.i64 (IntKind.wrap IntKind.u32 (↑(BitVec.toNat (BitVec.ofInt 32 n4 &&& BitVec.ofInt 32 31)) : Int)) + 257) + IntKind.wrap IntKind.i64 (IntKind.wrap IntKind.i64 (IntKind.wrap IntKind.u32 (↑(BitVec.toNat (BitVec.ofInt 32 (Int.fdiv n4 (2 ^ min (Int.toNat 5) 32)) &&& BitVec.ofInt 32 31)) : Int)) + 1))) = true →
                                                           R (Value.tuple (Array.mk [Value.pointer none, Value.pointer none, Value.int IntKind.i64 3])) w49)) ∧
                                                         (decide (IntKind.wrap IntKind.i64 (IntKind.wrap IntKind.i64 ((↑l30.2 : Int) + n44) + IntKind.wrap IntKind.i64 n50) > IntKind.wrap IntKind.i64 (IntKind.wrap IntKind.i64 (IntKind.wrap IntKind.i64 (IntKind.wrap IntKind.u32 (↑(BitVec.toNat (BitVec.ofInt 32 n4 &&& BitVec.ofInt 32 31)) : Int)) + 257) + IntKind.wrap IntKind.i64 (IntKind.wrap IntKind.i64 (IntKind.wrap IntKind.u32 (↑(BitVec.toNat (BitVec.ofInt 32 (Int.fdiv n4 (2 ^ min (Int.toNat 5) 32)) &&& BitVec.ofInt 32 31)) : Int)) + 1))) = false →
                                                           ∃ I52 : Sl → Int → World → Prop, ∃ I53 : Sl → Int → World → Nat, (I52 (Sl.mk l30.1 l30.2 l30.3) 0 w49 ∧
                                                            ∀ l54 : Sl,
                                                            ∀ n55 : Int,
                                                            ∀ w56 : World,
                                                            (I52 l54 n55 w56 →
                                                              (((decide (n55 < IntKind.wrap IntKind.i64 (n44 + IntKind.wrap IntKind.i64 n50)) = true →
                                                                 ∀ w57 : World,
                                                                 (w57 = World.alloc w56 (Obj.cells (Array.mk [Value.int IntKind.i64 n45]) 3) →
                                                                   ∃ w58 : World, ∃ l59 : Sl, (Sem.run Try.prog (Builtin.append_ (Array.mk [58, 58]) 58 (Array.mk [Value.slice l54.1 l54.2 l54.3, Value.slice (some (Addr.mk (Array.size (World.heap w56)) 0 none)) 1 1])) w57 = Result.ok (Value.slice l59.1 l59.2 l59.3) w58 ∧
                                                                    (I52 (Sl.mk l59.1 l59.2 l59.3) (IntKind.wrap IntKind.i64 (n55 + 1)) w58 ∧
                                                                     I53 (Sl.mk l59.1 l59.2 l59.3) (IntKind.wrap IntKind.i64 (n55 + 1)) w58 < I53 l54 n55 w56))))) ∧
                                                               (decide (n55 < IntKind.wrap IntKind.i64 (n44 + IntKind.wrap IntKind.i64 n50)) = false →
                                                                 (I28 (Sl.mk l54.1 l54.2 l54.3) w56 ∧
                                                                  I29 (Sl.mk l54.1 l54.2 l54.3) w56 < I29 l30 w31))))))))))))))))))))))) ∧
                                  (decide ((↑l30.2 : Int) < IntKind.wrap IntKind.i64 (IntKind.wrap IntKind.i64 (IntKind.wrap IntKind.i64 (IntKind.wrap IntKind.u32 (↑(BitVec.toNat (BitVec.ofInt 32 n4 &&& BitVec.ofInt 32 31)) : Int)) + 257) + IntKind.wrap IntKind.i64 (IntKind.wrap IntKind.i64 (IntKind.wrap IntKind.u32 (↑(BitVec.toNat (BitVec.ofInt 32 (Int.fdiv n4 (2 ^ min (Int.toNat 5) 32)) &&& BitVec.ofInt 32 31)) : Int)) + 1))) = false →
                                    ((0 ≤ IntKind.wrap IntKind.i64 (IntKind.wrap IntKind.i64 (IntKind.wrap IntKind.u32 (↑(BitVec.toNat (BitVec.ofInt 32 n4 &&& BitVec.ofInt 32 31)) : Int)) + 257) ∧
                                      IntKind.wrap IntKind.i64 (IntKind.wrap IntKind.i64 (IntKind.wrap IntKind.u32 (↑(BitVec.toNat (BitVec.ofInt 32 n4 &&& BitVec.ofInt 32 31)) : Int)) + 257) ≤ (↑l30.3 : Int)) ∧
                                     Calls Try.prog (69 : Nat) (Array.mk [Value.slice (subA l30.1 l30.3 0 1) (Int.toNat (IntKind.wrap IntKind.i64 (IntKind.wrap IntKind.i64 (IntKind.wrap IntKind.u32 (↑(BitVec.toNat (BitVec.ofInt 32 n4 &&& BitVec.ofInt 32 31)) : Int)) + 257))) l30.3]) (w31) (fun e60 w61 =>
                                       ∃ p62 : Option Addr, ∃ n63 : Int, (e60 = Ending.returned (Value.tuple (Array.mk [Value.pointer p62, Value.int IntKind.i64 n63])) ∧
                                        ((0 ≤ IntKind.wrap IntKind.i64 (IntKind.wrap IntKind.i64 (IntKind.wrap IntKind.u32 (↑(BitVec.toNat (BitVec.ofInt 32 n4 &&& BitVec.ofInt 32 31)) : Int)) + 257) ∧
                                          IntKind.wrap IntKind.i64 (IntKind.wrap IntKind.i64 (IntKind.wrap IntKind.u32 (↑(BitVec.toNat (BitVec.ofInt 32 n4 &&& BitVec.ofInt 32 31)) : Int)) + 257) ≤ (↑l30.2 : Int)) ∧
                                         Calls Try.prog (69 : Nat) (Array.mk [Value.slice (subA l30.1 l30.3 (Int.toNat (IntKind.wrap IntKind.i64 (IntKind.wrap IntKind.i64 (IntKind.wrap IntKind.u32 (↑(BitVec.toNat (BitVec.ofInt 32 n4 &&& BitVec.ofInt 32 31)) : Int)) + 257))) 1) (l30.2 - Int.toNat (IntKind.wrap IntKind.i64 (IntKind.wrap IntKind.i64 (IntKind.wrap IntKind.u32 (↑(BitVec.toNat (BitVec.ofInt 32 n4 &&& BitVec.ofInt 32 31)) : Int)) + 257))) (l30.3 - Int.toNat (IntKind.wrap IntKind.i64 (IntKind.wrap IntKind.i64 (IntKind.wrap IntKind.u32 (↑(BitVec.toNat (BitVec.ofInt 32 n4 &&& BitVec.ofInt 32 31)) : Int)) + 257)))]) (w61) (fun e64 w65 =>
                                           ∃ p66 : Option Addr, ∃ n67 : Int, (e64 = Ending.returned (Value.tuple (Array.mk [Value.pointer p66, Value.int IntKind.i64 n67])) ∧
                                            (((0 : Int) ≤ (256 : Int) ∧
                                              256 < (↑l30.2 : Int)) ∧
                                             ∃ a68 : Addr, (l30.1 = some a68 ∧
                                              ∃ n69 : Int, (World.cell? w65 (Addr.add a68 (Int.toNat 256 * 1)) = some (Value.int IntKind.i64 n69) ∧
                                               ((((n69 == 0) = true →
                                                  R (Value.tuple (Array.mk [Value.pointer none, Value.pointer none, Value.int IntKind.i64 3])) w65)) ∧
                                                ((n69 == 0) = false →
                                                  ((((n63 != 0) = true →
                                                     R (Value.tuple (Array.mk [Value.pointer none, Value.pointer none, Value.int IntKind.i64 3])) w65)) ∧
                                                   ((n63 != 0) = false →
                                                     ((((n67 != 0) = true →
                                                        R (Value.tuple (Array.mk [Value.pointer none, Value.pointer none, Value.int IntKind.i64 3])) w65)) ∧
                                                      ((n67 != 0) = false →
                                                        R (Value.tuple (Array.mk [Value.pointer p62, Value.pointer p66, Value.int IntKind.i64 0])) w65)))))))))))))))))))))))))))))))))))))))
theorem vc_inflate_state_tables_ok {x0 : Nat} {w : World} {R : Value → World → Prop} {R' : Ending → World → Prop} (h : vc_inflate_state_tables x0 w R) (hR : ∀ v w', R v w' → R' (.returned v) w') :
    Calls Try.prog 54 #[.pointer (some ⟨x0, 0, none⟩)] w R' :=
  calls_of_body (vs := [(.pointer (some ⟨x0, 0, none⟩), true)]) (ty := ty) (ann := ⟨[(35, [(19, .int .i64), (20, .int .i64), (21, .int .i64)])], [(9, [(59, .int .i64)]), (20, [(16, .slice)]), (41, [(16, .slice), (151, .int .i64)])], [], []⟩) (c := Try.f54.body.getD .skip) (by kernel_rfl) Try.func54 (by kernel_rfl) (by kernel_rfl) (Eq.mp (by kernel_rfl) h) hR
/-- (*inflate.state).repeat -/
def vc_inflate_state_repeat (x0 : Nat) (x1 : Int) (x2 : Nat) (w : World) (R : Value → World → Prop) : Prop :=
  (((decide (x1 > 285) = true →
     R (Value.int IntKind.i64 3) w)) ∧
   (decide (x1 > 285) = false →
     Calls Try.prog (49 : Nat) (Array.mk [Value.int IntKind.i64 (IntKind.wrap IntKind.i64 (x1 - 257))]) (w) (fun e1 w2 =>
       ∃ n3 : Int, ∃ n4 : Int, (e1 = Ending.returned (Value.tuple (Array.mk [Value.int IntKind.i64 n3, Value.int IntKind.i64 n4])) ∧
        ∃ p5 : Option Addr, (World.cell? w2 (Addr.mk x0 0 none) = some (Value.pointer p5) ∧
         Calls Try.prog (52 : Nat) (Array.mk [Value.pointer p5, Value.int IntKind.i64 n4]) (w2) (fun e6 w7 =>
           ∃ n8 : Int, ∃ b9 : Bool, (e6 = Ending.returned (Value.tuple (Array.mk [Value.int IntKind.u32 n8, Value.bool b9])) ∧
            ((((!b9) = true →
               R (Value.int IntKind.i64 6) w7)) ∧
             ((!b9) = false →
               ∃ p10 : Option Addr, (World.cell? w7 (Addr.mk x0 0 none) = some (Value.pointer p10) ∧
                Calls Try.prog (55 : Nat) (Array.mk [Value.pointer (some (Addr.mk x2 0 none)), Value.pointer p10]) (w7) (fun e11 w12 =>
                  ∃ n13 : Int, ∃ n14 : Int, (e11 = Ending.returned (Value.tuple (Array.mk [Value.int IntKind.i64 n13, Value.int IntKind.i64 n14])) ∧
                   ((((n14 != 0) = true →
                      R (Value.int IntKind.i64 n14) w12)) ∧
                    ((n14 != 0) = false →
                      (((decide (n13 > 29) = true →
                         R (Value.int IntKind.i64 3) w12)) ∧
                       (decide (n13 > 29) = false →
                         Calls Try.prog (50 : Nat) (Array.mk [Value.int IntKind.i64 n13]) (w12) (fun e15 w16 =>
                           ∃ n17 : Int, ∃ n18 : Int, (e15 = Ending.returned (Value.tuple (Array.mk [Value.int IntKind.i64 n17, Value.int IntKind.i64 n18])) ∧
                            ∃ p19 : Option Addr, (World.cell? w16 (Addr.mk x0 0 none) = some (Value.pointer p19) ∧
                             Calls Try.prog (52 : Nat) (Array.mk [Value.pointer p19, Value.int IntKind.i64 n18]) (w16) (fun e20 w21 =>
                               ∃ n22 : Int, ∃ b23 : Bool, (e20 = Ending.returned (Value.tuple (Array.mk [Value.int IntKind.u32 n22, Value.bool b23])) ∧
                                ((((!b23) = true →
                                   R (Value.int IntKind.i64 6) w21)) ∧
                                 ((!b23) = false →
                                   ∃ l24 : Sl, (World.cell? w21 (Addr.mk x0 1 none) = some (Value.slice l24.1 l24.2 l24.3) ∧
                                    (((decide (IntKind.wrap IntKind.i64 (n17 + IntKind.wrap IntKind.i64 n22) > (↑l24.2 : Int)) = true →
                                       R (Value.int IntKind.i64 3) w21)) ∧
                                     (decide (IntKind.wrap IntKind.i64 (n17 + IntKind.wrap IntKind.i64 n22) > (↑l24.2 : Int)) = false →
                                       ∃ I25 : Int → World → Prop, ∃ I26 : Int → World → Nat, (I25 0 w21 ∧
                                        ∀ n27 : Int,
                                        ∀ w28 : World,
                                        (I25 n27 w28 →
                                          (((decide (n27 < IntKind.wrap IntKind.i64 (n3 + IntKind.wrap IntKind.i64 n8)) = true →
                                             ∀ w29 : World,
                                             (Drew w28 w29 →
                                               ∃ l30 : Sl, (World.cell? w29 (Addr.mk x0 1 none) = some (Value.slice l30.1 l30.2 l30.3) ∧
                                                ∃ l31 : Sl, (World.cell? w29 (Addr.mk x0 1 none) = some (Value.slice l31.1 l31.2 l31.3) ∧
                                                 ((0 ≤ IntKind.wrap IntKind.i64 ((↑l31.2 : Int) - IntKind.wrap IntKind.i64 (n17 + IntKind.wrap IntKind.i64 n22)) ∧
                                                   IntKind.wrap IntKind.i64 ((↑l31.2 : Int) - IntKind.wrap IntKind.i64 (n17 + IntKind.wrap IntKind.i64 n22)) < (↑l30.2 : Int)) ∧
                                                  ∃ a32 : Addr, (l30.1 = some a32 ∧
                                                   ∃ n33 : Int, (World.cell? w29 (Addr.add a32 (Int.toNat (IntKind.wrap IntKind.i64 ((↑l31.2 : Int) - IntKind.wrap IntKind.i64 (n17 + IntKind.wrap IntKind.i64 n22))) * 1)) = some (Value.int IntKind.u8 n33) ∧
                                                    Calls Try.prog (56 : Nat) (Array.mk [Value.pointer (some (Addr.mk x0 0 none)), Value.int IntKind.u8 n33]) (w29) (fun e34 w35 =>
                                                      ∃ n36 : Int, (e34 = Ending.returned (Value.int IntKind.i64 n36) ∧
                                                       ((((n36 != 0) = true →
                                                          R (Value.int IntKind.i64 n36) w35)) ∧
                                                        ((n36 != 0) = false →
                                                          (I25 (IntKind.wrap IntKind.i64 (n27 + 1)) w35 ∧
                                                           I26 (IntKind.wrap IntKind.i64 (n27 + 1)) w35 < I26 n27 w28))))))))))))) ∧
                                           (decide (n27 < IntKind.wrap IntKind.i64 (n3 + IntKind.wrap IntKind.i64 n8)) = false →
                                             R (Value.int IntKind.i64 0) w28))))))))))))))))))))))))))))))
theorem vc_inflate_state_repeat_ok {x0 : Nat} {x1 : Int} {x2 : Nat} {w : World} {R : Value → World → Prop} {R' : Ending → World → Prop} (h : vc_inflate_state_repeat x0 x1 x2 w R) (hR : ∀ v w', R v w' → R' (.returned v) w') :
    Calls Try.prog 57 #[.pointer (some ⟨x0, 0, none⟩), .int .i64 x1, .pointer (some ⟨x2, 0, none⟩)] w R' :=
  calls_of_body (vs := [(.pointer (some ⟨x0, 0, none⟩), true), (.int .i64 x1, false), (.pointer (some ⟨x2, 0, none⟩), true)]) (ty := ty) (ann := ⟨[], [(21, [(80, .int .i64)])], [(22, .tail 14)], []⟩) (c := Try.f57.body.getD .skip) (by kernel_rfl) Try.func57 (by kernel_rfl) (by kernel_rfl) (Eq.mp (by kernel_rfl) h) hR
/-- (*inflate.state).run -/
def vc_inflate_state_run (x0 : Nat) (w : World) (R : Value → World → Prop) : Prop :=
  ∃ I1 : World → Prop, ∃ I2 : World → Nat, ∃ I3 : Int → World → Prop, ∃ I4 : Int → World → Nat, ∃ I5 : Int → Option Addr → Option Addr → World → Prop, ∃ I6 : Int → Option Addr → Option Addr → World → Nat, ((∃ p7 : Option Addr, (World.cell? w (Addr.mk x0 0 none) = some (Value.pointer p7) ∧
    Calls Try.prog (52 : Nat) (Array.mk [Value.pointer p7, Value.int IntKind.i64 3]) (w) (fun e8 w9 =>
      ∃ n10 : Int, ∃ b11 : Bool, (e8 = Ending.returned (Value.tuple (Array.mk [Value.int IntKind.u32 n10, Value.bool b11])) ∧
       ((((!b11) = true →
          R (Value.int IntKind.i64 6) w9)) ∧
        ((!b11) = false →
          ((0 : Int) ≤ (1 : Int) ∧
           ((((Int.fdiv n10 (2 ^ min (Int.toNat 1) 32) == 0) = true →
              Calls Try.prog (53 : Nat) (Array.mk [Value.pointer (some (Addr.mk x0 0 none))]) (w9) (fun e12 w13 =>
                ∃ n14 : Int, (e12 = Ending.returned (Value.int IntKind.i64 n14) ∧
                 ((((n14 != 0) = true →
                    R (Value.int IntKind.i64 n14) w13)) ∧
                  ((n14 != 0) = false →
                    I3 n10 w13)))))) ∧
            ((Int.fdiv n10 (2 ^ min (Int.toNat 1) 32) == 0) = false →
              ((((Int.fdiv n10 (2 ^ min (Int.toNat 1) 32) == 1) = true →
                 Calls Try.prog (45 : Nat) (Array.mk []) (w9) (fun e15 w16 =>
                   ∃ p17 : Option Addr, ∃ p18 : Option Addr, (e15 = Ending.returned (Value.tuple (Array.mk [Value.pointer p17, Value.pointer p18])) ∧
                    I5 n10 p17 p18 w16)))) ∧
               ((Int.fdiv n10 (2 ^ min (Int.toNat 1) 32) == 1) = false →
                 ((((Int.fdiv n10 (2 ^ min (Int.toNat 1) 32) == 2) = true →
                    Calls Try.prog (54 : Nat) (Array.mk [Value.pointer (some (Addr.mk x0 0 none))]) (w9) (fun e19 w20 =>
                      ∃ p21 : Option Addr, ∃ p22 : Option Addr, ∃ n23 : Int, (e19 = Ending.returned (Value.tuple (Array.mk [Value.pointer p21, Value.pointer p22, Value.int IntKind.i64 n23])) ∧
                       ((((n23 != 0) = true →
                          R (Value.int IntKind.i64 n23) w20)) ∧
                        ((n23 != 0) = false →
                          I5 n10 p21 p22 w20)))))) ∧
                  ((Int.fdiv n10 (2 ^ min (Int.toNat 1) 32) == 2) = false →
                    R (Value.int IntKind.i64 3) w9))))))))))))) ∧
   ((∀ w24 : World,
    (I1 w24 →
      ∃ p25 : Option Addr, (World.cell? w24 (Addr.mk x0 0 none) = some (Value.pointer p25) ∧
       Calls Try.prog (52 : Nat) (Array.mk [Value.pointer p25, Value.int IntKind.i64 3]) (w24) (fun e26 w27 =>
         ∃ n28 : Int, ∃ b29 : Bool, (e26 = Ending.returned (Value.tuple (Array.mk [Value.int IntKind.u32 n28, Value.bool b29])) ∧
          ((((!b29) = true →
             R (Value.int IntKind.i64 6) w27)) ∧
           ((!b29) = false →
             ((0 : Int) ≤ (1 : Int) ∧
              ((((Int.fdiv n28 (2 ^ min (Int.toNat 1) 32) == 0) = true →
                 Calls Try.prog (53 : Nat) (Array.mk [Value.pointer (some (Addr.mk x0 0 none))]) (w27) (fun e30 w31 =>
                   ∃ n32 : Int, (e30 = Ending.returned (Value.int IntKind.i64 n32) ∧
                    ((((n32 != 0) = true →
                       R (Value.int IntKind.i64 n32) w31)) ∧
                     ((n32 != 0) = false →
                       (I3 n28 w31 ∧
                        I4 n28 w31 < I2 w24))))))) ∧
               ((Int.fdiv n28 (2 ^ min (Int.toNat 1) 32) == 0) = false →
                 ((((Int.fdiv n28 (2 ^ min (Int.toNat 1) 32) == 1) = true →
                    Calls Try.prog (45 : Nat) (Array.mk []) (w27) (fun e33 w34 =>
                      ∃ p35 : Option Addr, ∃ p36 : Option Addr, (e33 = Ending.returned (Value.tuple (Array.mk [Value.pointer p35, Value.pointer p36])) ∧
                       (I5 n28 p35 p36 w34 ∧
                        I6 n28 p35 p36 w34 < I2 w24))))) ∧
                  ((Int.fdiv n28 (2 ^ min (Int.toNat 1) 32) == 1) = false →
                    ((((Int.fdiv n28 (2 ^ min (Int.toNat 1) 32) == 2) = true →
                       Calls Try.prog (54 : Nat) (Array.mk [Value.pointer (some (Addr.mk x0 0 none))]) (w27) (fun e37 w38 =>
                         ∃ p39 : Option Addr, ∃ p40 : Option Addr, ∃ n41 : Int, (e37 = Ending.returned (Value.tuple (Array.mk [Value.pointer p39, Value.pointer p40, Value.int IntKind.i64 n41])) ∧
                          ((((n41 != 0) = true →
                             R (Value.int IntKind.i64 n41) w38)) ∧
                           ((n41 != 0) = false →
                             (I5 n28 p39 p40 w38 ∧
                              I6 n28 p39 p40 w38 < I2 w24))))))) ∧
                     ((Int.fdiv n28 (2 ^ min (Int.toNat 1) 32) == 2) = false →
                       R (Value.int IntKind.i64 3) w27)))))))))))))) ∧
    ((∀ n42 : Int,
     ∀ w43 : World,
     (I3 n42 w43 →
       ((((IntKind.wrap IntKind.u32 (↑(BitVec.toNat (BitVec.ofInt 32 n42 &&& BitVec.ofInt 32 1)) : Int) == 0) = true →
          (I1 w43 ∧
           I2 w43 < I4 n42 w43))) ∧
        ((IntKind.wrap IntKind.u32 (↑(BitVec.toNat (BitVec.ofInt 32 n42 &&& BitVec.ofInt 32 1)) : Int) == 0) = false →
          R (Value.int IntKind.i64 0) w43)))) ∧
     ((∀ n44 : Int,
      ∀ p45 : Option Addr,
      ∀ p46 : Option Addr,
      ∀ w47 : World,
      (I5 n44 p45 p46 w47 →
        ∃ p48 : Option Addr, (World.cell? w47 (Addr.mk x0 0 none) = some (Value.pointer p48) ∧
         Calls Try.prog (55 : Nat) (Array.mk [Value.pointer p45, Value.pointer p48]) (w47) (fun e49 w50 =>
           ∃ n51 : Int, ∃ n52 : Int, (e49 = Ending.returned (Value.tuple (Array.mk [Value.int IntKind.i64 n51, Value.int IntKind.i64 n52])) ∧
            ((((n52 != 0) = true →
               R (Value.int IntKind.i64 n52) w50)) ∧
             ((n52 != 0) = false →
               ((((n51 == 256) = true →
                  (I3 n44 w50 ∧
                   I4 n44 w50 < I6 n44 p45 p46 w47))) ∧
                ((n51 == 256) = false →
                  (((decide (n51 < 256) = true →
                     Calls Try.prog (56 : Nat) (Array.mk [Value.pointer (some (Addr.mk x0 0 none)), Value.int IntKind.u8 (IntKind.wrap IntKind.u8 n51)]) (w50) (fun e53 w54 =>
                       ∃ n55 : Int, (e53 = Ending.returned (Value.int IntKind.i64 n55) ∧
                        ((((n55 == 0) = true →
                           (I5 n44 p45 p46 w54 ∧
                            I6 n44 p45 p46 w54 < I6 n44 p45 p46 w47))) ∧
                         ((n55 == 0) = false →
                           R (Value.int IntKind.i64 n55) w54)))))) ∧
                   (decide (n51 < 256) = false →
                     Calls Try.prog (57 : Nat) (Array.mk [Value.pointer (some (Addr.mk x0 0 none)), Value.int IntKind.i64 n51, Value.pointer p46]) (w50) (fun e56 w57 =>
                       ∃ n58 : Int, (e56 = Ending.returned (Value.int IntKind.i64 n58) ∧
                        ((((n58 == 0) = true →
                           (I5 n44 p45 p46 w57 ∧
                            I6 n44 p45 p46 w57 < I6 n44 p45 p46 w47))) ∧
                         ((n58 == 0) = false →
                           R (Value.int IntKind.i64 n58) w57))))))))))))))) ∧
      True))))
theorem vc_inflate_state_run_ok {x0 : Nat} {w : World} {R : Value → World → Prop} {R' : Ending → World → Prop} (h : vc_inflate_state_run x0 w R) (hR : ∀ v w', R v w' → R' (.returned v) w') :
    Calls Try.prog 27 #[.pointer (some ⟨x0, 0, none⟩)] w R' :=
  calls_of_body (vs := [(.pointer (some ⟨x0, 0, none⟩), true)]) (ty := ty) (ann := ⟨[], [], [], [(0, []), (1, [(3, .int .u32)]), (2, [(3, .int .u32), (7, .ptr), (8, .ptr)])]⟩) (c := Try.f27.body.getD .skip) (by kernel_rfl) Try.func27 (by kernel_rfl) (by kernel_rfl) (Eq.mp (by kernel_rfl) h) hR
/-- inflate.Inflate -/
def vc_inflate_Inflate (x0 : ByteArray) (x1 : Int) (x2 : Int) (w : World) (R : Value → World → Prop) : Prop :=
  (((decide (x1 < 0) = true →
     R (Value.tuple (Array.mk [Value.string (ByteArray.mk (Array.mk [])), Value.int IntKind.i64 0, Value.int IntKind.i64 1])) w)) ∧
   (decide (x1 < 0) = false →
     (((decide (x1 > (↑(ByteArray.size x0) : Int)) = true →
        R (Value.tuple (Array.mk [Value.string (ByteArray.mk (Array.mk [])), Value.int IntKind.i64 0, Value.int IntKind.i64 1])) w)) ∧
      (decide (x1 > (↑(ByteArray.size x0) : Int)) = false →
        (((decide (x2 < 0) = true →
           R (Value.tuple (Array.mk [Value.string (ByteArray.mk (Array.mk [])), Value.int IntKind.i64 0, Value.int IntKind.i64 1])) w)) ∧
         (decide (x2 < 0) = false →
           (((decide (x2 > 65536) = true →
              R (Value.tuple (Array.mk [Value.string (ByteArray.mk (Array.mk [])), Value.int IntKind.i64 0, Value.int IntKind.i64 1])) w)) ∧
            (decide (x2 > 65536) = false →
              Calls Try.prog (26 : Nat) (Array.mk [Value.string x0, Value.int IntKind.i64 x1]) (w) (fun e1 w2 =>
                ∃ p3 : Option Addr, (e1 = Ending.returned (Value.pointer p3) ∧
                 ∀ w4 : World,
                 (w4 = World.alloc w2 (Obj.cells (Array.mk [Value.pointer p3, Value.slice none 0 0, Value.int IntKind.i64 x2]) 48) →
                   Calls Try.prog (27 : Nat) (Array.mk [Value.pointer (some (Addr.mk (Array.size (World.heap w2)) 0 none))]) (w4) (fun e5 w6 =>
                     ∃ n7 : Int, (e5 = Ending.returned (Value.int IntKind.i64 n7) ∧
                      ((((n7 != 0) = true →
                         R (Value.tuple (Array.mk [Value.string (ByteArray.mk (Array.mk [])), Value.int IntKind.i64 0, Value.int IntKind.i64 n7])) w6)) ∧
                       ((n7 != 0) = false →
                         ∀ w8 : World,
                         (Drew w6 w8 →
                           ∃ I9 : World → Prop, (I9 w8 ∧
                            ∃ l10 : Sl, ((∀ w11 : World,
                             (I9 w11 →
                               World.cell? w11 (Addr.mk (Array.size (World.heap w2)) 1 none) = some (Value.slice l10.1 l10.2 l10.3))) ∧
                             ∃ p12 : Option Addr, ((∀ w13 : World,
                              (I9 w13 →
                                World.cell? w13 (Addr.mk (Array.size (World.heap w2)) 0 none) = some (Value.pointer p12))) ∧
                              ∃ s14 : ByteArray, ((∀ w15 : World,
                               (I9 w15 →
                                 Sem.run Try.prog (convert 40 9 (Value.slice l10.1 l10.2 l10.3)) w15 = Result.ok (Value.string s14) w15)) ∧
                               Calls Try.prog (28 : Nat) (Array.mk [Value.pointer p12]) (w8) (fun e16 w17 =>
                                 ∃ n18 : Int, (e16 = Ending.returned (Value.int IntKind.i64 n18) ∧
                                  (I9 w17 ∧
                                   R (Value.tuple (Array.mk [Value.string s14, Value.int IntKind.i64 n18, Value.int IntKind.i64 0])) w17)))))))))))))))))))))))
theorem vc_inflate_Inflate_ok {x0 : ByteArray} {x1 : Int} {x2 : Int} {w : World} {R : Value → World → Prop} {R' : Ending → World → Prop} (h : vc_inflate_Inflate x0 x1 x2 w R) (hR : ∀ v w', R v w' → R' (.returned v) w') :
    Calls Try.prog 12 #[.string x0, .int .i64 x1, .int .i64 x2] w R' :=
  calls_of_body (vs := [(.string x0, false), (.int .i64 x1, false), (.int .i64 x2, false)]) (ty := ty) (ann := ⟨[], [], [(7, .held [(0, true), (1, true), (2, true), (3, true), (5, true), (6, true), (7, true), (8, true), (4, true), (9, false), (10, true), (11, true), (12, true)])], []⟩) (c := Try.f12.body.getD .skip) (by kernel_rfl) Try.func12 (by kernel_rfl) (by kernel_rfl) (Eq.mp (by kernel_rfl) h) hR
end Go.Proofs.Ytofejgaanpaieaa

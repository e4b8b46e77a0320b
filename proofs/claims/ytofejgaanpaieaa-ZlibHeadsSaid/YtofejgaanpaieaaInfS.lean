/- Formulas of 1 Go functions of this seat (written by a program of the author's, vcgen.py), and that each is enough for the call. No condition. -/
import Derived.Test.YtofejgaanpaieaaTy
import Derived.Test.YtofejgaanpaieaaProg
set_option linter.unusedVariables false
namespace Go.Proofs.Ytofejgaanpaieaa
open Go Vc Go.Proofs
set_option maxRecDepth 100000
/-- inflate.Stored -/
def vc_inflate_Stored (x0 : ByteArray) (w : World) (R : Value → World → Prop) : Prop :=
  ∀ w1 : World,
  (w1 = World.alloc w (Obj.cells (Array.mk [Value.slice none 0 0, Value.int IntKind.u64 0, Value.int IntKind.i64 0]) 68) →
    ∃ I2 : ByteArray → World → Prop, ∃ I3 : ByteArray → World → Nat, (I2 x0 w1 ∧
     ∀ s4 : ByteArray,
     ∀ w5 : World,
     (I2 s4 w5 →
       ∃ I6 : Int → World → Prop, (((((((if 65535 < (↑(ByteArray.size s4) : Int) then 65535 else (↑(ByteArray.size s4) : Int)) == (↑(ByteArray.size s4) : Int)) = true) →
           I6 1 w5)) ∧
         ((((if 65535 < (↑(ByteArray.size s4) : Int) then 65535 else (↑(ByteArray.size s4) : Int)) == (↑(ByteArray.size s4) : Int)) = false) →
           I6 0 w5)) ∧
        ∀ n7 : Int,
        ∀ w8 : World,
        (I6 n7 w8 →
          Calls Try.prog (41 : Nat) (Array.mk [Value.pointer (some (Addr.mk (Array.size (World.heap w)) 0 none)), Value.int IntKind.u32 n7, Value.int IntKind.i64 3]) (w8) (fun e9 w10 =>
            (e9 = Ending.returned (Value.tuple (Array.mk [])) ∧
             ∀ w11 : World,
             (Drew w10 w11 →
               ∃ I12 : World → Prop, (I12 w11 ∧
                (((0 ≤ if 65535 < (↑(ByteArray.size s4) : Int) then 65535 else (↑(ByteArray.size s4) : Int)) ∧
                  ((if 65535 < (↑(ByteArray.size s4) : Int) then 65535 else (↑(ByteArray.size s4) : Int)) ≤ (↑(ByteArray.size s4) : Int))) ∧
                 Calls Try.prog (43 : Nat) ((Array.mk [Value.int IntKind.u64 (IntKind.wrap IntKind.u64 (if 65535 < (↑(ByteArray.size s4) : Int) then 65535 else (↑(ByteArray.size s4) : Int))), Value.int IntKind.i64 2])) (w11) (fun e13 w14 =>
                   ∃ s15 : ByteArray, (e13 = Ending.returned (Value.string s15) ∧
                    (I12 w14 ∧
                     Calls Try.prog (43 : Nat) ((Array.mk [Value.int IntKind.u64 (IntKind.wrap IntKind.u64 (IntKind.wrap IntKind.i64 (↑(BitVec.toNat (BitVec.ofInt 64 (if 65535 < (↑(ByteArray.size s4) : Int) then 65535 else (↑(ByteArray.size s4) : Int)) ^^^ BitVec.ofInt 64 65535)) : Int))), Value.int IntKind.i64 2])) (w14) (fun e16 w17 =>
                       ∃ s18 : ByteArray, (e16 = Ending.returned (Value.string s18) ∧
                        (I12 w17 ∧
                         (ByteArray.size s15 + ByteArray.size s18 ≤ 9223372036854775807 ∧
                          ((ByteArray.size (s15 ++ s18) + ByteArray.size (ByteArray.extract s4 0 (Int.toNat (if 65535 < (↑(ByteArray.size s4) : Int) then 65535 else (↑(ByteArray.size s4) : Int)))) ≤ 9223372036854775807) ∧
                           Calls Try.prog (42 : Nat) ((Array.mk [Value.pointer (some (Addr.mk (Array.size (World.heap w)) 0 none)), Value.string (s15 ++ s18 ++ ByteArray.extract s4 0 (Int.toNat (if 65535 < (↑(ByteArray.size s4) : Int) then 65535 else (↑(ByteArray.size s4) : Int))))])) (w17) (fun e19 w20 =>
                             (e19 = Ending.returned (Value.tuple (Array.mk [])) ∧
                              (((0 ≤ if 65535 < (↑(ByteArray.size s4) : Int) then 65535 else (↑(ByteArray.size s4) : Int)) ∧
                                ((if 65535 < (↑(ByteArray.size s4) : Int) then 65535 else (↑(ByteArray.size s4) : Int)) ≤ (↑(ByteArray.size s4) : Int))) ∧
                               ((((n7 == 1) = true →
                                  Calls Try.prog (44 : Nat) (Array.mk [Value.pointer (some (Addr.mk (Array.size (World.heap w)) 0 none))]) (w20) (fun e21 w22 =>
                                    ∃ s23 : ByteArray, (e21 = Ending.returned (Value.string s23) ∧
                                     R (Value.string s23) w22)))) ∧
                                ((n7 == 1) = false →
                                  ((I2 (ByteArray.extract s4 (Int.toNat (if 65535 < (↑(ByteArray.size s4) : Int) then 65535 else (↑(ByteArray.size s4) : Int))) (ByteArray.size s4)) w20) ∧
                                   (I3 (ByteArray.extract s4 (Int.toNat (if 65535 < (↑(ByteArray.size s4) : Int) then 65535 else (↑(ByteArray.size s4) : Int))) (ByteArray.size s4)) w20 < I3 s4 w5)))))))))))))))))))))))))
theorem vc_inflate_Stored_ok {x0 : ByteArray} {w : World} {R : Value → World → Prop} {R' : Ending → World → Prop} (h : vc_inflate_Stored x0 w R) (hR : ∀ v w', R v w' → R' (.returned v) w') :
    Calls Try.prog 20 #[.string x0] w R' :=
  calls_of_body (vs := [(.string x0, false)]) (ty := ty) (ann := ⟨[(6, [(5, .int .u32)])], [(2, [(0, .str)])], [(7, .held [(0, true), (1, true), (3, true), (4, true), (5, true), (8, true), (9, true), (10, true), (2, false), (6, false), (7, true), (11, true), (12, false)])], []⟩) (c := Try.f20.body.getD .skip) (by kernel_rfl) Try.func20 (by kernel_rfl) (by kernel_rfl) (Eq.mp (by kernel_rfl) h) hR
end Go.Proofs.Ytofejgaanpaieaa

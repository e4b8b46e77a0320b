/- Formulas of 9 Go functions of this seat (written by a program of the author's, vcgen.py), and that each is enough for the call. No condition. -/
import Derived.Test.YtofejgaanpaieaaTy
import Derived.Test.YtofejgaanpaieaaProg
set_option linter.unusedVariables false
namespace Go.Proofs.Ytofejgaanpaieaa
open Go Vc Go.Proofs
set_option maxRecDepth 100000
/-- (*bitin.Reader).fill -/
def vc_bitin_Reader_fill (x0 : Nat) (x1 : Int) (w : World) (R : Value → World → Prop) : Prop :=
  ∃ I1 : World → Prop, ∃ I2 : World → Nat, (I1 w ∧
   ∀ w3 : World,
   (I1 w3 →
     ∃ n4 : Int, (World.cell? w3 (Addr.mk x0 3 none) = some (Value.int IntKind.i64 n4) ∧
      (((decide (n4 < x1) = true →
         ∃ n5 : Int, (World.cell? w3 (Addr.mk x0 1 none) = some (Value.int IntKind.i64 n5) ∧
          ∃ s6 : ByteArray, (World.cell? w3 (Addr.mk x0 0 none) = some (Value.string s6) ∧
           ∀ w7 : World,
           (Drew w3 w7 →
             (((decide (n5 < (↑(ByteArray.size s6) : Int)) = true →
                ∀ w8 : World,
                (Drew w7 w8 →
                  ∃ n9 : Int, (World.cell? w8 (Addr.mk x0 2 none) = some (Value.int IntKind.u64 n9) ∧
                   ∃ s10 : ByteArray, (World.cell? w8 (Addr.mk x0 0 none) = some (Value.string s10) ∧
                    ∃ n11 : Int, (World.cell? w8 (Addr.mk x0 1 none) = some (Value.int IntKind.i64 n11) ∧
                     ((0 ≤ n11 ∧
                       n11 < (↑(ByteArray.size s10) : Int)) ∧
                      ∃ n12 : Int, (World.cell? w8 (Addr.mk x0 3 none) = some (Value.int IntKind.i64 n12) ∧
                       (0 ≤ n12 ∧
                        (Wr w8 (Addr.mk x0 2 none) ∧
                         ∀ w13 : World,
                         (w13 = World.setCell w8 (Addr.mk x0 2 none) (Value.int IntKind.u64 (IntKind.wrap IntKind.u64 (↑(BitVec.toNat (BitVec.ofInt 64 n9 ||| BitVec.ofInt 64 (IntKind.wrap IntKind.u64 (IntKind.wrap IntKind.u64 (byteAt s10 n11) * 2 ^ min (Int.toNat n12) 64)))) : Int))) →
                           ∃ n14 : Int, (World.cell? w13 (Addr.mk x0 1 none) = some (Value.int IntKind.i64 n14) ∧
                            (Wr w13 (Addr.mk x0 1 none) ∧
                             ∀ w15 : World,
                             (w15 = World.setCell w13 (Addr.mk x0 1 none) (Value.int IntKind.i64 (IntKind.wrap IntKind.i64 (n14 + 1))) →
                               ∃ n16 : Int, (World.cell? w15 (Addr.mk x0 3 none) = some (Value.int IntKind.i64 n16) ∧
                                (Wr w15 (Addr.mk x0 3 none) ∧
                                 ∀ w17 : World,
                                 (w17 = World.setCell w15 (Addr.mk x0 3 none) (Value.int IntKind.i64 (IntKind.wrap IntKind.i64 (n16 + 8))) →
                                   (I1 w17 ∧
                                    I2 w17 < I2 w3)))))))))))))))))) ∧
              (decide (n5 < (↑(ByteArray.size s6) : Int)) = false →
                R (Value.tuple (Array.mk [])) w7))))))) ∧
       (decide (n4 < x1) = false →
         ∀ w18 : World,
         (Drew w3 w18 →
           R (Value.tuple (Array.mk [])) w18))))))
theorem vc_bitin_Reader_fill_ok {x0 : Nat} {x1 : Int} {w : World} {R : Value → World → Prop} {R' : Ending → World → Prop} (h : vc_bitin_Reader_fill x0 x1 w R) (hR : ∀ v w', R v w' → R' (.returned v) w') :
    Calls Try.prog 78 #[.pointer (some ⟨x0, 0, none⟩), .int .i64 x1] w R' :=
  calls_of_body (vs := [(.pointer (some ⟨x0, 0, none⟩), true), (.int .i64 x1, false)]) (ty := ty) (ann := ⟨[], [(0, [])], [(0, .quiet), (1, .tail 22)], []⟩) (c := Try.f78.body.getD .skip) (by kernel_rfl) Try.func78 (by kernel_rfl) (by kernel_rfl) (Eq.mp (by kernel_rfl) h) hR
/-- (*bitin.Reader).Left -/
def vc_bitin_Reader_Left (x0 : Nat) (w : World) (R : Value → World → Prop) : Prop :=
  ∃ s1 : ByteArray, (World.cell? w (Addr.mk x0 0 none) = some (Value.string s1) ∧
   ∃ n2 : Int, (World.cell? w (Addr.mk x0 1 none) = some (Value.int IntKind.i64 n2) ∧
    ∃ n3 : Int, (World.cell? w (Addr.mk x0 3 none) = some (Value.int IntKind.i64 n3) ∧
     ∀ w4 : World,
     (Drew w w4 →
       R (Value.int IntKind.i64 (IntKind.wrap IntKind.i64 (IntKind.wrap IntKind.i64 (8 * IntKind.wrap IntKind.i64 ((↑(ByteArray.size s1) : Int) - n2)) + n3))) w4))))
theorem vc_bitin_Reader_Left_ok {x0 : Nat} {w : World} {R : Value → World → Prop} {R' : Ending → World → Prop} (h : vc_bitin_Reader_Left x0 w R) (hR : ∀ v w', R v w' → R' (.returned v) w') :
    Calls Try.prog 75 #[.pointer (some ⟨x0, 0, none⟩)] w R' :=
  calls_of_body (vs := [(.pointer (some ⟨x0, 0, none⟩), true)]) (ty := ty) (ann := ⟨[], [], [(1, .quiet)], []⟩) (c := Try.f75.body.getD .skip) (by kernel_rfl) Try.func75 (by kernel_rfl) (by kernel_rfl) (Eq.mp (by kernel_rfl) h) hR
/-- (*bitin.Reader).Peek -/
def vc_bitin_Reader_Peek (x0 : Nat) (x1 : Int) (w : World) (R : Value → World → Prop) : Prop :=
  (((decide (x1 < 0) = true →
     R (Value.tuple (Array.mk [Value.int IntKind.u32 0, Value.int IntKind.i64 0])) w)) ∧
   (decide (x1 < 0) = false →
     (((decide (x1 > 32) = true →
        R (Value.tuple (Array.mk [Value.int IntKind.u32 0, Value.int IntKind.i64 0])) w)) ∧
      (decide (x1 > 32) = false →
        Calls Try.prog (78 : Nat) (Array.mk [Value.pointer (some (Addr.mk x0 0 none)), Value.int IntKind.i64 x1]) (w) (fun e1 w2 =>
          (e1 = Ending.returned (Value.tuple (Array.mk [])) ∧
           ∃ n3 : Int, (World.cell? w2 (Addr.mk x0 2 none) = some (Value.int IntKind.u64 n3) ∧
            (0 ≤ x1 ∧
             ∃ n4 : Int, (World.cell? w2 (Addr.mk x0 3 none) = some (Value.int IntKind.i64 n4) ∧
              ∀ w5 : World,
              (Drew w2 w5 →
                (R (Value.tuple (Array.mk [Value.int IntKind.u32 (IntKind.wrap IntKind.u32 (IntKind.wrap IntKind.u64 (↑(BitVec.toNat (BitVec.ofInt 64 n3 &&& BitVec.ofInt 64 (IntKind.wrap IntKind.u64 (IntKind.wrap IntKind.u64 (1 * 2 ^ min (Int.toNat x1) 64) - 1)))) : Int))), Value.int IntKind.i64 (if n4 < x1 then n4 else x1)])) w5)))))))))))
theorem vc_bitin_Reader_Peek_ok {x0 : Nat} {x1 : Int} {w : World} {R : Value → World → Prop} {R' : Ending → World → Prop} (h : vc_bitin_Reader_Peek x0 x1 w R) (hR : ∀ v w', R v w' → R' (.returned v) w') :
    Calls Try.prog 71 #[.pointer (some ⟨x0, 0, none⟩), .int .i64 x1] w R' :=
  calls_of_body (vs := [(.pointer (some ⟨x0, 0, none⟩), true), (.int .i64 x1, false)]) (ty := ty) (ann := ⟨[], [], [(4, .quiet)], []⟩) (c := Try.f71.body.getD .skip) (by kernel_rfl) Try.func71 (by kernel_rfl) (by kernel_rfl) (Eq.mp (by kernel_rfl) h) hR
/-- bitin.New -/
def vc_bitin_New (x0 : ByteArray) (x1 : Int) (w : World) (R : Value → World → Prop) : Prop :=
  ∀ w1 : World,
  ((w1 = World.alloc w (Obj.cells (Array.mk [Value.string x0, Value.int IntKind.i64 (if (if (↑(ByteArray.size x0) : Int) < x1 then (↑(ByteArray.size x0) : Int) else x1) > 0 then if (↑(ByteArray.size x0) : Int) < x1 then (↑(ByteArray.size x0) : Int) else x1 else 0), Value.int IntKind.u64 0, Value.int IntKind.i64 0, Value.int IntKind.i64 (if (if (↑(ByteArray.size x0) : Int) < x1 then (↑(ByteArray.size x0) : Int) else x1) > 0 then if (↑(ByteArray.size x0) : Int) < x1 then (↑(ByteArray.size x0) : Int) else x1 else 0)]) 83)) →
    R (Value.pointer (some (Addr.mk (Array.size (World.heap w)) 0 none))) w1)
theorem vc_bitin_New_ok {x0 : ByteArray} {x1 : Int} {w : World} {R : Value → World → Prop} {R' : Ending → World → Prop} (h : vc_bitin_New x0 x1 w R) (hR : ∀ v w', R v w' → R' (.returned v) w') :
    Calls Try.prog 26 #[.string x0, .int .i64 x1] w R' :=
  calls_of_body (vs := [(.string x0, false), (.int .i64 x1, false)]) (ty := ty) (ann := ⟨[], [], [], []⟩) (c := Try.f26.body.getD .skip) (by kernel_rfl) Try.func26 (by kernel_rfl) (by kernel_rfl) (Eq.mp (by kernel_rfl) h) hR
/-- (*bitin.Reader).Bits -/
def vc_bitin_Reader_Bits (x0 : Nat) (x1 : Int) (w : World) (R : Value → World → Prop) : Prop :=
  Calls Try.prog (71 : Nat) (Array.mk [Value.pointer (some (Addr.mk x0 0 none)), Value.int IntKind.i64 x1]) (w) (fun e1 w2 =>
    ∃ n3 : Int, ∃ n4 : Int, (e1 = Ending.returned (Value.tuple (Array.mk [Value.int IntKind.u32 n3, Value.int IntKind.i64 n4])) ∧
     Calls Try.prog (72 : Nat) (Array.mk [Value.pointer (some (Addr.mk x0 0 none)), Value.int IntKind.i64 x1]) (w2) (fun e5 w6 =>
       ∃ b7 : Bool, (e5 = Ending.returned (Value.bool b7) ∧
        ((((!b7) = true →
           R (Value.tuple (Array.mk [Value.int IntKind.u32 0, Value.bool false])) w6)) ∧
         ((!b7) = false →
           R (Value.tuple (Array.mk [Value.int IntKind.u32 n3, Value.bool true])) w6))))))
theorem vc_bitin_Reader_Bits_ok {x0 : Nat} {x1 : Int} {w : World} {R : Value → World → Prop} {R' : Ending → World → Prop} (h : vc_bitin_Reader_Bits x0 x1 w R) (hR : ∀ v w', R v w' → R' (.returned v) w') :
    Calls Try.prog 52 #[.pointer (some ⟨x0, 0, none⟩), .int .i64 x1] w R' :=
  calls_of_body (vs := [(.pointer (some ⟨x0, 0, none⟩), true), (.int .i64 x1, false)]) (ty := ty) (ann := ⟨[], [], [], []⟩) (c := Try.f52.body.getD .skip) (by kernel_rfl) Try.func52 (by kernel_rfl) (by kernel_rfl) (Eq.mp (by kernel_rfl) h) hR
/-- (*bitin.Reader).Skip -/
def vc_bitin_Reader_Skip (x0 : Nat) (x1 : Int) (w : World) (R : Value → World → Prop) : Prop :=
  (((decide (x1 < 0) = true →
     R (Value.bool false) w)) ∧
   (decide (x1 < 0) = false →
     (((decide (x1 > 32) = true →
        R (Value.bool false) w)) ∧
      (decide (x1 > 32) = false →
        Calls Try.prog (78 : Nat) (Array.mk [Value.pointer (some (Addr.mk x0 0 none)), Value.int IntKind.i64 x1]) (w) (fun e1 w2 =>
          (e1 = Ending.returned (Value.tuple (Array.mk [])) ∧
           ∃ n3 : Int, (World.cell? w2 (Addr.mk x0 3 none) = some (Value.int IntKind.i64 n3) ∧
            (((decide (n3 < x1) = true →
               R (Value.bool false) w2)) ∧
             (decide (n3 < x1) = false →
               ∃ n4 : Int, (World.cell? w2 (Addr.mk x0 2 none) = some (Value.int IntKind.u64 n4) ∧
                (0 ≤ x1 ∧
                 (Wr w2 (Addr.mk x0 2 none) ∧
                  ∀ w5 : World,
                  (w5 = World.setCell w2 (Addr.mk x0 2 none) (Value.int IntKind.u64 (Int.fdiv n4 (2 ^ min (Int.toNat x1) 64))) →
                    ∃ n6 : Int, (World.cell? w5 (Addr.mk x0 3 none) = some (Value.int IntKind.i64 n6) ∧
                     (Wr w5 (Addr.mk x0 3 none) ∧
                      ∀ w7 : World,
                      (w7 = World.setCell w5 (Addr.mk x0 3 none) (Value.int IntKind.i64 (IntKind.wrap IntKind.i64 (n6 - x1))) →
                        R (Value.bool true) w7))))))))))))))))
theorem vc_bitin_Reader_Skip_ok {x0 : Nat} {x1 : Int} {w : World} {R : Value → World → Prop} {R' : Ending → World → Prop} (h : vc_bitin_Reader_Skip x0 x1 w R) (hR : ∀ v w', R v w' → R' (.returned v) w') :
    Calls Try.prog 72 #[.pointer (some ⟨x0, 0, none⟩), .int .i64 x1] w R' :=
  calls_of_body (vs := [(.pointer (some ⟨x0, 0, none⟩), true), (.int .i64 x1, false)]) (ty := ty) (ann := ⟨[], [], [], []⟩) (c := Try.f72.body.getD .skip) (by kernel_rfl) Try.func72 (by kernel_rfl) (by kernel_rfl) (Eq.mp (by kernel_rfl) h) hR
/-- (*bitin.Reader).Used -/
def vc_bitin_Reader_Used (x0 : Nat) (w : World) (R : Value → World → Prop) : Prop :=
  ∃ n1 : Int, (World.cell? w (Addr.mk x0 1 none) = some (Value.int IntKind.i64 n1) ∧
   ∃ n2 : Int, (World.cell? w (Addr.mk x0 3 none) = some (Value.int IntKind.i64 n2) ∧
    ((8 : Int) ≠ (0 : Int) ∧
     ∃ n3 : Int, (World.cell? w (Addr.mk x0 4 none) = some (Value.int IntKind.i64 n3) ∧
      ∀ w4 : World,
      (Drew w w4 →
        R (Value.int IntKind.i64 (IntKind.wrap IntKind.i64 (IntKind.wrap IntKind.i64 (n1 - IntKind.wrap IntKind.i64 (Int.tdiv n2 8)) - n3))) w4)))))
theorem vc_bitin_Reader_Used_ok {x0 : Nat} {w : World} {R : Value → World → Prop} {R' : Ending → World → Prop} (h : vc_bitin_Reader_Used x0 w R) (hR : ∀ v w', R v w' → R' (.returned v) w') :
    Calls Try.prog 28 #[.pointer (some ⟨x0, 0, none⟩)] w R' :=
  calls_of_body (vs := [(.pointer (some ⟨x0, 0, none⟩), true)]) (ty := ty) (ann := ⟨[], [], [(1, .quiet)], []⟩) (c := Try.f28.body.getD .skip) (by kernel_rfl) Try.func28 (by kernel_rfl) (by kernel_rfl) (Eq.mp (by kernel_rfl) h) hR
/-- (*bitin.Reader).Align -/
def vc_bitin_Reader_Align (x0 : Nat) (w : World) (R : Value → World → Prop) : Prop :=
  ∃ n1 : Int, (World.cell? w (Addr.mk x0 3 none) = some (Value.int IntKind.i64 n1) ∧
   ((8 : Int) ≠ (0 : Int) ∧
    ∃ n2 : Int, (World.cell? w (Addr.mk x0 2 none) = some (Value.int IntKind.u64 n2) ∧
     (0 ≤ Int.tmod n1 8 ∧
      (Wr w (Addr.mk x0 2 none) ∧
       ∀ w3 : World,
       (w3 = World.setCell w (Addr.mk x0 2 none) (Value.int IntKind.u64 (Int.fdiv n2 (2 ^ min (Int.toNat (Int.tmod n1 8)) 64))) →
         ∃ n4 : Int, (World.cell? w3 (Addr.mk x0 3 none) = some (Value.int IntKind.i64 n4) ∧
          (Wr w3 (Addr.mk x0 3 none) ∧
           ∀ w5 : World,
           (w5 = World.setCell w3 (Addr.mk x0 3 none) (Value.int IntKind.i64 (IntKind.wrap IntKind.i64 (n4 - Int.tmod n1 8))) →
             R (Value.tuple (Array.mk [])) w5)))))))))
theorem vc_bitin_Reader_Align_ok {x0 : Nat} {w : World} {R : Value → World → Prop} {R' : Ending → World → Prop} (h : vc_bitin_Reader_Align x0 w R) (hR : ∀ v w', R v w' → R' (.returned v) w') :
    Calls Try.prog 79 #[.pointer (some ⟨x0, 0, none⟩)] w R' :=
  calls_of_body (vs := [(.pointer (some ⟨x0, 0, none⟩), true)]) (ty := ty) (ann := ⟨[], [], [], []⟩) (c := Try.f79.body.getD .skip) (by kernel_rfl) Try.func79 (by kernel_rfl) (by kernel_rfl) (Eq.mp (by kernel_rfl) h) hR
/-- (*bitin.Reader).Bytes -/
def vc_bitin_Reader_Bytes (x0 : Nat) (x1 : Int) (w : World) (R : Value → World → Prop) : Prop :=
  Calls Try.prog (79 : Nat) (Array.mk [Value.pointer (some (Addr.mk x0 0 none))]) (w) (fun e1 w2 =>
    (e1 = Ending.returned (Value.tuple (Array.mk [])) ∧
     ∃ n3 : Int, (World.cell? w2 (Addr.mk x0 1 none) = some (Value.int IntKind.i64 n3) ∧
      ∃ n4 : Int, (World.cell? w2 (Addr.mk x0 3 none) = some (Value.int IntKind.i64 n4) ∧
       ((8 : Int) ≠ (0 : Int) ∧
        ∀ w5 : World,
        (Drew w2 w5 →
          (((decide (x1 < 0) = true →
             R (Value.tuple (Array.mk [Value.string (ByteArray.mk (Array.mk [])), Value.bool false])) w5)) ∧
           (decide (x1 < 0) = false →
             ∃ s6 : ByteArray, (World.cell? w5 (Addr.mk x0 0 none) = some (Value.string s6) ∧
              (((decide (x1 > IntKind.wrap IntKind.i64 ((↑(ByteArray.size s6) : Int) - IntKind.wrap IntKind.i64 (n3 - IntKind.wrap IntKind.i64 (Int.tdiv n4 8)))) = true →
                 R (Value.tuple (Array.mk [Value.string (ByteArray.mk (Array.mk [])), Value.bool false])) w5)) ∧
               (decide (x1 > IntKind.wrap IntKind.i64 ((↑(ByteArray.size s6) : Int) - IntKind.wrap IntKind.i64 (n3 - IntKind.wrap IntKind.i64 (Int.tdiv n4 8)))) = false →
                 (Wr w5 (Addr.mk x0 1 none) ∧
                  ∀ w7 : World,
                  (w7 = World.setCell w5 (Addr.mk x0 1 none) (Value.int IntKind.i64 (IntKind.wrap IntKind.i64 (IntKind.wrap IntKind.i64 (n3 - IntKind.wrap IntKind.i64 (Int.tdiv n4 8)) + x1))) →
                    (Wr w7 (Addr.mk x0 2 none) ∧
                     ∀ w8 : World,
                     (w8 = World.setCell w7 (Addr.mk x0 2 none) (Value.int IntKind.u64 0) →
                       (Wr w8 (Addr.mk x0 3 none) ∧
                        ∀ w9 : World,
                        (w9 = World.setCell w8 (Addr.mk x0 3 none) (Value.int IntKind.i64 0) →
                          ∃ s10 : ByteArray, (World.cell? w9 (Addr.mk x0 0 none) = some (Value.string s10) ∧
                           ((0 ≤ IntKind.wrap IntKind.i64 (n3 - IntKind.wrap IntKind.i64 (Int.tdiv n4 8)) ∧
                             (IntKind.wrap IntKind.i64 (n3 - IntKind.wrap IntKind.i64 (Int.tdiv n4 8)) ≤ IntKind.wrap IntKind.i64 (IntKind.wrap IntKind.i64 (n3 - IntKind.wrap IntKind.i64 (Int.tdiv n4 8)) + x1) ∧
                              IntKind.wrap IntKind.i64 (IntKind.wrap IntKind.i64 (n3 - IntKind.wrap IntKind.i64 (Int.tdiv n4 8)) + x1) ≤ (↑(ByteArray.size s10) : Int))) ∧
                            R (Value.tuple (Array.mk [Value.string (ByteArray.extract s10 (Int.toNat (IntKind.wrap IntKind.i64 (n3 - IntKind.wrap IntKind.i64 (Int.tdiv n4 8)))) (Int.toNat (IntKind.wrap IntKind.i64 (IntKind.wrap IntKind.i64 (n3 - IntKind.wrap IntKind.i64 (Int.tdiv n4 8)) + x1)))), Value.bool true])) w9)))))))))))))))))))
theorem vc_bitin_Reader_Bytes_ok {x0 : Nat} {x1 : Int} {w : World} {R : Value → World → Prop} {R' : Ending → World → Prop} (h : vc_bitin_Reader_Bytes x0 x1 w R) (hR : ∀ v w', R v w' → R' (.returned v) w') :
    Calls Try.prog 73 #[.pointer (some ⟨x0, 0, none⟩), .int .i64 x1] w R' :=
  calls_of_body (vs := [(.pointer (some ⟨x0, 0, none⟩), true), (.int .i64 x1, false)]) (ty := ty) (ann := ⟨[], [], [(2, .quiet)], []⟩) (c := Try.f73.body.getD .skip) (by kernel_rfl) Try.func73 (by kernel_rfl) (by kernel_rfl) (Eq.mp (by kernel_rfl) h) hR
end Go.Proofs.Ytofejgaanpaieaa

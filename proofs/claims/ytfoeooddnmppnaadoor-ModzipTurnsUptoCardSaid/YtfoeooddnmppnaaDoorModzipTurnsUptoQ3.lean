/- Texts of this seat in one: made by a program of ours. -/
import Derived.Test.YtfoeooddnmppnaaDoorModzipTurnsUptoQ0
import Derived.Test.YtfoeooddnmppnaaDoorModzipTurnsUptoQ1
import Derived.Test.YtfoeooddnmppnaaDoorModzipTurnsUptoQ2
import Derived.Test.YtfoeooddnmppnaaDoorProg
import Derived.Laws.CopyRow
/- Formulas of 6 Go functions of this seat (written by a program of the author's, vcgen.py), and that each is enough for the call. No condition. -/
set_option linter.unusedVariables false
namespace Go.Proofs.YtfoeooddnmppnaaDoor
open Go Vc Go.Proofs
set_option maxRecDepth 100000
/-- slices.swapRangeCmpFunc[api.File]#hash -/
def vc_slices_swapRangeCmpFunc_hash (x0a : Option Addr) (x0n : Nat) (x0c : Nat) (x1 : Int) (x2 : Int) (x3 : Int) (w : World) (R : Value → World → Prop) : Prop :=
  ∃ I1 : Int → World → Prop, ∃ I2 : Int → World → Nat, (I1 0 w ∧
   ∀ n3 : Int,
   ∀ w4 : World,
   (I1 n3 w4 →
     (((decide (n3 < x3) = true →
        ∀ w5 : World,
        (Drew w4 w5 →
          ∃ I6 : World → Prop, (I6 w5 ∧
           ((0 ≤ IntKind.wrap IntKind.i64 (x2 + n3) ∧
             IntKind.wrap IntKind.i64 (x2 + n3) < (↑x0n : Int)) ∧
            ∃ a7 : Addr, (x0a = some a7 ∧
             ∃ s8 : ByteArray, ∃ s9 : ByteArray, ((∀ w10 : World,
              (I6 w10 →
                Sem.run Tryd.prog (loadVar 37 (Addr.add a7 (Int.toNat (IntKind.wrap IntKind.i64 (x2 + n3)) * 2))) w10 = Result.ok (Value.agg (Array.mk [Value.string s8, Value.string s9])) w10)) ∧
              ((0 ≤ IntKind.wrap IntKind.i64 (x1 + n3) ∧
                IntKind.wrap IntKind.i64 (x1 + n3) < (↑x0n : Int)) ∧
               ∃ a11 : Addr, (x0a = some a11 ∧
                ∃ s12 : ByteArray, ∃ s13 : ByteArray, ((∀ w14 : World,
                 (I6 w14 →
                   Sem.run Tryd.prog (loadVar 37 (Addr.add a11 (Int.toNat (IntKind.wrap IntKind.i64 (x1 + n3)) * 2))) w14 = Result.ok (Value.agg (Array.mk [Value.string s12, Value.string s13])) w14)) ∧
                 ((0 ≤ IntKind.wrap IntKind.i64 (x1 + n3) ∧
                   IntKind.wrap IntKind.i64 (x1 + n3) < (↑x0n : Int)) ∧
                  ∃ a15 : Addr, (x0a = some a15 ∧
                   ∃ w16 : World, (Sem.run Tryd.prog (storeVar 37 (Addr.add a15 (Int.toNat (IntKind.wrap IntKind.i64 (x1 + n3)) * 2)) (Value.agg (Array.mk [Value.string s8, Value.string s9]))) w5 = Result.ok PUnit.unit w16 ∧
                    ((0 ≤ IntKind.wrap IntKind.i64 (x2 + n3) ∧
                      IntKind.wrap IntKind.i64 (x2 + n3) < (↑x0n : Int)) ∧
                     ∃ a17 : Addr, (x0a = some a17 ∧
                      ∃ w18 : World, (Sem.run Tryd.prog (storeVar 37 (Addr.add a17 (Int.toNat (IntKind.wrap IntKind.i64 (x2 + n3)) * 2)) (Value.agg (Array.mk [Value.string s12, Value.string s13]))) w16 = Result.ok PUnit.unit w18 ∧
                       (I1 (IntKind.wrap IntKind.i64 (n3 + 1)) w18 ∧
                        I2 (IntKind.wrap IntKind.i64 (n3 + 1)) w18 < I2 n3 w4))))))))))))))))) ∧
      (decide (n3 < x3) = false →
        R (Value.tuple (Array.mk [])) w4))))
theorem vc_slices_swapRangeCmpFunc_hash_ok {x0a : Option Addr} {x0n : Nat} {x0c : Nat} {x1 : Int} {x2 : Int} {x3 : Int} {w : World} {R : Value → World → Prop} {R' : Ending → World → Prop} (h : vc_slices_swapRangeCmpFunc_hash x0a x0n x0c x1 x2 x3 w R) (hR : ∀ v w', R v w' → R' (.returned v) w') :
    Calls Tryd.prog 154 #[.slice x0a x0n x0c, .int .i64 x1, .int .i64 x2, .int .i64 x3, .func (.func 48) #[] #[]] w R' :=
  calls_of_body (vs := [(.slice x0a x0n x0c, false), (.int .i64 x1, false), (.int .i64 x2, false), (.int .i64 x3, false), (.func (.func 48) #[] #[], false)]) (ty := ty) (ann := ⟨[], [(1, [(10, .int .i64)])], [(3, .swap [13, 19] [(0, true), (1, true), (2, true), (3, true), (4, true), (5, true), (6, true), (7, true), (8, true), (9, true), (10, true), (11, true), (12, true), (13, true), (14, true), (15, true), (16, true), (17, true), (18, true), (19, true), (20, true), (21, false), (22, true), (23, false)])], []⟩) (c := Tryd.f154.body.getD .skip) (by kernel_rfl) Tryd.func154 (by kernel_rfl) (by kernel_rfl) (Eq.mp (by kernel_rfl) h) hR
/-- slices.rotateCmpFunc[api.File]#hash -/
def vc_slices_rotateCmpFunc_hash (x0a : Option Addr) (x0n : Nat) (x0c : Nat) (x1 : Int) (x2 : Int) (x3 : Int) (w : World) (R : Value → World → Prop) : Prop :=
  ∃ I1 : Int → Int → World → Prop, ∃ I2 : Int → Int → World → Nat, (I1 (IntKind.wrap IntKind.i64 (x2 - x1)) (IntKind.wrap IntKind.i64 (x3 - x2)) w ∧
   ∀ n3 : Int,
   ∀ n4 : Int,
   ∀ w5 : World,
   (I1 n3 n4 w5 →
     ((((n3 != n4) = true →
        (((decide (n3 > n4) = true →
           Calls Tryd.prog (154 : Nat) (Array.mk [Value.slice x0a x0n x0c, Value.int IntKind.i64 (IntKind.wrap IntKind.i64 (x2 - n3)), Value.int IntKind.i64 x2, Value.int IntKind.i64 n4, Value.func (Fn.func 48) (Array.mk []) (Array.mk [])]) (w5) (fun e6 w7 =>
             (e6 = Ending.returned (Value.tuple (Array.mk [])) ∧
              (I1 (IntKind.wrap IntKind.i64 (n3 - n4)) n4 w7 ∧
               I2 (IntKind.wrap IntKind.i64 (n3 - n4)) n4 w7 < I2 n3 n4 w5))))) ∧
         (decide (n3 > n4) = false →
           Calls Tryd.prog (154 : Nat) (Array.mk [Value.slice x0a x0n x0c, Value.int IntKind.i64 (IntKind.wrap IntKind.i64 (x2 - n3)), Value.int IntKind.i64 (IntKind.wrap IntKind.i64 (IntKind.wrap IntKind.i64 (x2 + n4) - n3)), Value.int IntKind.i64 n3, Value.func (Fn.func 48) (Array.mk []) (Array.mk [])]) (w5) (fun e8 w9 =>
             (e8 = Ending.returned (Value.tuple (Array.mk [])) ∧
              (I1 n3 (IntKind.wrap IntKind.i64 (n4 - n3)) w9 ∧
               I2 n3 (IntKind.wrap IntKind.i64 (n4 - n3)) w9 < I2 n3 n4 w5))))))) ∧
      ((n3 != n4) = false →
        Calls Tryd.prog (154 : Nat) (Array.mk [Value.slice x0a x0n x0c, Value.int IntKind.i64 (IntKind.wrap IntKind.i64 (x2 - n3)), Value.int IntKind.i64 x2, Value.int IntKind.i64 n3, Value.func (Fn.func 48) (Array.mk []) (Array.mk [])]) (w5) (fun e10 w11 =>
          (e10 = Ending.returned (Value.tuple (Array.mk [])) ∧
           R (Value.tuple (Array.mk [])) w11))))))
theorem vc_slices_rotateCmpFunc_hash_ok {x0a : Option Addr} {x0n : Nat} {x0c : Nat} {x1 : Int} {x2 : Int} {x3 : Int} {w : World} {R : Value → World → Prop} {R' : Ending → World → Prop} (h : vc_slices_rotateCmpFunc_hash x0a x0n x0c x1 x2 x3 w R) (hR : ∀ v w', R v w' → R' (.returned v) w') :
    Calls Tryd.prog 145 #[.slice x0a x0n x0c, .int .i64 x1, .int .i64 x2, .int .i64 x3, .func (.func 48) #[] #[]] w R' :=
  calls_of_body (vs := [(.slice x0a x0n x0c, false), (.int .i64 x1, false), (.int .i64 x2, false), (.int .i64 x3, false), (.func (.func 48) #[] #[], false)]) (ty := ty) (ann := ⟨[], [(2, [(10, .int .i64), (11, .int .i64)])], [], []⟩) (c := Tryd.f145.body.getD .skip) (by kernel_rfl) Tryd.func145 (by kernel_rfl) (by kernel_rfl) (Eq.mp (by kernel_rfl) h) hR
/-- slices.insertionSortCmpFunc[api.File]#hash -/
def vc_slices_insertionSortCmpFunc_hash (x0a : Option Addr) (x0n : Nat) (x0c : Nat) (x1 : Int) (x2 : Int) (w : World) (R : Value → World → Prop) : Prop :=
  ∃ I1 : Int → World → Prop, ∃ I2 : Int → World → Nat, (I1 (IntKind.wrap IntKind.i64 (x1 + 1)) w ∧
   ∀ n3 : Int,
   ∀ w4 : World,
   (I1 n3 w4 →
     (((decide (n3 < x2) = true →
        ∃ I5 : Int → World → Prop, ∃ I6 : Int → World → Nat, (I5 n3 w4 ∧
         ∀ n7 : Int,
         ∀ w8 : World,
         (I5 n7 w8 →
           ∀ w9 : World,
           (Drew w8 w9 →
             ∃ I10 : World → Prop, (I10 w9 ∧
              (((decide (n7 > x1) = true →
                 ((0 ≤ n7 ∧
                   n7 < (↑x0n : Int)) ∧
                  ∃ a11 : Addr, (x0a = some a11 ∧
                   ((0 ≤ IntKind.wrap IntKind.i64 (n7 - 1) ∧
                     IntKind.wrap IntKind.i64 (n7 - 1) < (↑x0n : Int)) ∧
                    ∃ a12 : Addr, (x0a = some a12 ∧
                     ∃ s13 : ByteArray, ∃ s14 : ByteArray, ((∀ w15 : World,
                      (I10 w15 →
                        Sem.run Tryd.prog (loadVar 37 (Addr.add a11 (Int.toNat n7 * 2))) w15 = Result.ok (Value.agg (Array.mk [Value.string s13, Value.string s14])) w15)) ∧
                      ∃ s16 : ByteArray, ∃ s17 : ByteArray, ((∀ w18 : World,
                       (I10 w18 →
                         Sem.run Tryd.prog (loadVar 37 (Addr.add a12 (Int.toNat (IntKind.wrap IntKind.i64 (n7 - 1)) * 2))) w18 = Result.ok (Value.agg (Array.mk [Value.string s16, Value.string s17])) w18)) ∧
                       Calls Tryd.prog (48 : FuncId) (Array.mk [Value.agg (Array.mk [Value.string s13, Value.string s14]), Value.agg (Array.mk [Value.string s16, Value.string s17])]) (w9) (fun e19 w20 =>
                         ∃ n21 : Int, (e19 = Ending.returned (Value.int IntKind.i64 n21) ∧
                          (I10 w20 ∧
                           (((decide (n21 < 0) = true →
                              ∀ w22 : World,
                              (Drew w20 w22 →
                                ∃ I23 : World → Prop, (I23 w22 ∧
                                 ((0 ≤ IntKind.wrap IntKind.i64 (n7 - 1) ∧
                                   IntKind.wrap IntKind.i64 (n7 - 1) < (↑x0n : Int)) ∧
                                  ∃ a24 : Addr, (x0a = some a24 ∧
                                   ∃ s25 : ByteArray, ∃ s26 : ByteArray, ((∀ w27 : World,
                                    (I23 w27 →
                                      Sem.run Tryd.prog (loadVar 37 (Addr.add a24 (Int.toNat (IntKind.wrap IntKind.i64 (n7 - 1)) * 2))) w27 = Result.ok (Value.agg (Array.mk [Value.string s25, Value.string s26])) w27)) ∧
                                    ((0 ≤ n7 ∧
                                      n7 < (↑x0n : Int)) ∧
                                     ∃ a28 : Addr, (x0a = some a28 ∧
                                      ∃ s29 : ByteArray, ∃ s30 : ByteArray, ((∀ w31 : World,
                                       (I23 w31 →
                                         Sem.run Tryd.prog (loadVar 37 (Addr.add a28 (Int.toNat n7 * 2))) w31 = Result.ok (Value.agg (Array.mk [Value.string s29, Value.string s30])) w31)) ∧
                                       ((0 ≤ n7 ∧
                                         n7 < (↑x0n : Int)) ∧
                                        ∃ a32 : Addr, (x0a = some a32 ∧
                                         ∃ w33 : World, (Sem.run Tryd.prog (storeVar 37 (Addr.add a32 (Int.toNat n7 * 2)) (Value.agg (Array.mk [Value.string s25, Value.string s26]))) w22 = Result.ok PUnit.unit w33 ∧
                                          ((0 ≤ IntKind.wrap IntKind.i64 (n7 - 1) ∧
                                            IntKind.wrap IntKind.i64 (n7 - 1) < (↑x0n : Int)) ∧
                                           ∃ a34 : Addr, (x0a = some a34 ∧
                                            ∃ w35 : World, (Sem.run Tryd.prog (storeVar 37 (Addr.add a34 (Int.toNat (IntKind.wrap IntKind.i64 (n7 - 1)) * 2)) (Value.agg (Array.mk [Value.string s29, Value.string s30]))) w33 = Result.ok PUnit.unit w35 ∧
                                             (I5 (IntKind.wrap IntKind.i64 (n7 - 1)) w35 ∧
                                              I6 (IntKind.wrap IntKind.i64 (n7 - 1)) w35 < I6 n7 w8))))))))))))))))) ∧
                            (decide (n21 < 0) = false →
                              (I1 (IntKind.wrap IntKind.i64 (n3 + 1)) w20 ∧
                               I2 (IntKind.wrap IntKind.i64 (n3 + 1)) w20 < I2 n3 w4)))))))))))))) ∧
               (decide (n7 > x1) = false →
                 (I10 w9 ∧
                  (I1 (IntKind.wrap IntKind.i64 (n3 + 1)) w9 ∧
                   I2 (IntKind.wrap IntKind.i64 (n3 + 1)) w9 < I2 n3 w4)))))))))) ∧
      (decide (n3 < x2) = false →
        R (Value.tuple (Array.mk [])) w4))))
theorem vc_slices_insertionSortCmpFunc_hash_ok {x0a : Option Addr} {x0n : Nat} {x0c : Nat} {x1 : Int} {x2 : Int} {w : World} {R : Value → World → Prop} {R' : Ending → World → Prop} (h : vc_slices_insertionSortCmpFunc_hash x0a x0n x0c x1 x2 w R) (hR : ∀ v w', R v w' → R' (.returned v) w') :
    Calls Tryd.prog 126 #[.slice x0a x0n x0c, .int .i64 x1, .int .i64 x2, .func (.func 48) #[] #[]] w R' :=
  calls_of_body (vs := [(.slice x0a x0n x0c, false), (.int .i64 x1, false), (.int .i64 x2, false), (.func (.func 48) #[] #[], false)]) (ty := ty) (ann := ⟨[], [(1, [(8, .int .i64)]), (4, [(9, .int .i64)])], [(4, .held [(0, true), (1, true), (2, true), (3, true), (4, true), (5, true), (6, true), (7, true), (9, true), (10, true), (11, true), (12, true), (8, true), (13, true), (14, false), (15, true), (16, true)]), (6, .swap [9, 13] [(0, true), (1, true), (2, true), (3, true), (4, true), (5, true), (6, true), (7, true), (8, true), (9, true), (10, true), (11, true), (12, true), (13, true), (14, true), (15, false), (16, true), (17, false)])], []⟩) (c := Tryd.f126.body.getD .skip) (by kernel_rfl) Tryd.func126 (by kernel_rfl) (by kernel_rfl) (Eq.mp (by kernel_rfl) h) hR
/-- slices.symMergeCmpFunc[api.File]#hash -/
def vc_slices_symMergeCmpFunc_hash (x0a : Option Addr) (x0n : Nat) (x0c : Nat) (x1 : Int) (x2 : Int) (x3 : Int) (w : World) (R : Value → World → Prop) : Prop :=
  ((((IntKind.wrap IntKind.i64 (x2 - x1) == 1) = true →
     ∃ I1 : Int → Int → World → Prop, ∃ I2 : Int → Int → World → Nat, (I1 x2 x3 w ∧
      ∀ n3 : Int,
      ∀ n4 : Int,
      ∀ w5 : World,
      (I1 n3 n4 w5 →
        (((decide (n3 < n4) = true →
           ((0 : Int) ≤ (1 : Int) ∧
            ∀ w6 : World,
            (Drew w5 w6 →
              ∃ I7 : World → Prop, (I7 w6 ∧
               ((0 ≤ IntKind.wrap IntKind.i64 (Int.fdiv (IntKind.wrap IntKind.u64 (IntKind.wrap IntKind.i64 (n3 + n4))) (2 ^ min (Int.toNat 1) 64)) ∧
                 IntKind.wrap IntKind.i64 (Int.fdiv (IntKind.wrap IntKind.u64 (IntKind.wrap IntKind.i64 (n3 + n4))) (2 ^ min (Int.toNat 1) 64)) < (↑x0n : Int)) ∧
                ∃ a8 : Addr, (x0a = some a8 ∧
                 ((0 ≤ x1 ∧
                   x1 < (↑x0n : Int)) ∧
                  ∃ a9 : Addr, (x0a = some a9 ∧
                   ∃ s10 : ByteArray, ∃ s11 : ByteArray, ((∀ w12 : World,
                    (I7 w12 →
                      Sem.run Tryd.prog (loadVar 37 (Addr.add a8 (Int.toNat (IntKind.wrap IntKind.i64 (Int.fdiv (IntKind.wrap IntKind.u64 (IntKind.wrap IntKind.i64 (n3 + n4))) (2 ^ min (Int.toNat 1) 64))) * 2))) w12 = Result.ok (Value.agg (Array.mk [Value.string s10, Value.string s11])) w12)) ∧
                    ∃ s13 : ByteArray, ∃ s14 : ByteArray, ((∀ w15 : World,
                     (I7 w15 →
                       Sem.run Tryd.prog (loadVar 37 (Addr.add a9 (Int.toNat x1 * 2))) w15 = Result.ok (Value.agg (Array.mk [Value.string s13, Value.string s14])) w15)) ∧
                     Calls Tryd.prog (48 : FuncId) (Array.mk [Value.agg (Array.mk [Value.string s10, Value.string s11]), Value.agg (Array.mk [Value.string s13, Value.string s14])]) (w6) (fun e16 w17 =>
                       ∃ n18 : Int, (e16 = Ending.returned (Value.int IntKind.i64 n18) ∧
                        (I7 w17 ∧
                         (((decide (n18 < 0) = true →
                            (I1 (IntKind.wrap IntKind.i64 (IntKind.wrap IntKind.i64 (Int.fdiv (IntKind.wrap IntKind.u64 (IntKind.wrap IntKind.i64 (n3 + n4))) (2 ^ min (Int.toNat 1) 64)) + 1)) n4 w17 ∧
                             I2 (IntKind.wrap IntKind.i64 (IntKind.wrap IntKind.i64 (Int.fdiv (IntKind.wrap IntKind.u64 (IntKind.wrap IntKind.i64 (n3 + n4))) (2 ^ min (Int.toNat 1) 64)) + 1)) n4 w17 < I2 n3 n4 w5))) ∧
                          (decide (n18 < 0) = false →
                            (I1 n3 (IntKind.wrap IntKind.i64 (Int.fdiv (IntKind.wrap IntKind.u64 (IntKind.wrap IntKind.i64 (n3 + n4))) (2 ^ min (Int.toNat 1) 64))) w17 ∧
                             I2 n3 (IntKind.wrap IntKind.i64 (Int.fdiv (IntKind.wrap IntKind.u64 (IntKind.wrap IntKind.i64 (n3 + n4))) (2 ^ min (Int.toNat 1) 64))) w17 < I2 n3 n4 w5))))))))))))))))) ∧
         (decide (n3 < n4) = false →
           ∃ I19 : Int → World → Prop, ∃ I20 : Int → World → Nat, (I19 x1 w5 ∧
            ∀ n21 : Int,
            ∀ w22 : World,
            (I19 n21 w22 →
              (((decide (n21 < IntKind.wrap IntKind.i64 (n3 - 1)) = true →
                 ∀ w23 : World,
                 (Drew w22 w23 →
                   ∃ I24 : World → Prop, (I24 w23 ∧
                    ((0 ≤ IntKind.wrap IntKind.i64 (n21 + 1) ∧
                      IntKind.wrap IntKind.i64 (n21 + 1) < (↑x0n : Int)) ∧
                     ∃ a25 : Addr, (x0a = some a25 ∧
                      ∃ s26 : ByteArray, ∃ s27 : ByteArray, ((∀ w28 : World,
                       (I24 w28 →
                         Sem.run Tryd.prog (loadVar 37 (Addr.add a25 (Int.toNat (IntKind.wrap IntKind.i64 (n21 + 1)) * 2))) w28 = Result.ok (Value.agg (Array.mk [Value.string s26, Value.string s27])) w28)) ∧
                       ((0 ≤ n21 ∧
                         n21 < (↑x0n : Int)) ∧
                        ∃ a29 : Addr, (x0a = some a29 ∧
                         ∃ s30 : ByteArray, ∃ s31 : ByteArray, ((∀ w32 : World,
                          (I24 w32 →
                            Sem.run Tryd.prog (loadVar 37 (Addr.add a29 (Int.toNat n21 * 2))) w32 = Result.ok (Value.agg (Array.mk [Value.string s30, Value.string s31])) w32)) ∧
                          ((0 ≤ n21 ∧
                            n21 < (↑x0n : Int)) ∧
                           ∃ a33 : Addr, (x0a = some a33 ∧
                            ∃ w34 : World, (Sem.run Tryd.prog (storeVar 37 (Addr.add a33 (Int.toNat n21 * 2)) (Value.agg (Array.mk [Value.string s26, Value.string s27]))) w23 = Result.ok PUnit.unit w34 ∧
                             ((0 ≤ IntKind.wrap IntKind.i64 (n21 + 1) ∧
                               IntKind.wrap IntKind.i64 (n21 + 1) < (↑x0n : Int)) ∧
                              ∃ a35 : Addr, (x0a = some a35 ∧
                               ∃ w36 : World, (Sem.run Tryd.prog (storeVar 37 (Addr.add a35 (Int.toNat (IntKind.wrap IntKind.i64 (n21 + 1)) * 2)) (Value.agg (Array.mk [Value.string s30, Value.string s31]))) w34 = Result.ok PUnit.unit w36 ∧
                                (I19 (IntKind.wrap IntKind.i64 (n21 + 1)) w36 ∧
                                 I20 (IntKind.wrap IntKind.i64 (n21 + 1)) w36 < I20 n21 w22))))))))))))))))) ∧
               (decide (n21 < IntKind.wrap IntKind.i64 (n3 - 1)) = false →
                 R (Value.tuple (Array.mk [])) w22)))))))))) ∧
   ((IntKind.wrap IntKind.i64 (x2 - x1) == 1) = false →
     ((((IntKind.wrap IntKind.i64 (x3 - x2) == 1) = true →
        ∃ I37 : Int → Int → World → Prop, ∃ I38 : Int → Int → World → Nat, (I37 x1 x2 w ∧
         ∀ n39 : Int,
         ∀ n40 : Int,
         ∀ w41 : World,
         (I37 n39 n40 w41 →
           (((decide (n39 < n40) = true →
              ((0 : Int) ≤ (1 : Int) ∧
               ∀ w42 : World,
               (Drew w41 w42 →
                 ∃ I43 : World → Prop, (I43 w42 ∧
                  ((0 ≤ x2 ∧
                    x2 < (↑x0n : Int)) ∧
                   ∃ a44 : Addr, (x0a = some a44 ∧
                    ((0 ≤ IntKind.wrap IntKind.i64 (Int.fdiv (IntKind.wrap IntKind.u64 (IntKind.wrap IntKind.i64 (n39 + n40))) (2 ^ min (Int.toNat 1) 64)) ∧
                      IntKind.wrap IntKind.i64 (Int.fdiv (IntKind.wrap IntKind.u64 (IntKind.wrap IntKind.i64 (n39 + n40))) (2 ^ min (Int.toNat 1) 64)) < (↑x0n : Int)) ∧
                     ∃ a45 : Addr, (x0a = some a45 ∧
                      ∃ s46 : ByteArray, ∃ s47 : ByteArray, ((∀ w48 : World,
                       (I43 w48 →
                         Sem.run Tryd.prog (loadVar 37 (Addr.add a44 (Int.toNat x2 * 2))) w48 = Result.ok (Value.agg (Array.mk [Value.string s46, Value.string s47])) w48)) ∧
                       ∃ s49 : ByteArray, ∃ s50 : ByteArray, ((∀ w51 : World,
                        (I43 w51 →
                          Sem.run Tryd.prog (loadVar 37 (Addr.add a45 (Int.toNat (IntKind.wrap IntKind.i64 (Int.fdiv (IntKind.wrap IntKind.u64 (IntKind.wrap IntKind.i64 (n39 + n40))) (2 ^ min (Int.toNat 1) 64))) * 2))) w51 = Result.ok (Value.agg (Array.mk [Value.string s49, Value.string s50])) w51)) ∧
                        Calls Tryd.prog (48 : FuncId) (Array.mk [Value.agg (Array.mk [Value.string s46, Value.string s47]), Value.agg (Array.mk [Value.string s49, Value.string s50])]) (w42) (fun e52 w53 =>
                          ∃ n54 : Int, (e52 = Ending.returned (Value.int IntKind.i64 n54) ∧
                           (I43 w53 ∧
                            ((((!decide (n54 < 0)) = true →
                               (I37 (IntKind.wrap IntKind.i64 (IntKind.wrap IntKind.i64 (Int.fdiv (IntKind.wrap IntKind.u64 (IntKind.wrap IntKind.i64 (n39 + n40))) (2 ^ min (Int.toNat 1) 64)) + 1)) n40 w53 ∧
                                I38 (IntKind.wrap IntKind.i64 (IntKind.wrap IntKind.i64 (Int.fdiv (IntKind.wrap IntKind.u64 (IntKind.wrap IntKind.i64 (n39 + n40))) (2 ^ min (Int.toNat 1) 64)) + 1)) n40 w53 < I38 n39 n40 w41))) ∧
                             ((!decide (n54 < 0)) = false →
                               (I37 n39 (IntKind.wrap IntKind.i64 (Int.fdiv (IntKind.wrap IntKind.u64 (IntKind.wrap IntKind.i64 (n39 + n40))) (2 ^ min (Int.toNat 1) 64))) w53 ∧
                                I38 n39 (IntKind.wrap IntKind.i64 (Int.fdiv (IntKind.wrap IntKind.u64 (IntKind.wrap IntKind.i64 (n39 + n40))) (2 ^ min (Int.toNat 1) 64))) w53 < I38 n39 n40 w41))))))))))))))))) ∧
            (decide (n39 < n40) = false →
              ∃ I55 : Int → World → Prop, ∃ I56 : Int → World → Nat, (I55 x2 w41 ∧
               ∀ n57 : Int,
               ∀ w58 : World,
               (I55 n57 w58 →
                 (((decide (n57 > n39) = true →
                    ∀ w59 : World,
                    (Drew w58 w59 →
                      ∃ I60 : World → Prop, (I60 w59 ∧
                       ((0 ≤ IntKind.wrap IntKind.i64 (n57 - 1) ∧
                         IntKind.wrap IntKind.i64 (n57 - 1) < (↑x0n : Int)) ∧
                        ∃ a61 : Addr, (x0a = some a61 ∧
                         ∃ s62 : ByteArray, ∃ s63 : ByteArray, ((∀ w64 : World,
                          (I60 w64 →
                            Sem.run Tryd.prog (loadVar 37 (Addr.add a61 (Int.toNat (IntKind.wrap IntKind.i64 (n57 - 1)) * 2))) w64 = Result.ok (Value.agg (Array.mk [Value.string s62, Value.string s63])) w64)) ∧
                          ((0 ≤ n57 ∧
                            n57 < (↑x0n : Int)) ∧
                           ∃ a65 : Addr, (x0a = some a65 ∧
                            ∃ s66 : ByteArray, ∃ s67 : ByteArray, ((∀ w68 : World,
                             (I60 w68 →
                               Sem.run Tryd.prog (loadVar 37 (Addr.add a65 (Int.toNat n57 * 2))) w68 = Result.ok (Value.agg (Array.mk [Value.string s66, Value.string s67])) w68)) ∧
                             ((0 ≤ n57 ∧
                               n57 < (↑x0n : Int)) ∧
                              ∃ a69 : Addr, (x0a = some a69 ∧
                               ∃ w70 : World, (Sem.run Tryd.prog (storeVar 37 (Addr.add a69 (Int.toNat n57 * 2)) (Value.agg (Array.mk [Value.string s62, Value.string s63]))) w59 = Result.ok PUnit.unit w70 ∧
                                ((0 ≤ IntKind.wrap IntKind.i64 (n57 - 1) ∧
                                  IntKind.wrap IntKind.i64 (n57 - 1) < (↑x0n : Int)) ∧
                                 ∃ a71 : Addr, (x0a = some a71 ∧
                                  ∃ w72 : World, (Sem.run Tryd.prog (storeVar 37 (Addr.add a71 (Int.toNat (IntKind.wrap IntKind.i64 (n57 - 1)) * 2)) (Value.agg (Array.mk [Value.string s66, Value.string s67]))) w70 = Result.ok PUnit.unit w72 ∧
                                   (I55 (IntKind.wrap IntKind.i64 (n57 - 1)) w72 ∧
                                    I56 (IntKind.wrap IntKind.i64 (n57 - 1)) w72 < I56 n57 w58))))))))))))))))) ∧
                  (decide (n57 > n39) = false →
                    R (Value.tuple (Array.mk [])) w58)))))))))) ∧
      ((IntKind.wrap IntKind.i64 (x3 - x2) == 1) = false →
        ((0 : Int) ≤ (1 : Int) ∧
         ∃ I73 : Int → Int → World → Prop, ((((decide (x2 > IntKind.wrap IntKind.i64 (Int.fdiv (IntKind.wrap IntKind.u64 (IntKind.wrap IntKind.i64 (x1 + x3))) (2 ^ min (Int.toNat 1) 64))) = true →
             I73 (IntKind.wrap IntKind.i64 (IntKind.wrap IntKind.i64 (IntKind.wrap IntKind.i64 (Int.fdiv (IntKind.wrap IntKind.u64 (IntKind.wrap IntKind.i64 (x1 + x3))) (2 ^ min (Int.toNat 1) 64)) + x2) - x3)) (IntKind.wrap IntKind.i64 (Int.fdiv (IntKind.wrap IntKind.u64 (IntKind.wrap IntKind.i64 (x1 + x3))) (2 ^ min (Int.toNat 1) 64))) w)) ∧
           (decide (x2 > IntKind.wrap IntKind.i64 (Int.fdiv (IntKind.wrap IntKind.u64 (IntKind.wrap IntKind.i64 (x1 + x3))) (2 ^ min (Int.toNat 1) 64))) = false →
             I73 x1 x2 w)) ∧
          ∀ n74 : Int,
          ∀ n75 : Int,
          ∀ w76 : World,
          (I73 n74 n75 w76 →
            ∃ I77 : Int → Int → World → Prop, ∃ I78 : Int → Int → World → Nat, (I77 n74 n75 w76 ∧
             ∀ n79 : Int,
             ∀ n80 : Int,
             ∀ w81 : World,
             (I77 n79 n80 w81 →
               (((decide (n79 < n80) = true →
                  ((0 : Int) ≤ (1 : Int) ∧
                   ∀ w82 : World,
                   (Drew w81 w82 →
                     ∃ I83 : World → Prop, (I83 w82 ∧
                      ((0 ≤ IntKind.wrap IntKind.i64 (IntKind.wrap IntKind.i64 (IntKind.wrap IntKind.i64 (IntKind.wrap IntKind.i64 (Int.fdiv (IntKind.wrap IntKind.u64 (IntKind.wrap IntKind.i64 (x1 + x3))) (2 ^ min (Int.toNat 1) 64)) + x2) - 1) - IntKind.wrap IntKind.i64 (Int.fdiv (IntKind.wrap IntKind.u64 (IntKind.wrap IntKind.i64 (n79 + n80))) (2 ^ min (Int.toNat 1) 64))) ∧
                        IntKind.wrap IntKind.i64 (IntKind.wrap IntKind.i64 (IntKind.wrap IntKind.i64 (IntKind.wrap IntKind.i64 (Int.fdiv (IntKind.wrap IntKind.u64 (IntKind.wrap IntKind.i64 (x1 + x3))) (2 ^ min (Int.toNat 1) 64)) + x2) - 1) - IntKind.wrap IntKind.i64 (Int.fdiv (IntKind.wrap IntKind.u64 (IntKind.wrap IntKind.i64 (n79 + n80))) (2 ^ min (Int.toNat 1) 64))) < (↑x0n : Int)) ∧
                       ∃ a84 : Addr, (x0a = some a84 ∧
                        ((0 ≤ IntKind.wrap IntKind.i64 (Int.fdiv (IntKind.wrap IntKind.u64 (IntKind.wrap IntKind.i64 (n79 + n80))) (2 ^ min (Int.toNat 1) 64)) ∧
                          IntKind.wrap IntKind.i64 (Int.fdiv (IntKind.wrap IntKind.u64 (IntKind.wrap IntKind.i64 (n79 + n80))) (2 ^ min (Int.toNat 1) 64)) < (↑x0n : Int)) ∧
                         ∃ a85 : Addr, (x0a = some a85 ∧
                          ∃ s86 : ByteArray, ∃ s87 : ByteArray, ((∀ w88 : World,
                           (I83 w88 →
                             Sem.run Tryd.prog (loadVar 37 (Addr.add a84 (Int.toNat (IntKind.wrap IntKind.i64 (IntKind.wrap IntKind.i64 (IntKind.wrap IntKind.i64 (IntKind.wrap IntKind.i64 (Int.fdiv (IntKind.wrap IntKind.u64 (IntKind.wrap IntKind.i64 (x1 + x3))) (2 ^ min (Int.toNat 1) 64)) + x2) - 1) - IntKind.wrap IntKind.i64 (Int.fdiv (IntKind.wrap IntKind.u64 (IntKind.wrap IntKind.i64 (n79 + n80))) (2 ^ min (Int.toNat 1) 64)))) * 2))) w88 = Result.ok (Value.agg (Array.mk [Value.string s86, Value.string s87])) w88)) ∧
                           ∃ s89 : ByteArray, ∃ s90 : ByteArray, ((∀ w91 : World,
                            (I83 w91 →
                              Sem.run Tryd.prog (loadVar 37 (Addr.add a85 (Int.toNat (IntKind.wrap IntKind.i64 (Int.fdiv (IntKind.wrap IntKind.u64 (IntKind.wrap IntKind.i64 (n79 + n80))) (2 ^ min (Int.toNat 1) 64))) * 2))) w91 = Result.ok (Value.agg (Array.mk [Value.string s89, Value.string s90])) w91)) ∧
                            Calls Tryd.prog (48 : FuncId) (Array.mk [Value.agg (Array.mk [Value.string s86, Value.string s87]), Value.agg (Array.mk [Value.string s89, Value.string s90])]) (w82) (fun e92 w93 =>
                              ∃ n94 : Int, (e92 = Ending.returned (Value.int IntKind.i64 n94) ∧
                               (I83 w93 ∧
                                ((((!decide (n94 < 0)) = true →
                                   (I77 (IntKind.wrap IntKind.i64 (IntKind.wrap IntKind.i64 (Int.fdiv (IntKind.wrap IntKind.u64 (IntKind.wrap IntKind.i64 (n79 + n80))) (2 ^ min (Int.toNat 1) 64)) + 1)) n80 w93 ∧
                                    I78 (IntKind.wrap IntKind.i64 (IntKind.wrap IntKind.i64 (Int.fdiv (IntKind.wrap IntKind.u64 (IntKind.wrap IntKind.i64 (n79 + n80))) (2 ^ min (Int.toNat 1) 64)) + 1)) n80 w93 < I78 n79 n80 w81))) ∧
                                 ((!decide (n94 < 0)) = false →
                                   (I77 n79 (IntKind.wrap IntKind.i64 (Int.fdiv (IntKind.wrap IntKind.u64 (IntKind.wrap IntKind.i64 (n79 + n80))) (2 ^ min (Int.toNat 1) 64))) w93 ∧
                                    I78 n79 (IntKind.wrap IntKind.i64 (Int.fdiv (IntKind.wrap IntKind.u64 (IntKind.wrap IntKind.i64 (n79 + n80))) (2 ^ min (Int.toNat 1) 64))) w93 < I78 n79 n80 w81))))))))))))))))) ∧
                (decide (n79 < n80) = false →
                  ∃ I95 : World → Prop, ((((decide (n79 < x2) = true →
                      (((decide (x2 < IntKind.wrap IntKind.i64 (IntKind.wrap IntKind.i64 (IntKind.wrap IntKind.i64 (Int.fdiv (IntKind.wrap IntKind.u64 (IntKind.wrap IntKind.i64 (x1 + x3))) (2 ^ min (Int.toNat 1) 64)) + x2) - n79)) = true →
                         Calls Tryd.prog (145 : Nat) (Array.mk [Value.slice x0a x0n x0c, Value.int IntKind.i64 n79, Value.int IntKind.i64 x2, Value.int IntKind.i64 (IntKind.wrap IntKind.i64 (IntKind.wrap IntKind.i64 (IntKind.wrap IntKind.i64 (Int.fdiv (IntKind.wrap IntKind.u64 (IntKind.wrap IntKind.i64 (x1 + x3))) (2 ^ min (Int.toNat 1) 64)) + x2) - n79)), Value.func (Fn.func 48) (Array.mk []) (Array.mk [])]) (w81) (fun e96 w97 =>
                           (e96 = Ending.returned (Value.tuple (Array.mk [])) ∧
                            I95 w97)))) ∧
                       (decide (x2 < IntKind.wrap IntKind.i64 (IntKind.wrap IntKind.i64 (IntKind.wrap IntKind.i64 (Int.fdiv (IntKind.wrap IntKind.u64 (IntKind.wrap IntKind.i64 (x1 + x3))) (2 ^ min (Int.toNat 1) 64)) + x2) - n79)) = false →
                         I95 w81)))) ∧
                    (decide (n79 < x2) = false →
                      I95 w81)) ∧
                   ∀ w98 : World,
                   (I95 w98 →
                     (((decide (x1 < n79) = true →
                        (((decide (n79 < IntKind.wrap IntKind.i64 (Int.fdiv (IntKind.wrap IntKind.u64 (IntKind.wrap IntKind.i64 (x1 + x3))) (2 ^ min (Int.toNat 1) 64))) = true →
                           Calls Tryd.prog (127 : Nat) (Array.mk [Value.slice x0a x0n x0c, Value.int IntKind.i64 x1, Value.int IntKind.i64 n79, Value.int IntKind.i64 (IntKind.wrap IntKind.i64 (Int.fdiv (IntKind.wrap IntKind.u64 (IntKind.wrap IntKind.i64 (x1 + x3))) (2 ^ min (Int.toNat 1) 64))), Value.func (Fn.func 48) (Array.mk []) (Array.mk [])]) (w98) (fun e99 w100 =>
                             (e99 = Ending.returned (Value.tuple (Array.mk [])) ∧
                              (((decide (IntKind.wrap IntKind.i64 (Int.fdiv (IntKind.wrap IntKind.u64 (IntKind.wrap IntKind.i64 (x1 + x3))) (2 ^ min (Int.toNat 1) 64)) < IntKind.wrap IntKind.i64 (IntKind.wrap IntKind.i64 (IntKind.wrap IntKind.i64 (Int.fdiv (IntKind.wrap IntKind.u64 (IntKind.wrap IntKind.i64 (x1 + x3))) (2 ^ min (Int.toNat 1) 64)) + x2) - n79)) = true →
                                 (((decide (IntKind.wrap IntKind.i64 (IntKind.wrap IntKind.i64 (IntKind.wrap IntKind.i64 (Int.fdiv (IntKind.wrap IntKind.u64 (IntKind.wrap IntKind.i64 (x1 + x3))) (2 ^ min (Int.toNat 1) 64)) + x2) - n79) < x3) = true →
                                    Calls Tryd.prog (127 : Nat) (Array.mk [Value.slice x0a x0n x0c, Value.int IntKind.i64 (IntKind.wrap IntKind.i64 (Int.fdiv (IntKind.wrap IntKind.u64 (IntKind.wrap IntKind.i64 (x1 + x3))) (2 ^ min (Int.toNat 1) 64))), Value.int IntKind.i64 (IntKind.wrap IntKind.i64 (IntKind.wrap IntKind.i64 (IntKind.wrap IntKind.i64 (Int.fdiv (IntKind.wrap IntKind.u64 (IntKind.wrap IntKind.i64 (x1 + x3))) (2 ^ min (Int.toNat 1) 64)) + x2) - n79)), Value.int IntKind.i64 x3, Value.func (Fn.func 48) (Array.mk []) (Array.mk [])]) (w100) (fun e101 w102 =>
                                      (e101 = Ending.returned (Value.tuple (Array.mk [])) ∧
                                       R (Value.tuple (Array.mk [])) w102)))) ∧
                                  (decide (IntKind.wrap IntKind.i64 (IntKind.wrap IntKind.i64 (IntKind.wrap IntKind.i64 (Int.fdiv (IntKind.wrap IntKind.u64 (IntKind.wrap IntKind.i64 (x1 + x3))) (2 ^ min (Int.toNat 1) 64)) + x2) - n79) < x3) = false →
                                    R (Value.tuple (Array.mk [])) w100)))) ∧
                               (decide (IntKind.wrap IntKind.i64 (Int.fdiv (IntKind.wrap IntKind.u64 (IntKind.wrap IntKind.i64 (x1 + x3))) (2 ^ min (Int.toNat 1) 64)) < IntKind.wrap IntKind.i64 (IntKind.wrap IntKind.i64 (IntKind.wrap IntKind.i64 (Int.fdiv (IntKind.wrap IntKind.u64 (IntKind.wrap IntKind.i64 (x1 + x3))) (2 ^ min (Int.toNat 1) 64)) + x2) - n79)) = false →
                                 R (Value.tuple (Array.mk [])) w100)))))) ∧
                         (decide (n79 < IntKind.wrap IntKind.i64 (Int.fdiv (IntKind.wrap IntKind.u64 (IntKind.wrap IntKind.i64 (x1 + x3))) (2 ^ min (Int.toNat 1) 64))) = false →
                           (((decide (IntKind.wrap IntKind.i64 (Int.fdiv (IntKind.wrap IntKind.u64 (IntKind.wrap IntKind.i64 (x1 + x3))) (2 ^ min (Int.toNat 1) 64)) < IntKind.wrap IntKind.i64 (IntKind.wrap IntKind.i64 (IntKind.wrap IntKind.i64 (Int.fdiv (IntKind.wrap IntKind.u64 (IntKind.wrap IntKind.i64 (x1 + x3))) (2 ^ min (Int.toNat 1) 64)) + x2) - n79)) = true →
                              (((decide (IntKind.wrap IntKind.i64 (IntKind.wrap IntKind.i64 (IntKind.wrap IntKind.i64 (Int.fdiv (IntKind.wrap IntKind.u64 (IntKind.wrap IntKind.i64 (x1 + x3))) (2 ^ min (Int.toNat 1) 64)) + x2) - n79) < x3) = true →
                                 Calls Tryd.prog (127 : Nat) (Array.mk [Value.slice x0a x0n x0c, Value.int IntKind.i64 (IntKind.wrap IntKind.i64 (Int.fdiv (IntKind.wrap IntKind.u64 (IntKind.wrap IntKind.i64 (x1 + x3))) (2 ^ min (Int.toNat 1) 64))), Value.int IntKind.i64 (IntKind.wrap IntKind.i64 (IntKind.wrap IntKind.i64 (IntKind.wrap IntKind.i64 (Int.fdiv (IntKind.wrap IntKind.u64 (IntKind.wrap IntKind.i64 (x1 + x3))) (2 ^ min (Int.toNat 1) 64)) + x2) - n79)), Value.int IntKind.i64 x3, Value.func (Fn.func 48) (Array.mk []) (Array.mk [])]) (w98) (fun e103 w104 =>
                                   (e103 = Ending.returned (Value.tuple (Array.mk [])) ∧
                                    R (Value.tuple (Array.mk [])) w104)))) ∧
                               (decide (IntKind.wrap IntKind.i64 (IntKind.wrap IntKind.i64 (IntKind.wrap IntKind.i64 (Int.fdiv (IntKind.wrap IntKind.u64 (IntKind.wrap IntKind.i64 (x1 + x3))) (2 ^ min (Int.toNat 1) 64)) + x2) - n79) < x3) = false →
                                 R (Value.tuple (Array.mk [])) w98)))) ∧
                            (decide (IntKind.wrap IntKind.i64 (Int.fdiv (IntKind.wrap IntKind.u64 (IntKind.wrap IntKind.i64 (x1 + x3))) (2 ^ min (Int.toNat 1) 64)) < IntKind.wrap IntKind.i64 (IntKind.wrap IntKind.i64 (IntKind.wrap IntKind.i64 (Int.fdiv (IntKind.wrap IntKind.u64 (IntKind.wrap IntKind.i64 (x1 + x3))) (2 ^ min (Int.toNat 1) 64)) + x2) - n79)) = false →
                              R (Value.tuple (Array.mk [])) w98)))))) ∧
                      (decide (x1 < n79) = false →
                        (((decide (IntKind.wrap IntKind.i64 (Int.fdiv (IntKind.wrap IntKind.u64 (IntKind.wrap IntKind.i64 (x1 + x3))) (2 ^ min (Int.toNat 1) 64)) < IntKind.wrap IntKind.i64 (IntKind.wrap IntKind.i64 (IntKind.wrap IntKind.i64 (Int.fdiv (IntKind.wrap IntKind.u64 (IntKind.wrap IntKind.i64 (x1 + x3))) (2 ^ min (Int.toNat 1) 64)) + x2) - n79)) = true →
                           (((decide (IntKind.wrap IntKind.i64 (IntKind.wrap IntKind.i64 (IntKind.wrap IntKind.i64 (Int.fdiv (IntKind.wrap IntKind.u64 (IntKind.wrap IntKind.i64 (x1 + x3))) (2 ^ min (Int.toNat 1) 64)) + x2) - n79) < x3) = true →
                              Calls Tryd.prog (127 : Nat) (Array.mk [Value.slice x0a x0n x0c, Value.int IntKind.i64 (IntKind.wrap IntKind.i64 (Int.fdiv (IntKind.wrap IntKind.u64 (IntKind.wrap IntKind.i64 (x1 + x3))) (2 ^ min (Int.toNat 1) 64))), Value.int IntKind.i64 (IntKind.wrap IntKind.i64 (IntKind.wrap IntKind.i64 (IntKind.wrap IntKind.i64 (Int.fdiv (IntKind.wrap IntKind.u64 (IntKind.wrap IntKind.i64 (x1 + x3))) (2 ^ min (Int.toNat 1) 64)) + x2) - n79)), Value.int IntKind.i64 x3, Value.func (Fn.func 48) (Array.mk []) (Array.mk [])]) (w98) (fun e105 w106 =>
                                (e105 = Ending.returned (Value.tuple (Array.mk [])) ∧
                                 R (Value.tuple (Array.mk [])) w106)))) ∧
                            (decide (IntKind.wrap IntKind.i64 (IntKind.wrap IntKind.i64 (IntKind.wrap IntKind.i64 (Int.fdiv (IntKind.wrap IntKind.u64 (IntKind.wrap IntKind.i64 (x1 + x3))) (2 ^ min (Int.toNat 1) 64)) + x2) - n79) < x3) = false →
                              R (Value.tuple (Array.mk [])) w98)))) ∧
                         (decide (IntKind.wrap IntKind.i64 (Int.fdiv (IntKind.wrap IntKind.u64 (IntKind.wrap IntKind.i64 (x1 + x3))) (2 ^ min (Int.toNat 1) 64)) < IntKind.wrap IntKind.i64 (IntKind.wrap IntKind.i64 (IntKind.wrap IntKind.i64 (Int.fdiv (IntKind.wrap IntKind.u64 (IntKind.wrap IntKind.i64 (x1 + x3))) (2 ^ min (Int.toNat 1) 64)) + x2) - n79)) = false →
                           R (Value.tuple (Array.mk [])) w98)))))))))))))))))
theorem vc_slices_symMergeCmpFunc_hash_ok {x0a : Option Addr} {x0n : Nat} {x0c : Nat} {x1 : Int} {x2 : Int} {x3 : Int} {w : World} {R : Value → World → Prop} {R' : Ending → World → Prop} (h : vc_slices_symMergeCmpFunc_hash x0a x0n x0c x1 x2 x3 w R) (hR : ∀ v w', R v w' → R' (.returned v) w') :
    Calls Tryd.prog 127 #[.slice x0a x0n x0c, .int .i64 x1, .int .i64 x2, .int .i64 x3, .func (.func 48) #[] #[]] w R' :=
  calls_of_body (vs := [(.slice x0a x0n x0c, false), (.int .i64 x1, false), (.int .i64 x2, false), (.int .i64 x3, false), (.func (.func 48) #[] #[], false)]) (ty := ty) (ann := ⟨[(32, [(20, .int .i64), (21, .int .i64)]), (41, [])], [(3, [(10, .int .i64), (11, .int .i64)]), (9, [(13, .int .i64)]), (15, [(14, .int .i64), (15, .int .i64)]), (21, [(17, .int .i64)]), (33, [(20, .int .i64), (21, .int .i64)])], [(5, .held [(0, true), (1, true), (2, true), (3, true), (5, true), (6, true), (7, true), (4, true), (8, true), (9, false), (10, true)]), (11, .swap [9, 13] [(0, true), (1, true), (2, true), (3, true), (4, true), (5, true), (6, true), (7, true), (8, true), (9, true), (10, true), (11, true), (12, true), (13, true), (14, true), (15, false), (16, true), (17, false)]), (17, .held [(0, true), (1, true), (2, true), (3, true), (5, true), (6, true), (7, true), (4, true), (8, true), (9, false), (10, true), (11, true)]), (23, .swap [9, 13] [(0, true), (1, true), (2, true), (3, true), (4, true), (5, true), (6, true), (7, true), (8, true), (9, true), (10, true), (11, true), (12, true), (13, true), (14, true), (15, false), (16, true), (17, false)]), (35, .held [(0, true), (1, true), (2, true), (3, true), (4, true), (5, true), (7, true), (8, true), (9, true), (6, true), (10, true), (11, false), (12, true), (13, true)])], []⟩) (c := Tryd.f127.body.getD .skip) (by kernel_rfl) Tryd.func127 (by kernel_rfl) (by kernel_rfl) (Eq.mp (by kernel_rfl) h) hR
/-- slices.stableCmpFunc[api.File]#hash -/
def vc_slices_stableCmpFunc_hash (x0a : Option Addr) (x0n : Nat) (x0c : Nat) (x1 : Int) (w : World) (R : Value → World → Prop) : Prop :=
  ∃ I1 : Int → Int → World → Prop, ∃ I2 : Int → Int → World → Nat, (I1 0 20 w ∧
   ∀ n3 : Int,
   ∀ n4 : Int,
   ∀ w5 : World,
   (I1 n3 n4 w5 →
     (((decide (n4 ≤ x1) = true →
        Calls Tryd.prog (126 : Nat) (Array.mk [Value.slice x0a x0n x0c, Value.int IntKind.i64 n3, Value.int IntKind.i64 n4, Value.func (Fn.func 48) (Array.mk []) (Array.mk [])]) (w5) (fun e6 w7 =>
          (e6 = Ending.returned (Value.tuple (Array.mk [])) ∧
           (I1 n4 (IntKind.wrap IntKind.i64 (n4 + 20)) w7 ∧
            I2 n4 (IntKind.wrap IntKind.i64 (n4 + 20)) w7 < I2 n3 n4 w5))))) ∧
      (decide (n4 ≤ x1) = false →
        Calls Tryd.prog (126 : Nat) (Array.mk [Value.slice x0a x0n x0c, Value.int IntKind.i64 n3, Value.int IntKind.i64 x1, Value.func (Fn.func 48) (Array.mk []) (Array.mk [])]) (w5) (fun e8 w9 =>
          (e8 = Ending.returned (Value.tuple (Array.mk [])) ∧
           ∃ I10 : Int → World → Prop, ∃ I11 : Int → World → Nat, (I10 20 w9 ∧
            ∀ n12 : Int,
            ∀ w13 : World,
            (I10 n12 w13 →
              (((decide (n12 < x1) = true →
                 ∃ I14 : Int → Int → World → Prop, ∃ I15 : Int → Int → World → Nat, (I14 0 (IntKind.wrap IntKind.i64 (2 * n12)) w13 ∧
                  ∀ n16 : Int,
                  ∀ n17 : Int,
                  ∀ w18 : World,
                  (I14 n16 n17 w18 →
                    (((decide (n17 ≤ x1) = true →
                       Calls Tryd.prog (127 : Nat) (Array.mk [Value.slice x0a x0n x0c, Value.int IntKind.i64 n16, Value.int IntKind.i64 (IntKind.wrap IntKind.i64 (n16 + n12)), Value.int IntKind.i64 n17, Value.func (Fn.func 48) (Array.mk []) (Array.mk [])]) (w18) (fun e19 w20 =>
                         (e19 = Ending.returned (Value.tuple (Array.mk [])) ∧
                          (I14 n17 (IntKind.wrap IntKind.i64 (n17 + IntKind.wrap IntKind.i64 (2 * n12))) w20 ∧
                           I15 n17 (IntKind.wrap IntKind.i64 (n17 + IntKind.wrap IntKind.i64 (2 * n12))) w20 < I15 n16 n17 w18))))) ∧
                     (decide (n17 ≤ x1) = false →
                       (((decide (IntKind.wrap IntKind.i64 (n16 + n12) < x1) = true →
                          Calls Tryd.prog (127 : Nat) (Array.mk [Value.slice x0a x0n x0c, Value.int IntKind.i64 n16, Value.int IntKind.i64 (IntKind.wrap IntKind.i64 (n16 + n12)), Value.int IntKind.i64 x1, Value.func (Fn.func 48) (Array.mk []) (Array.mk [])]) (w18) (fun e21 w22 =>
                            (e21 = Ending.returned (Value.tuple (Array.mk [])) ∧
                             (I10 (IntKind.wrap IntKind.i64 (n12 * 2)) w22 ∧
                              I11 (IntKind.wrap IntKind.i64 (n12 * 2)) w22 < I11 n12 w13))))) ∧
                        (decide (IntKind.wrap IntKind.i64 (n16 + n12) < x1) = false →
                          (I10 (IntKind.wrap IntKind.i64 (n12 * 2)) w18 ∧
                           I11 (IntKind.wrap IntKind.i64 (n12 * 2)) w18 < I11 n12 w13))))))))) ∧
               (decide (n12 < x1) = false →
                 R (Value.tuple (Array.mk [])) w13))))))))))
theorem vc_slices_stableCmpFunc_hash_ok {x0a : Option Addr} {x0n : Nat} {x0c : Nat} {x1 : Int} {w : World} {R : Value → World → Prop} {R' : Ending → World → Prop} (h : vc_slices_stableCmpFunc_hash x0a x0n x0c x1 w R) (hR : ∀ v w', R v w' → R' (.returned v) w') :
    Calls Tryd.prog 96 #[.slice x0a x0n x0c, .int .i64 x1, .func (.func 48) #[] #[]] w R' :=
  calls_of_body (vs := [(.slice x0a x0n x0c, false), (.int .i64 x1, false), (.func (.func 48) #[] #[], false)]) (ty := ty) (ann := ⟨[], [(2, [(7, .int .i64), (8, .int .i64)]), (7, [(6, .int .i64)]), (9, [(7, .int .i64), (8, .int .i64)])], [], []⟩) (c := Tryd.f96.body.getD .skip) (by kernel_rfl) Tryd.func96 (by kernel_rfl) (by kernel_rfl) (Eq.mp (by kernel_rfl) h) hR
/-- slices.SortStableFunc[[]api.File,api.File]#hash -/
def vc_slices_SortStableFunc_hash (x0a : Option Addr) (x0n : Nat) (x0c : Nat) (w : World) (R : Value → World → Prop) : Prop :=
  Calls Tryd.prog (96 : Nat) (Array.mk [Value.slice x0a x0n x0c, Value.int IntKind.i64 (↑x0n : Int), Value.func (Fn.func 48) (Array.mk []) (Array.mk [])]) (w) (fun e1 w2 =>
    (e1 = Ending.returned (Value.tuple (Array.mk [])) ∧
     R (Value.tuple (Array.mk [])) w2))
theorem vc_slices_SortStableFunc_hash_ok {x0a : Option Addr} {x0n : Nat} {x0c : Nat} {w : World} {R : Value → World → Prop} {R' : Ending → World → Prop} (h : vc_slices_SortStableFunc_hash x0a x0n x0c w R) (hR : ∀ v w', R v w' → R' (.returned v) w') :
    Calls Tryd.prog 47 #[.slice x0a x0n x0c, .func (.func 48) #[] #[]] w R' :=
  calls_of_body (vs := [(.slice x0a x0n x0c, false), (.func (.func 48) #[] #[], false)]) (ty := ty) (ann := ⟨[], [], [], []⟩) (c := Tryd.f47.body.getD .skip) (by kernel_rfl) Tryd.func47 (by kernel_rfl) (by kernel_rfl) (Eq.mp (by kernel_rfl) h) hR
end Go.Proofs.YtfoeooddnmppnaaDoor

/- slices.SortStableFunc's parts over files, held against one another by Hash's closure: swapRange, rotate, insertionSort. Condition: no more than a million files. -/
set_option linter.unusedVariables false
namespace Go.Proofs.YtfoeooddnmppnaaDoor
open Go Vc Go.Proofs StabM

section
variable {w : World} {base : Nat} {l : Sl}
theorem swapRange_hash {P X M Y S : List FileE} (ho : OwnK encF 2 w base T_api_File l (P ++ (X ++ (M ++ (Y ++ S))))) (hl : Y.length = X.length) (hs : l.len ≤ 1000000) :
    Calls Tryd.prog F_slices_swapRangeCmpFunc #[.slice l.a l.len l.cap, .int .i64 (P.length : Int), .int .i64 ((P.length + X.length + M.length : Nat) : Int), .int .i64 (X.length : Int), .func (.func F_modzip_Hash_1) #[] #[]] w fun e w' =>
      e = .returned (.tuple #[]) ∧ OwnK encF 2 w' base T_api_File l (P ++ (Y ++ (M ++ (X ++ S)))) ∧ Fr (At l) w w' := by
  refine vc_slices_swapRangeCmpFunc_hash_ok (R := fun v w' => v = .tuple #[] ∧ OwnK encF 2 w' base T_api_File l (P ++ (Y ++ (M ++ (X ++ S)))) ∧ Fr (At l) w w') ?_ (fun v w' h => ⟨by rw [h.1], h.2⟩)
  have hlen := ho.len
  simp only [List.length_append] at hlen
  refine ⟨fun i w' => ∃ k : Nat, i = k ∧ k ≤ X.length ∧ OwnK encF 2 w' base T_api_File l (P ++ (Y.take k ++ (X.drop k ++ (M ++ (X.take k ++ (Y.drop k ++ S)))))) ∧ Fr (At l) w w', fun i _ => X.length - i.toNat, ⟨0, rfl, Nat.zero_le _, by simpa using ho, .refl _ _⟩, ?_⟩
  clear ho
  rintro i w4 ⟨k, rfl, hk, ho, hf⟩
  refine ⟨fun hlt w5 d5 => ?_, fun hge => ?_⟩
  · have hlt := of_decide_eq_true hlt
    have hkX : k < X.length := by omega
    have hkY : k < Y.length := by omega
    have hX : X.drop k = X[k] :: X.drop (k + 1) := List.drop_eq_getElem_cons hkX
    have hY : Y.drop k = Y[k] :: Y.drop (k + 1) := List.drop_eq_getElem_cons hkY
    have hX2 : X.take (k + 1) = X.take k ++ [X[k]] := (List.take_append_getElem hkX).symm
    have hY2 : Y.take (k + 1) = Y.take k ++ [Y[k]] := (List.take_append_getElem hkY).symm
    generalize X[k] = x at hX hX2
    generalize Y[k] = y at hY hY2
    have ho5 := ho.drew d5
    have hxs : P ++ (Y.take k ++ (X.drop k ++ (M ++ (X.take k ++ (Y.drop k ++ S))))) = (P ++ Y.take k) ++ x :: ((X.drop (k + 1) ++ (M ++ X.take k)) ++ y :: (Y.drop (k + 1) ++ S)) := by
      rw [hX, hY]; simp only [List.append_assoc, List.cons_append]
    rw [hxs] at ho5
    have l1 : (P ++ Y.take k).length = P.length + k := by rw [List.length_append, List.length_take]; omega
    have l2 : (X.drop (k + 1) ++ (M ++ X.take k)).length = X.length - (k + 1) + (M.length + k) := by rw [List.length_append, List.length_append, List.length_drop, List.length_take]; omega
    have hgx : ((P ++ Y.take k) ++ x :: ((X.drop (k + 1) ++ (M ++ X.take k)) ++ y :: (Y.drop (k + 1) ++ S)))[P.length + k]? = some x := by rw [← l1]; exact gets _ _ _
    have hgy : ((P ++ Y.take k) ++ x :: ((X.drop (k + 1) ++ (M ++ X.take k)) ++ y :: (Y.drop (k + 1) ++ S)))[P.length + X.length + M.length + k]? = some y := by
      have := gets (((P ++ Y.take k) ++ x :: (X.drop (k + 1) ++ (M ++ X.take k)))) (Y.drop (k + 1) ++ S) y
      rw [List.length_append, List.length_cons, l1, l2, show P.length + k + (X.length - (k + 1) + (M.length + k) + 1) = P.length + X.length + M.length + k by omega] at this
      rw [← this]
      simp only [List.append_assoc, List.cons_append]
    obtain ⟨ad, had, hlx, hly, w16, hr16, w18, hr18, ho18, hf18⟩ := swap_at ho5 hgx hgy
    have e1 : IntKind.i64.wrap (((P.length + X.length + M.length : Nat) : Int) + (k : Int)) = ((P.length + X.length + M.length + k : Nat) : Int) := by rw [wrap_i64 (by omega) (by omega)]; omega
    have e2 : IntKind.i64.wrap ((P.length : Int) + (k : Int)) = ((P.length + k : Nat) : Int) := by rw [wrap_i64 (by omega) (by omega)]; omega
    have e3 : IntKind.i64.wrap ((k : Int) + 1) = ((k + 1 : Nat) : Int) := by rw [wrap_i64 (by omega) (by omega)]; omega
    rw [e1, e2, e3]
    repeat rw [Int.toNat_natCast]
    refine ⟨fun w' => w' = w5, rfl, ⟨by omega, by omega⟩, ad, had, y.path, y.data, fun w' h => by rw [h]; exact hly, ⟨by omega, by omega⟩, ad, had, x.path, x.data, fun w' h => by rw [h]; exact hlx, ⟨by omega, by omega⟩, ad, had, w16, hr16, ⟨by omega, by omega⟩, ad, had, w18, hr18, ⟨k + 1, rfl, by omega, ?_, (hf.trans' (.drew _ d5)).trans hf18 fun q _ h => h⟩, by dsimp only; omega⟩
    have hsw := swp (P ++ Y.take k) (X.drop (k + 1) ++ (M ++ X.take k)) (Y.drop (k + 1) ++ S) x y
    rw [l1, l2, show P.length + k + 1 + (X.length - (k + 1) + (M.length + k)) = P.length + X.length + M.length + k by omega] at hsw
    rw [hsw] at ho18
    rw [hX2, hY2]
    simpa only [List.append_assoc, List.cons_append, List.nil_append] using ho18
  · have hge := of_decide_eq_false hge
    have hk' : k = X.length := by omega
    rw [hk', List.take_length, List.drop_length, ← hl, List.take_length, List.drop_length] at ho
    exact ⟨rfl, by simpa using ho, hf⟩
theorem rotate_hash {P X Y S : List FileE} (ho : OwnK encF 2 w base T_api_File l (P ++ (X ++ (Y ++ S)))) (hX : 0 < X.length) (hY : 0 < Y.length) (hs : l.len ≤ 1000000) :
    Calls Tryd.prog F_slices_rotateCmpFunc #[.slice l.a l.len l.cap, .int .i64 (P.length : Int), .int .i64 ((P.length + X.length : Nat) : Int), .int .i64 ((P.length + X.length + Y.length : Nat) : Int), .func (.func F_modzip_Hash_1) #[] #[]] w fun e w' =>
      e = .returned (.tuple #[]) ∧ OwnK encF 2 w' base T_api_File l (P ++ (Y ++ (X ++ S))) ∧ Fr (At l) w w' := by
  refine vc_slices_rotateCmpFunc_hash_ok (R := fun v w' => v = .tuple #[] ∧ OwnK encF 2 w' base T_api_File l (P ++ (Y ++ (X ++ S))) ∧ Fr (At l) w w') ?_ (fun v w' h => ⟨by rw [h.1], h.2⟩)
  have hlen := ho.len
  simp only [List.length_append] at hlen
  have e1 : IntKind.i64.wrap (((P.length + X.length : Nat) : Int) - (P.length : Int)) = (X.length : Int) := by rw [wrap_i64 (by omega) (by omega)]; omega
  have e2 : IntKind.i64.wrap (((P.length + X.length + Y.length : Nat) : Int) - ((P.length + X.length : Nat) : Int)) = (Y.length : Int) := by rw [wrap_i64 (by omega) (by omega)]; omega
  unfold vc_slices_rotateCmpFunc_hash
  rw [e1, e2]
  refine ⟨fun i j w' => ∃ P' X' Y' S' : List FileE, OwnK encF 2 w' base T_api_File l (P' ++ (X' ++ (Y' ++ S'))) ∧ P' ++ (Y' ++ (X' ++ S')) = P ++ (Y ++ (X ++ S)) ∧ i = X'.length ∧ j = Y'.length ∧ 0 < X'.length ∧ 0 < Y'.length ∧ P'.length + X'.length = P.length + X.length ∧ Fr (At l) w w',
    fun i j _ => i.toNat + j.toNat, ⟨P, X, Y, S, ho, rfl, rfl, rfl, hX, hY, rfl, .refl _ _⟩, ?_⟩
  clear ho e1 e2
  rintro i j w5 ⟨P', X', Y', S', ho, hT, rfl, rfl, hX', hY', hm, hf⟩
  have hlen' := ho.len
  simp only [List.length_append] at hlen'
  have e3 : IntKind.i64.wrap (((P.length + X.length : Nat) : Int) - (X'.length : Int)) = (P'.length : Int) := by rw [wrap_i64 (by omega) (by omega)]; omega
  rw [e3]
  refine ⟨fun hne => ⟨fun hgt => ?_, fun hle => ?_⟩, fun heq => ?_⟩
  · have hgt := of_decide_eq_true hgt
    have e4 : ((P.length + X.length : Nat) : Int) = ((P'.length + (X'.take Y'.length).length + (X'.drop Y'.length).length : Nat) : Int) := by rw [List.length_take, List.length_drop]; omega
    have e5 : (Y'.length : Int) = ((X'.take Y'.length).length : Int) := by rw [List.length_take]; omega
    have e6 : IntKind.i64.wrap ((X'.length : Int) - (Y'.length : Int)) = ((X'.length - Y'.length : Nat) : Int) := by rw [wrap_i64 (by omega) (by omega)]; omega
    have ho' : OwnK encF 2 w5 base T_api_File l (P' ++ (X'.take Y'.length ++ (X'.drop Y'.length ++ (Y' ++ S')))) := by
      rw [← List.append_assoc (X'.take Y'.length), List.take_append_drop]; exact ho
    rw [e4, e6]
    conv => arg 3; rw [e5]
    refine (swapRange_hash ho' (by rw [List.length_take]; omega) hs).mono ?_
    rintro e w7 ⟨rfl, ho7, hf7⟩
    refine ⟨rfl, ⟨P' ++ Y', X'.drop Y'.length, X'.take Y'.length, S', by rw [List.append_assoc]; exact ho7, ?_, by rw [List.length_drop], by rw [List.length_take]; omega, by rw [List.length_drop]; omega, by rw [List.length_take]; omega, by rw [List.length_append, List.length_drop]; omega, hf.trans hf7 fun q _ h => h⟩, by dsimp only; omega⟩
    rw [← hT, List.append_assoc, ← List.append_assoc (X'.take Y'.length), List.take_append_drop]
  · have hle := of_decide_eq_false hle
    have hne : X'.length ≠ Y'.length := fun h => by rw [h] at hne; simp at hne
    have e4 : IntKind.i64.wrap (IntKind.i64.wrap (((P.length + X.length : Nat) : Int) + (Y'.length : Int)) - (X'.length : Int)) = ((P'.length + X'.length + (Y'.take (Y'.length - X'.length)).length : Nat) : Int) := by
      rw [wrap_i64 (x := ((P.length + X.length : Nat) : Int) + (Y'.length : Int)) (by omega) (by omega), wrap_i64 (by omega) (by omega), List.length_take]; omega
    have e6 : IntKind.i64.wrap ((Y'.length : Int) - (X'.length : Int)) = ((Y'.length - X'.length : Nat) : Int) := by rw [wrap_i64 (by omega) (by omega)]; omega
    have ho' : OwnK encF 2 w5 base T_api_File l (P' ++ (X' ++ (Y'.take (Y'.length - X'.length) ++ (Y'.drop (Y'.length - X'.length) ++ S')))) := by
      rw [← List.append_assoc (Y'.take (Y'.length - X'.length)), List.take_append_drop]; exact ho
    rw [e4, e6]
    refine (swapRange_hash ho' (by rw [List.length_drop]; omega) hs).mono ?_
    rintro e w7 ⟨rfl, ho7, hf7⟩
    refine ⟨rfl, ⟨P', Y'.drop (Y'.length - X'.length), Y'.take (Y'.length - X'.length), X' ++ S', ho7, ?_, by rw [List.length_drop]; omega, by rw [List.length_take]; omega, by rw [List.length_drop]; omega, by rw [List.length_take]; omega, by rw [List.length_drop]; omega, hf.trans hf7 fun q _ h => h⟩, by dsimp only; omega⟩
    rw [← hT, ← List.append_assoc (Y'.take (Y'.length - X'.length)), List.take_append_drop]
  · have heq : X'.length = Y'.length := by
      by_cases h : X'.length = Y'.length
      · exact h
      · have : ((X'.length : Int) != (Y'.length : Int)) = true := by simp; omega
        rw [this] at heq; cases heq
    have e4 : ((P.length + X.length : Nat) : Int) = ((P'.length + X'.length + ([] : List FileE).length : Nat) : Int) := by rw [List.length_nil]; omega
    rw [e4]
    refine (swapRange_hash (M := []) (by simpa using ho) heq.symm hs).mono ?_
    rintro e w7 ⟨rfl, ho7, hf7⟩
    exact ⟨rfl, rfl, by rw [← hT]; simpa using ho7, hf.trans hf7 fun q _ h => h⟩
theorem insertion_hash {P A S : List FileE} (ho : OwnK encF 2 w base T_api_File l (P ++ (A ++ S))) (hs : l.len ≤ 1000000) :
    Calls Tryd.prog F_slices_insertionSortCmpFunc #[.slice l.a l.len l.cap, .int .i64 (P.length : Int), .int .i64 ((P.length + A.length : Nat) : Int), .func (.func F_modzip_Hash_1) #[] #[]] w fun e w' =>
      e = .returned (.tuple #[]) ∧ OwnK encF 2 w' base T_api_File l (P ++ (isort ltP A ++ S)) ∧ Fr (At l) w w' := by
  refine vc_slices_insertionSortCmpFunc_hash_ok (R := fun v w' => v = .tuple #[] ∧ OwnK encF 2 w' base T_api_File l (P ++ (isort ltP A ++ S)) ∧ Fr (At l) w w') ?_ (fun v w' h => ⟨by rw [h.1], h.2⟩)
  have hlen := ho.len
  simp only [List.length_append] at hlen
  have e1 : IntKind.i64.wrap ((P.length : Int) + 1) = ((P.length + 1 : Nat) : Int) := by rw [wrap_i64 (by omega) (by omega)]; omega
  unfold vc_slices_insertionSortCmpFunc_hash
  rw [e1]
  have hini : isort ltP (A.take 1) = A.take 1 := by
    cases A with
    | nil => rfl
    | cons x r => rfl
  refine ⟨fun i w' => ∃ k : Nat, i = ((P.length + k : Nat) : Int) ∧ 1 ≤ k ∧ k ≤ A.length + 1 ∧ OwnK encF 2 w' base T_api_File l (P ++ (isort ltP (A.take k) ++ (A.drop k ++ S))) ∧ Fr (At l) w w', fun i _ => P.length + A.length + 1 - i.toNat,
    ⟨1, rfl, Nat.le_refl _, by omega, by rw [hini, ← List.append_assoc (A.take 1), List.take_append_drop]; exact ho, .refl _ _⟩, ?_⟩
  clear ho
  rintro i w4 ⟨k, rfl, hk1, hk2, ho, hf⟩
  refine ⟨fun hlt => ?_, fun hge => ?_⟩
  · have hlt := of_decide_eq_true hlt
    have hkA : k < A.length := by omega
    have hdr : A.drop k = A[k] :: A.drop (k + 1) := List.drop_eq_getElem_cons hkA
    have htk : A.take (k + 1) = A.take k ++ [A[k]] := (List.take_append_getElem hkA).symm
    generalize A[k] = x at hdr htk
    obtain ⟨hso, hpe⟩ := isort_all ordP.tr ordP.asy _ (A.take k) rfl
    have hil : (isort ltP (A.take k)).length = k := by rw [hpe.length_eq, List.length_take]; omega
    have hput : isort ltP (A.take (k + 1)) = put ltP x (isort ltP (A.take k)) := by rw [htk, isort_snoc]
    rw [hdr] at ho
    generalize hD : A.drop (k + 1) = D at *
    have hDl : D.length = A.length - (k + 1) := by rw [← hD, List.length_drop]
    clear htk hpe hdr
    generalize isort ltP (A.take k) = I at *
    have e3 : IntKind.i64.wrap (((P.length + k : Nat) : Int) + 1) = ((P.length + (k + 1) : Nat) : Int) := by rw [wrap_i64 (by omega) (by omega)]; omega
    rw [e3]
    refine ⟨fun j w' => ∃ L R : List FileE, I = L ++ R ∧ j = ((P.length + L.length : Nat) : Int) ∧ (∀ y ∈ R, ltP x y = true) ∧ OwnK encF 2 w' base T_api_File l (P ++ (L ++ (x :: (R ++ (D ++ S))))) ∧ Fr (At l) w w', fun j _ => j.toNat,
      ⟨I, [], (List.append_nil I).symm, by rw [hil], fun y hy => (by simp at hy), by simpa using ho, hf⟩, ?_⟩
    clear ho
    rintro j w8 ⟨L, R, hI, rfl, hR, ho, hf8⟩ w9 d9
    have hLR : L.length + R.length = k := by rw [← hil, hI, List.length_append]
    have ho9 := ho.drew d9
    have hf9 : Fr (At l) w w9 := hf8.trans' (.drew _ d9)
    have hgx : (P ++ (L ++ (x :: (R ++ (D ++ S)))))[P.length + L.length]? = some x := by
      have := gets (P ++ L) (R ++ (D ++ S)) x
      rw [List.length_append, List.append_assoc] at this
      exact this
    refine ⟨fun w' => Fr (fun _ => False) w9 w', .refl _ _, fun hgt => ?_, fun hle => ⟨.refl _ _, ⟨k + 1, rfl, by omega, by omega, ?_, hf9⟩, by dsimp only; omega⟩⟩
    · have hgt := of_decide_eq_true hgt
      have hL0 : L ≠ [] := fun h => by rw [h] at hgt; simp only [List.length_nil] at hgt; omega
      have hLs := List.dropLast_concat_getLast hL0
      generalize hy : L.getLast hL0 = y at hLs
      generalize L.dropLast = L' at hLs
      subst hLs
      have hL' : (L' ++ [y]).length = L'.length + 1 := by rw [List.length_append]; rfl
      rw [hL'] at hgx hLR hgt ⊢
      have hgy : (P ++ ((L' ++ [y]) ++ (x :: (R ++ (D ++ S)))))[P.length + L'.length]? = some y := by
        have := gets (P ++ L') (x :: (R ++ (D ++ S))) y
        rw [List.length_append, List.append_assoc] at this
        rw [← this]
        simp only [List.append_assoc, List.cons_append, List.nil_append]
      have e2 : IntKind.i64.wrap (((P.length + (L'.length + 1) : Nat) : Int) - 1) = ((P.length + L'.length : Nat) : Int) := by rw [wrap_i64 (by omega) (by omega)]; omega
      rw [e2]
      obtain ⟨ad, had, hlx⟩ := load_at ho9 hgx
      obtain ⟨ad2, had2, hly⟩ := load_at ho9 hgy
      refine ⟨⟨by omega, by omega⟩, ad, had, ⟨by omega, by omega⟩, ad2, had2, x.path, x.data, by rw [Int.toNat_natCast]; exact hlx, y.path, y.data, by rw [Int.toNat_natCast]; exact hly, (hash1_spec x y w9).mono ?_⟩
      rintro e w20 ⟨z, rfl, hz, hf20⟩
      refine ⟨z, rfl, hf20, fun h => ?_, fun h => ?_⟩
      · intro w22 d22
        have ho22 := (ho9.keep hf20 (by simp)).drew d22
        have hf22 : Fr (At l) w w22 := (hf9.trans' (hf20.mono (by simp))).trans' (.drew _ d22)
        obtain ⟨ad3, had3, hlx3, hly3, w33, hr33, w35, hr35, ho35, hf35⟩ := swap_at ho22 hgx hgy
        refine ⟨fun w' => w' = w22, rfl, ⟨by omega, by omega⟩, ad3, had3, y.path, y.data, fun w' h => by rw [h, Int.toNat_natCast]; exact hly3, ⟨by omega, by omega⟩, ad3, had3, x.path, x.data, fun w' h => by rw [h, Int.toNat_natCast]; exact hlx3, ⟨by omega, by omega⟩, ad3, had3, w33, by rw [Int.toNat_natCast]; exact hr33, ⟨by omega, by omega⟩, ad3, had3, w35, by rw [Int.toNat_natCast]; exact hr35,
          ⟨L', y :: R, by rw [hI]; simp, rfl, fun u hu => ?_, ?_, hf22.trans hf35 fun q _ h => h⟩, by dsimp only; omega⟩
        · rcases List.mem_cons.1 hu with rfl | hu
          · rw [← hz]; exact h
          · exact hR u hu
        · rw [List.set_comm _ _ (by omega)] at ho35
          have hsw := swp (P ++ L') [] (R ++ (D ++ S)) y x
          rw [List.length_append, List.length_nil, Nat.add_zero] at hsw
          simp only [List.append_assoc, List.cons_append, List.nil_append] at hsw ho35 ⊢
          rw [show P.length + (L'.length + 1) = P.length + L'.length + 1 by omega, hsw] at ho35
          exact ho35
      · rw [h] at hz
        have ho20 := ho9.keep hf20 (by simp)
        refine ⟨⟨k + 1, rfl, by omega, by omega, ?_, hf9.trans' (hf20.mono (by simp))⟩, by dsimp only; omega⟩
        rw [hput, hI, hD, put_at (L := L' ++ [y]) (R := R) ?_ ?_]
        · simp only [List.append_assoc, List.cons_append, List.nil_append] at ho20 ⊢
          exact ho20
        · intro u hu
          obtain ⟨q, hq, hqe⟩ := mem_idx hu
          rw [hL'] at hq
          have hsoL : Srt ltP (L' ++ [y]) := (List.pairwise_append.1 (hI ▸ hso)).1
          exact srt_nl ordP hsoL (by omega : q ≤ L'.length) hqe (gets L' [] y) hz.symm
        · intro u hu
          exact hR u (List.mem_of_mem_head? hu)
    · have hle := of_decide_eq_false hle
      have hL0 : L = [] := List.eq_nil_of_length_eq_zero (by omega)
      subst hL0
      rw [hput, hI, hD, put_at (L := []) (R := R) (fun u hu => (by simp at hu)) (fun u hu => hR u (List.mem_of_mem_head? hu))]
      simp only [List.cons_append, List.nil_append] at ho9 ⊢
      exact ho9
  · have hge := of_decide_eq_false hge
    have hk' : A.length ≤ k := by omega
    rw [List.take_of_length_le hk', List.drop_eq_nil_of_le hk'] at ho
    exact ⟨rfl, by simpa using ho, hf⟩
end
end Go.Proofs.YtfoeooddnmppnaaDoor

/- slices.SortStableFunc's symMerge over files, held against one another by Hash's closure. Condition: no more than a million files. -/
set_option linter.unusedVariables false
namespace Go.Proofs.YtfoeooddnmppnaaDoor
open Go Vc Go.Proofs StabM

section
variable {w : World} {base : Nat} {l : Sl}
theorem half_hash (p q : Nat) (h : p + q ≤ 4000000) : IntKind.i64.wrap (Int.fdiv (IntKind.u64.wrap (IntKind.i64.wrap ((p : Int) + (q : Int)))) (2 ^ min (Int.toNat 1) 64)) = (((p + q) / 2 : Nat) : Int) := by
  rw [wrap_i64 (x := (p : Int) + (q : Int)) (by omega) (by omega), wrap_u64 (by omega) (by omega), show (2 : Int) ^ min (Int.toNat 1) 64 = 2 by decide, Int.fdiv_eq_ediv_of_nonneg _ (by omega), wrap_i64 (by omega) (by omega)]
  omega
set_option maxHeartbeats 1600000 in
theorem symMerge_hash : ∀ (n : Nat) {w : World} {P A B S : List FileE}, A.length + B.length ≤ n → OwnK encF 2 w base T_api_File l (P ++ (A ++ (B ++ S))) → 0 < A.length → 0 < B.length → Srt ltP A → Srt ltP B → l.len ≤ 1000000 →
    Calls Tryd.prog F_slices_symMergeCmpFunc #[.slice l.a l.len l.cap, .int .i64 (P.length : Int), .int .i64 ((P.length + A.length : Nat) : Int), .int .i64 ((P.length + A.length + B.length : Nat) : Int), .func (.func F_modzip_Hash_1) #[] #[]] w fun e w' =>
      e = .returned (.tuple #[]) ∧ OwnK encF 2 w' base T_api_File l (P ++ (mrg ltP A B ++ S)) ∧ Fr (At l) w w'
  | 0, w, P, A, B, S, hn, ho, hA, hB, _, _, hs => by omega
  | n + 1, w, P, A, B, S, hn, ho, hA, hB, sA, sB, hs => by
    refine vc_slices_symMergeCmpFunc_hash_ok (R := fun v w' => v = .tuple #[] ∧ OwnK encF 2 w' base T_api_File l (P ++ (mrg ltP A B ++ S)) ∧ Fr (At l) w w') ?_ (fun v w' h => ⟨by rw [h.1], h.2⟩)
    have hlen := ho.len
    simp only [List.length_append] at hlen
    have e1 : IntKind.i64.wrap (((P.length + A.length : Nat) : Int) - (P.length : Int)) = (A.length : Int) := by rw [wrap_i64 (by omega) (by omega)]; omega
    have e2 : IntKind.i64.wrap (((P.length + A.length + B.length : Nat) : Int) - ((P.length + A.length : Nat) : Int)) = (B.length : Int) := by rw [wrap_i64 (by omega) (by omega)]; omega
    unfold vc_slices_symMergeCmpFunc_hash
    rw [e1, e2]
    refine ⟨fun h1 => ?_, fun h1 => ⟨fun h2 => ?_, fun h2 => ⟨by decide, ?_⟩⟩⟩
    · -- one element ahead
      have hA0 : (A.length : Int) = 1 := by simpa using h1
      have hA1 : A.length = 1 := by omega
      obtain ⟨x, rfl⟩ : ∃ x, A = [x] := List.length_eq_one_iff.1 hA1
      simp only [List.length_cons, List.length_nil, Nat.zero_add] at hlen ⊢
      have hgx : (P ++ ([x] ++ (B ++ S)))[P.length]? = some x := gets P (B ++ S) x
      refine ⟨fun i j w' => ∃ p q : Nat, i = ((P.length + 1 + p : Nat) : Int) ∧ j = ((P.length + 1 + q : Nat) : Int) ∧ p ≤ q ∧ q ≤ B.length ∧ (∀ u y, u < p → B[u]? = some y → ltP y x = true) ∧ (∀ u y, q ≤ u → B[u]? = some y → ltP y x = false) ∧ Fr (fun _ => False) w w', fun i j _ => j.toNat - i.toNat,
        ⟨0, B.length, rfl, rfl, Nat.zero_le _, Nat.le_refl _, fun u y h => by omega, fun u y h hy => by have := (List.getElem?_eq_some_iff.1 hy).1; omega, .refl _ _⟩, ?_⟩
      rintro i j w5 ⟨p, q, rfl, rfl, hpq, hqB, hlo, hhi, hf⟩
      refine ⟨fun hlt => ⟨by decide, fun w6 d6 => ?_⟩, fun hge => ?_⟩
      · have hlt := of_decide_eq_true hlt
        rw [half_hash _ _ (by omega)]
        obtain ⟨m, hm⟩ : ∃ m, (P.length + 1 + p + (P.length + 1 + q)) / 2 = P.length + 1 + m := ⟨(p + q) / 2, by omega⟩
        have hm2 : m = (p + q) / 2 := by omega
        rw [hm]
        have hmB : m < B.length := by omega
        have hgm : B[m]? = some B[m] := List.getElem?_eq_getElem hmB
        generalize B[m] = y at hgm
        have hgy : (P ++ ([x] ++ (B ++ S)))[P.length + 1 + m]? = some y := by rw [← hgm]; exact get_B (A := [x]) hmB
        have ho6 := ho.keep (hf.trans' (.drew _ d6)) (by simp)
        obtain ⟨ad, had, hly⟩ := load_at ho6 hgy
        obtain ⟨ad2, had2, hlx⟩ := load_at ho6 hgx
        have e4 : IntKind.i64.wrap (((P.length + 1 + m : Nat) : Int) + 1) = ((P.length + 1 + (m + 1) : Nat) : Int) := by rw [wrap_i64 (by omega) (by omega)]; omega
        rw [e4]
        refine ⟨fun w' => Fr (fun _ => False) w6 w', .refl _ _, ⟨by omega, by omega⟩, ad, had, ⟨by omega, by omega⟩, ad2, had2, y.path, y.data, by rw [Int.toNat_natCast]; exact hly, x.path, x.data, by rw [Int.toNat_natCast]; exact hlx, (hash1_spec y x w6).mono ?_⟩
        rintro e w17 ⟨z, rfl, hz, hf17⟩
        have hf' : Fr (fun _ => False) w w17 := (hf.trans' (.drew _ d6)).trans' hf17
        refine ⟨z, rfl, hf17, fun h => ⟨⟨m + 1, q, rfl, rfl, by omega, hqB, fun u v hu hv => ?_, hhi, hf'⟩, by dsimp only; omega⟩, fun h => ⟨⟨p, m, rfl, rfl, by omega, by omega, hlo, fun u v hu hv => ?_, hf'⟩, by dsimp only; omega⟩⟩
        · exact srt_lt ordP sB (by omega : u ≤ m) hv hgm (by rw [← hz]; exact h)
        · exact srt_ng ordP sB hu hgm hv (by rw [← hz]; exact h)
      · have hge := of_decide_eq_false hge
        have hpq' : p = q := by omega
        subst hpq'
        have hB1 : ∀ y ∈ B.take p, ltP y x = true := fun y hy => by
          obtain ⟨u, hu, _, hv⟩ := mem_take_idx hy
          exact hlo u y hu hv
        have hB2 : ∀ y, (B.drop p).head? = some y → ltP y x = false := fun y hy => by
          rw [List.head?_drop] at hy
          exact hhi p y (Nat.le_refl _) hy
        have hmrg : mrg ltP [x] B = B.take p ++ x :: B.drop p := by
          have := mrg_one hB1 hB2
          rwa [List.take_append_drop] at this
        rw [hmrg]
        have hBs : B = B.take p ++ B.drop p := (List.take_append_drop p B).symm
        have hpl : (B.take p).length = p := by rw [List.length_take]; omega
        have hlB : B.length = p + (B.drop p).length := by rw [List.length_drop]; omega
        have ho5 := ho.keep hf (by simp)
        generalize hB1d : B.take p = B1 at *
        generalize hB2d : B.drop p = B2 at *
        rw [hBs] at ho5
        have e5 : IntKind.i64.wrap (((P.length + 1 + p : Nat) : Int) - 1) = ((P.length + p : Nat) : Int) := by rw [wrap_i64 (by omega) (by omega)]; omega
        rw [e5]
        refine ⟨fun i w' => ∃ k : Nat, i = ((P.length + k : Nat) : Int) ∧ k ≤ p ∧ OwnK encF 2 w' base T_api_File l (P ++ (B1.take k ++ (x :: (B1.drop k ++ (B2 ++ S))))) ∧ Fr (At l) w w', fun i _ => P.length + p - i.toNat, ⟨0, rfl, Nat.zero_le _, by simpa using ho5, hf.mono (by simp)⟩, ?_⟩
        rintro i w22 ⟨k, rfl, hk, ho22, hf22⟩
        refine ⟨fun hlt w23 d23 => ?_, fun hge => ?_⟩
        · have hlt := of_decide_eq_true hlt
          have hkl : k < B1.length := by omega
          have hdr : B1.drop k = B1[k] :: B1.drop (k + 1) := List.drop_eq_getElem_cons hkl
          have htk : B1.take (k + 1) = B1.take k ++ [B1[k]] := (List.take_append_getElem hkl).symm
          generalize B1[k] = y at hdr htk
          have ho23 := ho22.drew d23
          have htl : (P ++ B1.take k).length = P.length + k := by rw [List.length_append, List.length_take]; omega
          rw [hdr, ← List.append_assoc P] at ho23
          have hgx3 : ((P ++ B1.take k) ++ (x :: (y :: B1.drop (k + 1) ++ (B2 ++ S))))[P.length + k]? = some x := by rw [← htl]; exact gets _ _ _
          have hgy3 : ((P ++ B1.take k) ++ (x :: (y :: B1.drop (k + 1) ++ (B2 ++ S))))[P.length + k + 1]? = some y := by
            have := gets (P ++ B1.take k ++ [x]) (B1.drop (k + 1) ++ (B2 ++ S)) y
            rw [List.length_append, htl] at this
            rw [← this]
            simp only [List.append_assoc, List.cons_append, List.nil_append, List.length_cons, List.length_nil]
          obtain ⟨ad, had, hlx, hly, w34, hr34, w36, hr36, ho36, hf36⟩ := swap_at ho23 hgx3 hgy3
          have e6 : IntKind.i64.wrap (((P.length + k : Nat) : Int) + 1) = ((P.length + k + 1 : Nat) : Int) := by rw [wrap_i64 (by omega) (by omega)]; omega
          rw [e6]
          refine ⟨fun w' => w' = w23, rfl, ⟨by omega, by omega⟩, ad, had, y.path, y.data, fun w' h => by rw [h, Int.toNat_natCast]; exact hly, ⟨by omega, by omega⟩, ad, had, x.path, x.data, fun w' h => by rw [h, Int.toNat_natCast]; exact hlx, ⟨by omega, by omega⟩, ad, had, w34, by rw [Int.toNat_natCast]; exact hr34, ⟨by omega, by omega⟩, ad, had, w36, by rw [Int.toNat_natCast]; exact hr36, ⟨k + 1, rfl, by omega, ?_, (hf22.trans' (.drew _ d23)).trans hf36 fun q _ h => h⟩, by dsimp only; omega⟩
          have hsw := swp (P ++ B1.take k) [] (B1.drop (k + 1) ++ (B2 ++ S)) x y
          rw [htl, List.length_nil, Nat.add_zero] at hsw
          simp only [List.nil_append, List.cons_append] at hsw ho36
          rw [hsw] at ho36
          rw [htk]
          simpa only [List.append_assoc, List.cons_append, List.nil_append] using ho36
        · have hge := of_decide_eq_false hge
          have hk' : k = B1.length := by omega
          rw [hk', List.take_length, List.drop_length] at ho22
          exact ⟨trivial, by simpa using ho22, hf22⟩
    · -- one element behind
      have hB0 : (B.length : Int) = 1 := by simpa using h2
      have hB1 : B.length = 1 := by omega
      obtain ⟨x, rfl⟩ : ∃ x, B = [x] := List.length_eq_one_iff.1 hB1
      simp only [List.length_cons, List.length_nil, Nat.zero_add] at hlen ⊢
      have hgx : (P ++ (A ++ ([x] ++ S)))[P.length + A.length]? = some x := by
        have := gets (P ++ A) S x
        rw [List.length_append, List.append_assoc] at this
        exact this
      refine ⟨fun i j w' => ∃ p q : Nat, i = ((P.length + p : Nat) : Int) ∧ j = ((P.length + q : Nat) : Int) ∧ p ≤ q ∧ q ≤ A.length ∧ (∀ u y, u < p → A[u]? = some y → ltP x y = false) ∧ (∀ u y, q ≤ u → A[u]? = some y → ltP x y = true) ∧ Fr (fun _ => False) w w', fun i j _ => j.toNat - i.toNat,
        ⟨0, A.length, rfl, rfl, Nat.zero_le _, Nat.le_refl _, fun u y h => by omega, fun u y h hy => by have := (List.getElem?_eq_some_iff.1 hy).1; omega, .refl _ _⟩, ?_⟩
      rintro i j w5 ⟨p, q, rfl, rfl, hpq, hqA, hlo, hhi, hf⟩
      refine ⟨fun hlt => ⟨by decide, fun w6 d6 => ?_⟩, fun hge => ?_⟩
      · have hlt := of_decide_eq_true hlt
        rw [half_hash _ _ (by omega)]
        obtain ⟨m, hm⟩ : ∃ m, (P.length + p + (P.length + q)) / 2 = P.length + m := ⟨(p + q) / 2, by omega⟩
        have hm2 : m = (p + q) / 2 := by omega
        rw [hm]
        have hmA : m < A.length := by omega
        have hgm : A[m]? = some A[m] := List.getElem?_eq_getElem hmA
        generalize A[m] = y at hgm
        have hgy : (P ++ (A ++ ([x] ++ S)))[P.length + m]? = some y := by rw [← hgm]; exact get_A hmA
        have ho6 := ho.keep (hf.trans' (.drew _ d6)) (by simp)
        obtain ⟨ad, had, hly⟩ := load_at ho6 hgy
        obtain ⟨ad2, had2, hlx⟩ := load_at ho6 hgx
        have e4 : IntKind.i64.wrap (((P.length + m : Nat) : Int) + 1) = ((P.length + (m + 1) : Nat) : Int) := by rw [wrap_i64 (by omega) (by omega)]; omega
        rw [e4]
        refine ⟨fun w' => Fr (fun _ => False) w6 w', .refl _ _, ⟨by omega, by omega⟩, ad2, had2, ⟨by omega, by omega⟩, ad, had, x.path, x.data, by rw [Int.toNat_natCast]; exact hlx, y.path, y.data, by rw [Int.toNat_natCast]; exact hly, (hash1_spec x y w6).mono ?_⟩
        rintro e w17 ⟨z, rfl, hz, hf17⟩
        have hf' : Fr (fun _ => False) w w17 := (hf.trans' (.drew _ d6)).trans' hf17
        refine ⟨z, rfl, hf17, fun h => ⟨⟨m + 1, q, rfl, rfl, by omega, hqA, fun u v hu hv => ?_, hhi, hf'⟩, by dsimp only; omega⟩, fun h => ⟨⟨p, m, rfl, rfl, by omega, by omega, hlo, fun u v hu hv => ?_, hf'⟩, by dsimp only; omega⟩⟩
        · exact srt_nl ordP sA (by omega : u ≤ m) hv hgm (by rw [← hz]; simpa using h)
        · exact srt_gt ordP sA hu hgm hv (by rw [← hz]; simpa using h)
      · have hge := of_decide_eq_false hge
        have hpq' : p = q := by omega
        subst hpq'
        have hA1 : ∀ y ∈ A.take p, ltP x y = false := fun y hy => by
          obtain ⟨u, hu, _, hv⟩ := mem_take_idx hy
          exact hlo u y hu hv
        have hA2 : ∀ y ∈ A.drop p, ltP x y = true := fun y hy => by
          obtain ⟨u, hu, _, hv⟩ := mem_drop_idx hy
          exact hhi u y hu hv
        have hmrg : mrg ltP A [x] = A.take p ++ x :: A.drop p := by
          have := mrg_last hA1 hA2
          rwa [List.take_append_drop] at this
        rw [hmrg]
        have hAs : A = A.take p ++ A.drop p := (List.take_append_drop p A).symm
        have hpl : (A.take p).length = p := by rw [List.length_take]; omega
        have hlA : A.length = p + (A.drop p).length := by rw [List.length_drop]; omega
        have ho5 := ho.keep hf (by simp)
        generalize hA1d : A.take p = A1 at *
        generalize hA2d : A.drop p = A2 at *
        rw [hAs] at ho5
        refine ⟨fun i w' => ∃ k : Nat, i = ((P.length + p + k : Nat) : Int) ∧ k ≤ A2.length ∧ OwnK encF 2 w' base T_api_File l (P ++ (A1 ++ (A2.take k ++ (x :: (A2.drop k ++ S))))) ∧ Fr (At l) w w', fun i _ => i.toNat, ⟨A2.length, by omega, Nat.le_refl _, by simpa using ho5, hf.mono (by simp)⟩, ?_⟩
        rintro i w22 ⟨k, rfl, hk, ho22, hf22⟩
        refine ⟨fun hlt w23 d23 => ?_, fun hge => ?_⟩
        · have hlt := of_decide_eq_true hlt
          obtain ⟨k, rfl⟩ : ∃ m, k = m + 1 := ⟨k - 1, by omega⟩
          have hkl : k < A2.length := by omega
          have hdr : A2.drop k = A2[k] :: A2.drop (k + 1) := List.drop_eq_getElem_cons hkl
          have htk : A2.take (k + 1) = A2.take k ++ [A2[k]] := (List.take_append_getElem hkl).symm
          generalize A2[k] = y at hdr htk
          have ho23 := ho22.drew d23
          have htl : (P ++ (A1 ++ A2.take k)).length = P.length + p + k := by rw [List.length_append, List.length_append, List.length_take]; omega
          have hxs : P ++ (A1 ++ (A2.take (k + 1) ++ (x :: (A2.drop (k + 1) ++ S)))) = (P ++ (A1 ++ A2.take k)) ++ y :: ([] ++ x :: (A2.drop (k + 1) ++ S)) := by
            rw [htk]; simp only [List.append_assoc, List.cons_append, List.nil_append]
          rw [hxs] at ho23
          have hgy3 : ((P ++ (A1 ++ A2.take k)) ++ y :: ([] ++ x :: (A2.drop (k + 1) ++ S)))[P.length + p + k]? = some y := by rw [← htl]; exact gets _ _ _
          have hgx3 : ((P ++ (A1 ++ A2.take k)) ++ y :: ([] ++ x :: (A2.drop (k + 1) ++ S)))[P.length + p + (k + 1)]? = some x := by
            have := gets ((P ++ (A1 ++ A2.take k)) ++ [y]) (A2.drop (k + 1) ++ S) x
            rw [List.length_append, htl, show P.length + p + k + [y].length = P.length + p + (k + 1) by simp only [List.length_cons, List.length_nil]; omega] at this
            rw [← this]
            simp only [List.append_assoc, List.cons_append, List.nil_append]
          obtain ⟨ad, had, hlx, hly, w34, hr34, w36, hr36, ho36, hf36⟩ := swap_at ho23 hgx3 hgy3
          have e6 : IntKind.i64.wrap (((P.length + p + (k + 1) : Nat) : Int) - 1) = ((P.length + p + k : Nat) : Int) := by rw [wrap_i64 (by omega) (by omega)]; omega
          rw [e6]
          refine ⟨fun w' => w' = w23, rfl, ⟨by omega, by omega⟩, ad, had, y.path, y.data, fun w' h => by rw [h, Int.toNat_natCast]; exact hly, ⟨by omega, by omega⟩, ad, had, x.path, x.data, fun w' h => by rw [h, Int.toNat_natCast]; exact hlx, ⟨by omega, by omega⟩, ad, had, w34, by rw [Int.toNat_natCast]; exact hr34, ⟨by omega, by omega⟩, ad, had, w36, by rw [Int.toNat_natCast]; exact hr36, ⟨k, rfl, by omega, ?_, (hf22.trans' (.drew _ d23)).trans hf36 fun q _ h => h⟩, by dsimp only; omega⟩
          rw [List.set_comm _ _ (by omega)] at ho36
          have hsw := swp (P ++ (A1 ++ A2.take k)) [] (A2.drop (k + 1) ++ S) y x
          rw [htl, List.length_nil, Nat.add_zero, show P.length + p + k + 1 = P.length + p + (k + 1) by omega] at hsw
          rw [hsw] at ho36
          rw [hdr]
          simpa only [List.append_assoc, List.cons_append, List.nil_append] using ho36
        · have hge := of_decide_eq_false hge
          have hk' : k = 0 := by omega
          subst hk'
          exact ⟨trivial, by simpa using ho22, hf22⟩
    · obtain ⟨mid, hmid⟩ : ∃ mid, (P.length + (P.length + A.length + B.length)) / 2 = mid := ⟨_, rfl⟩
      rw [half_hash _ _ (by omega), hmid]
      have hn1 : A.length ≠ 1 := fun h => by rw [h] at h1; simp at h1
      have hn2 : B.length ≠ 1 := fun h => by rw [h] at h2; simp at h2
      have e3 : IntKind.i64.wrap ((mid : Int) + ((P.length + A.length : Nat) : Int)) = ((mid + (P.length + A.length) : Nat) : Int) := by rw [wrap_i64 (by omega) (by omega)]; omega
      rw [e3]
      obtain ⟨N, hN⟩ : ∃ N, mid + (P.length + A.length) = N := ⟨_, rfl⟩
      rw [hN]
      have e4 : IntKind.i64.wrap ((N : Int) - 1) = ((N - 1 : Nat) : Int) := by rw [wrap_i64 (by omega) (by omega)]; omega
      rw [e4]
      obtain ⟨xs, hxs⟩ : ∃ xs, P ++ (A ++ (B ++ S)) = xs := ⟨_, rfl⟩
      have hxl : xs.length = l.len := ho.len.symm ▸ (by rw [hxs])
      refine ⟨fun i j w' => w' = w ∧ ∃ lo hi : Nat, i = lo ∧ j = hi ∧ P.length ≤ lo ∧ lo ≤ hi ∧ hi ≤ P.length + A.length ∧ hi ≤ mid ∧ (lo = P.length ∨ N = P.length + A.length + B.length + lo) ∧ (hi = P.length + A.length ∨ hi = mid) ∧ N ≤ P.length + A.length + B.length + lo,
        ⟨fun h => ⟨rfl, N - (P.length + A.length + B.length), mid, ?_, rfl, ?_⟩, fun h => ⟨rfl, P.length, P.length + A.length, rfl, rfl, ?_⟩⟩, ?_⟩
      · have h := of_decide_eq_true h
        rw [wrap_i64 (by omega) (by omega)]; omega
      · have h := of_decide_eq_true h
        refine ⟨by omega, by omega, by omega, by omega, .inr (by omega), .inr rfl, by omega⟩
      · have h := of_decide_eq_false h
        refine ⟨by omega, by omega, by omega, by omega, .inl rfl, .inl rfl, by omega⟩
      rintro i j w76 ⟨hw, lo, hi, rfl, rfl, q1, q2, q3, q4, q5, q6, q7⟩
      subst hw
      refine ⟨fun i j w' => ∃ s r : Nat, i = s ∧ j = r ∧ lo ≤ s ∧ s ≤ r ∧ r ≤ hi ∧ (s = lo ∨ ∃ x y, xs[s - 1]? = some x ∧ xs[N - s]? = some y ∧ ltP y x = false) ∧ (r = hi ∨ ∃ x y, xs[r]? = some x ∧ xs[N - 1 - r]? = some y ∧ ltP y x = true) ∧ Fr (fun _ => False) w76 w', fun i j _ => j.toNat - i.toNat,
        ⟨lo, hi, rfl, rfl, Nat.le_refl _, q2, Nat.le_refl _, .inl rfl, .inl rfl, .refl _ _⟩, ?_⟩
      rintro i j w81 ⟨s, r, rfl, rfl, r1, r2, r3, hs1, hr1, hf⟩
      refine ⟨fun hlt => ⟨by decide, fun w82 d82 => ?_⟩, fun hge => ?_⟩
      · have hlt := of_decide_eq_true hlt
        rw [half_hash _ _ (by omega)]
        obtain ⟨c, hc⟩ : ∃ c, (s + r) / 2 = c := ⟨_, rfl⟩
        rw [hc]
        have e5 : IntKind.i64.wrap (((N - 1 : Nat) : Int) - (c : Int)) = ((N - 1 - c : Nat) : Int) := by rw [wrap_i64 (by omega) (by omega)]; omega
        have e6 : IntKind.i64.wrap ((c : Int) + 1) = ((c + 1 : Nat) : Int) := by rw [wrap_i64 (by omega) (by omega)]; omega
        rw [e5, e6]
        have hc1 : c < xs.length := by omega
        have hc2 : N - 1 - c < xs.length := by omega
        have hgx : xs[c]? = some xs[c] := List.getElem?_eq_getElem hc1
        have hgy : xs[N - 1 - c]? = some xs[N - 1 - c] := List.getElem?_eq_getElem hc2
        generalize xs[c] = x at hgx
        generalize xs[N - 1 - c] = y at hgy
        have ho82 := ho.keep (hf.trans' (.drew _ d82)) (by simp)
        rw [hxs] at ho82
        obtain ⟨ad, had, hly⟩ := load_at ho82 hgy
        obtain ⟨ad2, had2, hlx⟩ := load_at ho82 hgx
        refine ⟨fun w' => Fr (fun _ => False) w82 w', .refl _ _, ⟨by omega, by omega⟩, ad, had, ⟨by omega, by omega⟩, ad2, had2, y.path, y.data, by rw [Int.toNat_natCast]; exact hly, x.path, x.data, by rw [Int.toNat_natCast]; exact hlx, (hash1_spec y x w82).mono ?_⟩
        rintro e w93 ⟨z, rfl, hz, hf93⟩
        have hf' : Fr (fun _ => False) w76 w93 := (hf.trans' (.drew _ d82)).trans' hf93
        refine ⟨z, rfl, hf93, fun h => ⟨⟨c + 1, r, rfl, rfl, by omega, by omega, r3, .inr ⟨x, y, hgx, ?_, by rw [← hz]; simpa using h⟩, hr1, hf'⟩, by dsimp only; omega⟩, fun h => ⟨⟨s, c, rfl, rfl, r1, by omega, by omega, hs1, .inr ⟨x, y, hgx, hgy, by rw [← hz]; simpa using h⟩, hf'⟩, by dsimp only; omega⟩⟩
        rw [show N - (c + 1) = N - 1 - c by omega]; exact hgy
      · have hge := of_decide_eq_false hge
        have hsr : s = r := by omega
        subst hsr
        obtain ⟨s', rfl⟩ : ∃ s', s = P.length + s' := ⟨s - P.length, by omega⟩
        obtain ⟨t, ht⟩ : ∃ t, mid = P.length + s' + t := ⟨mid - (P.length + s'), by omega⟩
        have hs'A : s' ≤ A.length := by omega
        have htB : t ≤ B.length := by omega
        have hcut : mrg ltP A B = mrg ltP (A.take s') (B.take t) ++ mrg ltP (A.drop s') (B.drop t) := by
          refine mrg_cut ordP sA sB s' t ?_ ?_
          · by_cases h0 : P.length + s' = lo
            · rcases q5 with h | h
              · exact .inl (by omega)
              · exact .inr (.inl (by omega))
            · obtain ⟨x, y, hx, hy, hl⟩ := hs1.resolve_left h0
              refine .inr (.inr ⟨x, y, ?_, ?_, hl⟩)
              · rw [← hx, ← hxs, show P.length + s' - 1 = P.length + (s' - 1) by omega]; exact (get_A (by omega)).symm
              · rw [← hy, ← hxs, show N - (P.length + s') = P.length + A.length + t by omega]; exact (get_B (by omega)).symm
          · by_cases h0 : P.length + s' = hi
            · rcases q6 with h | h
              · exact .inl (by omega)
              · exact .inr (.inl (by omega))
            · obtain ⟨x, y, hx, hy, hl⟩ := hr1.resolve_left h0
              refine .inr (.inr ⟨x, y, ?_, ?_, hl⟩)
              · rw [← hx, ← hxs]; exact (get_A (by omega)).symm
              · rw [← hy, ← hxs, show N - 1 - (P.length + s') = P.length + A.length + (t - 1) by omega]; exact (get_B (by omega)).symm
        rw [hcut]
        have hsA1 := sA.take s'
        have hsA2 := sA.drop s'
        have hsB1 := sB.take t
        have hsB2 := sB.drop t
        have hAs : A = A.take s' ++ A.drop s' := (List.take_append_drop s' A).symm
        have hBs : B = B.take t ++ B.drop t := (List.take_append_drop t B).symm
        have hA1l : (A.take s').length = s' := by rw [List.length_take]; omega
        have hA2l : (A.drop s').length = A.length - s' := List.length_drop
        have hB1l : (B.take t).length = t := by rw [List.length_take]; omega
        have hB2l : (B.drop t).length = B.length - t := List.length_drop
        have ho81 := ho.keep hf (by simp)
        generalize A.take s' = A1 at *
        generalize A.drop s' = A2 at *
        generalize B.take t = B1 at *
        generalize B.drop t = B2 at *
        have e7 : IntKind.i64.wrap ((N : Int) - ((P.length + s' : Nat) : Int)) = ((P.length + A.length + t : Nat) : Int) := by rw [wrap_i64 (by omega) (by omega)]; omega
        rw [e7]
        rw [hAs, hBs] at ho81
        have key : ∀ w', OwnK encF 2 w' base T_api_File l (P ++ (mrg ltP A1 B1 ++ (A2 ++ (B2 ++ S)))) → Fr (At l) w76 w' →
            (decide ((mid : Int) < ((P.length + A.length + t : Nat) : Int)) = true → ((decide (((P.length + A.length + t : Nat) : Int) < ((P.length + A.length + B.length : Nat) : Int)) = true →
              Calls Tryd.prog F_slices_symMergeCmpFunc #[.slice l.a l.len l.cap, .int .i64 (mid : Int), .int .i64 ((P.length + A.length + t : Nat) : Int), .int .i64 ((P.length + A.length + B.length : Nat) : Int), .func (.func F_modzip_Hash_1) #[] #[]] w' fun e w2 =>
                e = .returned (.tuple #[]) ∧ (Value.tuple #[] = .tuple #[] ∧ OwnK encF 2 w2 base T_api_File l (P ++ ((mrg ltP A1 B1 ++ mrg ltP A2 B2) ++ S)) ∧ Fr (At l) w76 w2)) ∧
              (decide (((P.length + A.length + t : Nat) : Int) < ((P.length + A.length + B.length : Nat) : Int)) = false → (Value.tuple #[] = .tuple #[] ∧ OwnK encF 2 w' base T_api_File l (P ++ ((mrg ltP A1 B1 ++ mrg ltP A2 B2) ++ S)) ∧ Fr (At l) w76 w')))) ∧
            (decide ((mid : Int) < ((P.length + A.length + t : Nat) : Int)) = false → (Value.tuple #[] = .tuple #[] ∧ OwnK encF 2 w' base T_api_File l (P ++ ((mrg ltP A1 B1 ++ mrg ltP A2 B2) ++ S)) ∧ Fr (At l) w76 w')) := by
          intro w' ho' hf'
          have hml : (mrg ltP A1 B1).length = s' + t := by rw [(mrg_perm ltP _ A1 B1 (Nat.le_refl _)).length_eq, List.length_append]; omega
          refine ⟨fun h => ⟨fun h' => ?_, fun h' => ⟨rfl, ?_, hf'⟩⟩, fun h => ⟨rfl, ?_, hf'⟩⟩
          · have h := of_decide_eq_true h
            have h' := of_decide_eq_true h'
            have hPl : (P ++ mrg ltP A1 B1).length = mid := by rw [List.length_append]; omega
            have := symMerge_hash n (P := P ++ mrg ltP A1 B1) (A := A2) (B := B2) (S := S) (by omega) (by simpa only [List.append_assoc] using ho') (by omega) (by omega) hsA2 hsB2 hs
            rw [hPl, show mid + A2.length = P.length + A.length + t by omega, show P.length + A.length + t + B2.length = P.length + A.length + B.length by omega] at this
            refine this.mono ?_
            rintro e w2 ⟨rfl, ho2, hf2⟩
            exact ⟨rfl, rfl, by simpa only [List.append_assoc] using ho2, hf'.trans hf2 fun q _ h => h⟩
          · have h' := of_decide_eq_false h'
            have : B2 = [] := List.eq_nil_of_length_eq_zero (by omega)
            subst this
            rw [mrg_nil']
            simpa only [List.append_assoc, List.nil_append] using ho'
          · have h := of_decide_eq_false h
            have : A2 = [] := List.eq_nil_of_length_eq_zero (by omega)
            subst this
            rw [mrg_nil]
            simpa only [List.append_assoc, List.nil_append] using ho'
        refine ⟨fun w' => OwnK encF 2 w' base T_api_File l (P ++ (A1 ++ (B1 ++ (A2 ++ (B2 ++ S))))) ∧ Fr (At l) w76 w', ⟨fun h => ⟨fun h' => ?_, fun h' => ⟨?_, hf.mono (by simp)⟩⟩, fun h => ⟨?_, hf.mono (by simp)⟩⟩, ?_⟩
        · have h := of_decide_eq_true h
          have h' := of_decide_eq_true h'
          have := rotate_hash (P := P ++ A1) (X := A2) (Y := B1) (S := B2 ++ S) (by simpa only [List.append_assoc] using ho81) (by omega) (by omega) hs
          rw [List.length_append, hA1l, show P.length + s' + A2.length = P.length + A.length by omega, hB1l] at this
          refine this.mono ?_
          rintro e w97 ⟨rfl, ho97, hf97⟩
          exact ⟨rfl, by simpa only [List.append_assoc] using ho97, (hf.mono (by simp)).trans hf97 fun q _ h => h⟩
        · have h' := of_decide_eq_false h'
          have : B1 = [] := List.eq_nil_of_length_eq_zero (by omega)
          subst this
          simpa only [List.append_assoc, List.nil_append] using ho81
        · have h := of_decide_eq_false h
          have : A2 = [] := List.eq_nil_of_length_eq_zero (by omega)
          subst this
          simpa only [List.append_assoc, List.nil_append] using ho81
        · rintro w98 ⟨ho98, hf98⟩
          refine ⟨fun h => ⟨fun h' => ?_, fun h' => ?_⟩, fun h => ?_⟩
          · have h := of_decide_eq_true h
            have h' := of_decide_eq_true h'
            have := symMerge_hash n (P := P) (A := A1) (B := B1) (S := A2 ++ (B2 ++ S)) (by omega) ho98 (by omega) (by omega) hsA1 hsB1 hs
            rw [hA1l, hB1l, ← ht] at this
            refine this.mono ?_
            rintro e w100 ⟨rfl, ho100, hf100⟩
            exact ⟨rfl, key w100 ho100 (hf98.trans hf100 fun q _ h => h)⟩
          · have h' := of_decide_eq_false h'
            have : B1 = [] := List.eq_nil_of_length_eq_zero (by omega)
            subst this
            refine key w98 ?_ hf98
            rw [mrg_nil']
            simpa only [List.append_assoc, List.nil_append] using ho98
          · have h := of_decide_eq_false h
            have : A1 = [] := List.eq_nil_of_length_eq_zero (by omega)
            subst this
            refine key w98 ?_ hf98
            rw [mrg_nil]
            simpa only [List.append_assoc, List.nil_append] using ho98
end
end Go.Proofs.YtfoeooddnmppnaaDoor

/- slices.SortStableFunc over files, held against one another by Hash's closure. Condition: no more than a hundred thousand files. -/
set_option linter.unusedVariables false
namespace Go.Proofs.YtfoeooddnmppnaaDoor
open Go Vc Go.Proofs StabM

section
variable {w : World} {base : Nat} {l : Sl}
/-- What a stable sort leaves. -/
theorem mrg_srt_hash {A B : List FileE} (hA : Srt ltP A) (hB : Srt ltP B) : Srt ltP (mrg ltP A B) := mrg_sorted ordP.tr ordP.asy _ A B (Nat.le_refl _) hA hB
theorem mrg_prm_hash (A B : List FileE) : (mrg ltP A B).Perm (A ++ B) := mrg_perm ltP _ A B (Nat.le_refl _)
theorem stable_hash {xs : List FileE} (ho : OwnK encF 2 w base T_api_File l xs) (hs : l.len ≤ 100000) :
    Calls Tryd.prog F_slices_SortStableFunc #[.slice l.a l.len l.cap, .func (.func F_modzip_Hash_1) #[] #[]] w fun e w' =>
      e = .returned (.tuple #[]) ∧ ∃ ys : List FileE, OwnK encF 2 w' base T_api_File l ys ∧ ys.Perm xs ∧ Srt ltP ys ∧ (xs.length ≤ 20 → ys = isort ltP xs) ∧ Fr (At l) w w' := by
  obtain ⟨RR, hRR⟩ : ∃ RR : World → Prop, (fun w' => ∃ ys : List FileE, OwnK encF 2 w' base T_api_File l ys ∧ ys.Perm xs ∧ Srt ltP ys ∧ (xs.length ≤ 20 → ys = isort ltP xs) ∧ Fr (At l) w w') = RR := ⟨_, rfl⟩
  refine Calls.mono (R := fun e w' => e = .returned (.tuple #[]) ∧ RR w') ?_ (fun e w' h => by rw [← hRR] at h; exact h)
  refine vc_slices_SortStableFunc_hash_ok (R := fun v w' => v = .tuple #[] ∧ RR w') ?_ (fun v w' h => ⟨by rw [h.1], h.2⟩)
  refine Calls.mono (R := fun e w' => e = .returned (.tuple #[]) ∧ RR w') ?_ (fun e w' h => ⟨h.1, rfl, h.2⟩)
  refine vc_slices_stableCmpFunc_hash_ok (R := fun v w' => v = .tuple #[] ∧ RR w') ?_ (fun v w' h => ⟨by rw [h.1], h.2⟩)
  have hlen := ho.len
  refine ⟨fun a b w' => ∃ P Q : List FileE, OwnK encF 2 w' base T_api_File l (P ++ Q) ∧ (P ++ Q).Perm xs ∧ Fl ltP 20 P ∧ a = (P.length : Int) ∧ b = ((P.length + 20 : Nat) : Int) ∧ (P = [] ∧ Q = xs ∨ 20 ≤ P.length ∧ (P.length = 20 → P = isort ltP (xs.take 20))) ∧ Fr (At l) w w', fun a b _ => 2000000 - b.toNat,
    ⟨[], xs, ho, .refl _, .nil, rfl, rfl, .inl ⟨rfl, rfl⟩, .refl _ _⟩, ?_⟩
  rintro a b w5 ⟨P, Q, ho5, hp5, hfl, rfl, rfl, hc, hf⟩
  have hpl := hp5.length_eq
  have hl5 := ho5.len
  rw [List.length_append] at hpl hl5
  refine ⟨fun hlt => ?_, fun hge => ?_⟩
  · have hlt := of_decide_eq_true hlt
    have hQ : Q = Q.take 20 ++ Q.drop 20 := (List.take_append_drop 20 Q).symm
    have hQl : (Q.take 20).length = 20 := by rw [List.length_take]; omega
    have hc2 : P = [] → Q.take 20 = xs.take 20 := fun h => by
      rcases hc with ⟨_, h2⟩ | ⟨h2, _⟩
      · rw [h2]
      · rw [h] at h2; simp at h2
    generalize Q.take 20 = A at *
    generalize Q.drop 20 = D at *
    rw [hQ] at ho5 hp5 hl5
    have := insertion_hash (P := P) (A := A) (S := D) ho5 (by omega)
    rw [hQl] at this
    refine this.mono ?_
    rintro e w7 ⟨rfl, ho7, hf7⟩
    obtain ⟨hso, hpe⟩ := isort_all ordP.tr ordP.asy _ A rfl
    have hil : (isort ltP A).length = 20 := by rw [hpe.length_eq, hQl]
    have e1 : IntKind.i64.wrap (((P.length + 20 : Nat) : Int) + 20) = ((P.length + 20 + 20 : Nat) : Int) := by rw [wrap_i64 (by omega) (by omega)]; omega
    have hPl : (P ++ isort ltP A).length = P.length + 20 := by rw [List.length_append, hil]
    rw [e1]
    refine ⟨rfl, ⟨P ++ isort ltP A, D, by rw [List.append_assoc]; exact ho7, ?_, .snoc _ _ hfl hil hso, by rw [hPl], by rw [hPl], .inr ⟨by omega, fun h => ?_⟩, hf.trans hf7 fun q _ h => h⟩, by dsimp only; omega⟩
    · refine List.Perm.trans ?_ hp5
      rw [List.append_assoc]
      exact (hpe.append_right D).append_left P
    · have hP0 : P = [] := List.eq_nil_of_length_eq_zero (by omega)
      rw [hP0, List.nil_append, hc2 hP0]
  · have hge := of_decide_eq_false hge
    have hn : (l.len : Int) = ((P.length + Q.length : Nat) : Int) := by omega
    have := insertion_hash (P := P) (A := Q) (S := []) (by simpa using ho5) (by omega)
    rw [← hn] at this
    refine this.mono ?_
    rintro e w9 ⟨rfl, ho9, hf9⟩
    obtain ⟨hso, hpe⟩ := isort_all ordP.tr ordP.asy _ Q rfl
    rw [List.append_nil] at ho9
    have hil : (isort ltP Q).length = Q.length := hpe.length_eq
    refine ⟨rfl, fun b w' => ∃ m : Nat, b = (m : Int) ∧ 20 ≤ m ∧ m ≤ 2 * l.len + 20 ∧ ∃ ys : List FileE, OwnK encF 2 w' base T_api_File l ys ∧ ys.Perm xs ∧ Bl ltP m ys ∧ (xs.length ≤ 20 → ys = isort ltP xs) ∧ Fr (At l) w w', fun b _ => 4000000 - b.toNat,
      ⟨20, rfl, Nat.le_refl _, by omega, P ++ isort ltP Q, ho9, (hpe.append_left P).trans hp5, hfl.bl (.last _ (by omega) hso), fun h => ?_, hf.trans hf9 fun q _ h => h⟩, ?_⟩
    · rcases hc with ⟨h1, h2⟩ | ⟨h1, h2⟩
      · rw [h1, h2, List.nil_append]
      · have hQ0 : Q = [] := List.eq_nil_of_length_eq_zero (by omega)
        rw [hQ0, h2 (by omega), List.take_of_length_le h]
        exact List.append_nil _
    · clear hc hfl hso hpe hil this
      rintro b w13 ⟨m, rfl, hm1, hm2, ys, ho13, hp13, hbl, hst, hf13⟩
      have hyl := hp13.length_eq
      refine ⟨fun hlt => ?_, fun hge => ⟨rfl, ?_⟩⟩
      · have hlt := of_decide_eq_true hlt
        have e2 : IntKind.i64.wrap (2 * (m : Int)) = ((2 * m : Nat) : Int) := by rw [wrap_i64 (by omega) (by omega)]; omega
        have e3 : IntKind.i64.wrap ((m : Int) * 2) = ((2 * m : Nat) : Int) := by rw [wrap_i64 (by omega) (by omega)]; omega
        rw [e2, e3]
        refine ⟨fun a b w' => ∃ P Q : List FileE, OwnK encF 2 w' base T_api_File l (P ++ Q) ∧ (P ++ Q).Perm xs ∧ Fl ltP (2 * m) P ∧ Bl ltP m Q ∧ a = (P.length : Int) ∧ b = ((P.length + 2 * m : Nat) : Int) ∧ Fr (At l) w w', fun a b _ => 2000000 - b.toNat,
          ⟨[], ys, ho13, hp13, .nil, hbl, rfl, by simp, hf13⟩, ?_⟩
        rintro a b w18 ⟨P, Q, ho18, hp18, hfl, hbl, rfl, rfl, hf18⟩
        have hpl := hp18.length_eq
        rw [List.length_append] at hpl
        have e4 : IntKind.i64.wrap ((P.length : Int) + (m : Int)) = ((P.length + m : Nat) : Int) := by rw [wrap_i64 (by omega) (by omega)]; omega
        rw [e4]
        refine ⟨fun hlt2 => ?_, fun hge2 => ⟨fun hlt3 => ?_, fun hge3 => ?_⟩⟩
        · have hlt2 := of_decide_eq_true hlt2
          obtain ⟨A, R, rfl, hAl, hsA, hbR⟩ := hbl.cut (by omega)
          rw [List.length_append] at hpl
          obtain ⟨B, D, rfl, hBl, hsB, hbD⟩ := hbR.cut (by omega)
          rw [List.length_append] at hpl
          have := symMerge_hash _ (P := P) (A := A) (B := B) (S := D) (Nat.le_refl _) ho18 (by omega) (by omega) hsA hsB (by omega)
          rw [hAl, show P.length + m + B.length = P.length + 2 * m by omega] at this
          refine this.mono ?_
          rintro e w20 ⟨rfl, ho20, hf20⟩
          have hml : (mrg ltP A B).length = 2 * m := by rw [(mrg_prm_hash A B).length_eq, List.length_append]; omega
          have e5 : IntKind.i64.wrap (((P.length + 2 * m : Nat) : Int) + ((2 * m : Nat) : Int)) = ((P.length + 2 * m + 2 * m : Nat) : Int) := by rw [wrap_i64 (by omega) (by omega)]; omega
          rw [e5]
          have hPl : (P ++ mrg ltP A B).length = P.length + 2 * m := by rw [List.length_append, hml]
          refine ⟨rfl, ⟨P ++ mrg ltP A B, D, by rw [List.append_assoc]; exact ho20, ?_, .snoc _ _ hfl hml (mrg_srt_hash hsA hsB), hbD, by rw [hPl], by rw [hPl], hf18.trans hf20 fun q _ h => h⟩, by dsimp only; omega⟩
          refine List.Perm.trans ?_ hp18
          rw [List.append_assoc, ← List.append_assoc A]
          exact ((mrg_prm_hash A B).append_right D).append_left P
        · have hge2 := of_decide_eq_false hge2
          have hlt3 := of_decide_eq_true hlt3
          obtain ⟨A, R, rfl, hAl, hsA, hbR⟩ := hbl.cut (by omega)
          rw [List.length_append] at hpl
          have hsR := hbR.short (by omega)
          have := symMerge_hash _ (P := P) (A := A) (B := R) (S := []) (Nat.le_refl _) (by simpa using ho18) (by omega) (by omega) hsA hsR (by omega)
          rw [hAl, show P.length + m + R.length = l.len by omega] at this
          refine this.mono ?_
          rintro e w22 ⟨rfl, ho22, hf22⟩
          rw [List.append_nil] at ho22
          have hml : (mrg ltP A R).length = m + R.length := by rw [(mrg_prm_hash A R).length_eq, List.length_append]; omega
          exact ⟨rfl, ⟨2 * m, rfl, by omega, by omega, P ++ mrg ltP A R, ho22, ((mrg_prm_hash A R).append_left P).trans hp18, hfl.bl (.last _ (by omega) (mrg_srt_hash hsA hsR)), fun h => by omega, hf18.trans hf22 fun q _ h => h⟩, by dsimp only; omega⟩
        · have hge2 := of_decide_eq_false hge2
          have hge3 := of_decide_eq_false hge3
          have hsQ := hbl.short (by omega)
          exact ⟨⟨2 * m, rfl, by omega, by omega, P ++ Q, ho18, hp18, hfl.bl (.last _ (by omega) hsQ), fun h => by omega, hf18⟩, by dsimp only; omega⟩
      · have hge := of_decide_eq_false hge
        rw [← hRR]
        exact ⟨ys, ho13, hp13, hbl.short (by omega), hst, hf13⟩
end
end Go.Proofs.YtfoeooddnmppnaaDoor

/- SHA-1 and SHA-256 on lists. -/
set_option linter.unusedVariables false
namespace ShaM
abbrev W := BitVec 32
def rotl (x : W) (n : Nat) : W := (x <<< n) ||| (x >>> (32 - n))
/-- Four bytes from number i on as a word, the highest first. -/
def be (p : List UInt8) (i : Nat) : W := BitVec.ofNat 32 ((p.getD i 0).toNat * 16777216 + (p.getD (i + 1) 0).toNat * 65536 + (p.getD (i + 2) 0).toNat * 256 + (p.getD (i + 3) 0).toNat)
def words (p : List UInt8) : List W := (List.range 16).map fun i => be p (4 * i)
def ext1 : Nat → List W → List W
  | 0, w => w
  | n + 1, w => ext1 n (w ++ [rotl (w.getD (w.length - 3) 0 ^^^ w.getD (w.length - 8) 0 ^^^ w.getD (w.length - 14) 0 ^^^ w.getD (w.length - 16) 0) 1])
def f1 (i : Nat) (b c d : W) : W := if i < 20 then (b &&& c) ||| (~~~b &&& d) else if i < 40 then b ^^^ c ^^^ d else if i < 60 then (b &&& c) ||| (b &&& d) ||| (c &&& d) else b ^^^ c ^^^ d
def k1 (i : Nat) : W := if i < 20 then 0x5a827999#32 else if i < 40 then 0x6ed9eba1#32 else if i < 60 then 0x8f1bbcdc#32 else 0xca62c1d6#32
/-- One round. -/
def rd1 (i : Nat) (x : W) : List W → List W
  | [a, b, c, d, e] => [rotl a 5 + f1 i b c d + e + k1 i + x, a, rotl b 30, c, d]
  | v => v
def rds1 : Nat → List W → List W → List W
  | _, [], v => v
  | i, x :: r, v => rds1 (i + 1) r (rd1 i x v)
def adds : List W → List W → List W
  | a :: h, b :: v => (a + b) :: adds h v
  | _, _ => []
def block1 (h : List W) (p : List UInt8) : List W := adds h (rds1 0 (ext1 64 (words p)) h)
def blocks (f : List W → List UInt8 → List W) : Nat → List W → List UInt8 → List W
  | 0, h, _ => h
  | n + 1, h, t => blocks f n (f h (t.take 64)) (t.drop 64)
def pad (t : List UInt8) : List UInt8 := t ++ 0x80 :: List.replicate ((119 - t.length % 64) % 64) 0 ++ (List.range 8).map fun i => UInt8.ofNat (t.length * 8 / 2 ^ (56 - 8 * i))
def outw (x : W) : List UInt8 := [UInt8.ofNat (x.toNat / 16777216), UInt8.ofNat (x.toNat / 65536), UInt8.ofNat (x.toNat / 256), UInt8.ofNat x.toNat]
def out (h : List W) : List UInt8 := h.flatMap outw
def start1 : List W := [0x67452301#32, 0xefcdab89#32, 0x98badcfe#32, 0x10325476#32, 0xc3d2e1f0#32]
def sha1 (t : List UInt8) : List UInt8 := out (blocks block1 ((pad t).length / 64) start1 (pad t))

def ext2 : Nat → List W → List W
  | 0, w => w
  | n + 1, w =>
    let x := w.getD (w.length - 15) 0
    let y := w.getD (w.length - 2) 0
    ext2 n (w ++ [w.getD (w.length - 16) 0 + (rotl x 25 ^^^ rotl x 14 ^^^ x >>> 3) + w.getD (w.length - 7) 0 + (rotl y 15 ^^^ rotl y 13 ^^^ y >>> 10)])
def rd2 (k w : W) : List W → List W
  | [a, b, c, d, e, f, g, h] =>
    let x := h + (rotl e 26 ^^^ rotl e 21 ^^^ rotl e 7) + ((e &&& f) ^^^ (~~~e &&& g)) + k + w
    let y := (rotl a 30 ^^^ rotl a 19 ^^^ rotl a 10) + ((a &&& b) ^^^ (a &&& c) ^^^ (b &&& c))
    [x + y, a, b, c, d + x, e, f, g]
  | v => v
def rds2 : List W → List W → List W → List W
  | k :: ks, x :: xs, v => rds2 ks xs (rd2 k x v)
  | _, _, v => v
def block2 (K : List W) (h : List W) (p : List UInt8) : List W := adds h (rds2 K (ext2 48 (words p)) h)
def start2 : List W := [0x6a09e667#32, 0xbb67ae85#32, 0x3c6ef372#32, 0xa54ff53a#32, 0x510e527f#32, 0x9b05688c#32, 0x1f83d9ab#32, 0x5be0cd19#32]
end ShaM
namespace ShaM
def nxt1 (w : List W) : W := rotl (w.getD (w.length - 3) 0 ^^^ w.getD (w.length - 8) 0 ^^^ w.getD (w.length - 14) 0 ^^^ w.getD (w.length - 16) 0) 1
theorem ext1_snoc : ∀ (n : Nat) (w : List W), ext1 (n + 1) w = ext1 n w ++ [nxt1 (ext1 n w)]
  | 0, w => rfl
  | n + 1, w => by
    show ext1 (n + 1) (w ++ [nxt1 w]) = _
    rw [ext1_snoc n]
    rfl
theorem ext1_length : ∀ (n : Nat) (w : List W), (ext1 n w).length = w.length + n
  | 0, w => rfl
  | n + 1, w => by
    show (ext1 n (w ++ [nxt1 w])).length = _
    rw [ext1_length n, List.length_append, List.length_singleton]; omega
def nxt2 (w : List W) : W :=
  let x := w.getD (w.length - 15) 0
  let y := w.getD (w.length - 2) 0
  w.getD (w.length - 16) 0 + (rotl x 25 ^^^ rotl x 14 ^^^ x >>> 3) + w.getD (w.length - 7) 0 + (rotl y 15 ^^^ rotl y 13 ^^^ y >>> 10)
theorem ext2_snoc : ∀ (n : Nat) (w : List W), ext2 (n + 1) w = ext2 n w ++ [nxt2 (ext2 n w)]
  | 0, w => rfl
  | n + 1, w => by
    show ext2 (n + 1) (w ++ [nxt2 w]) = _
    rw [ext2_snoc n]
    rfl
theorem ext2_length : ∀ (n : Nat) (w : List W), (ext2 n w).length = w.length + n
  | 0, w => rfl
  | n + 1, w => by
    show (ext2 n (w ++ [nxt2 w])).length = _
    rw [ext2_length n, List.length_append, List.length_singleton]; omega
theorem words_length (p : List UInt8) : (words p).length = 16 := by simp [words]
theorem words_take (p : List UInt8) {k : Nat} (h : k < 16) : (words p).take (k + 1) = (words p).take k ++ [be p (4 * k)] := by
  have hl : k < (words p).length := by rw [words_length]; exact h
  rw [List.take_succ_eq_append_getElem hl]
  simp [words]
/-- The first k words of a schedule. -/
def E1 (p : List UInt8) (k : Nat) : List W := if k ≤ 16 then (words p).take k else ext1 (k - 16) (words p)
def E2 (p : List UInt8) (k : Nat) : List W := if k ≤ 16 then (words p).take k else ext2 (k - 16) (words p)
theorem E1_length (p : List UInt8) (k : Nat) : (E1 p k).length = k := by
  unfold E1
  split
  · rw [List.length_take, words_length]; omega
  · rw [ext1_length, words_length]; omega
theorem E2_length (p : List UInt8) (k : Nat) : (E2 p k).length = k := by
  unfold E2
  split
  · rw [List.length_take, words_length]; omega
  · rw [ext2_length, words_length]; omega
theorem E1_low (p : List UInt8) {k : Nat} (h : k < 16) : E1 p (k + 1) = E1 p k ++ [be p (4 * k)] := by
  unfold E1; rw [if_pos (by omega), if_pos (by omega), words_take p h]
theorem E2_low (p : List UInt8) {k : Nat} (h : k < 16) : E2 p (k + 1) = E2 p k ++ [be p (4 * k)] := by
  unfold E2; rw [if_pos (by omega), if_pos (by omega), words_take p h]
theorem E1_ext (p : List UInt8) {k : Nat} (h : 16 ≤ k) : E1 p k = ext1 (k - 16) (words p) := by
  unfold E1
  split
  · have : k = 16 := by omega
    subst this
    rw [List.take_of_length_le (by rw [words_length]; omega)]; rfl
  · rfl
theorem E2_ext (p : List UInt8) {k : Nat} (h : 16 ≤ k) : E2 p k = ext2 (k - 16) (words p) := by
  unfold E2
  split
  · have : k = 16 := by omega
    subst this
    rw [List.take_of_length_le (by rw [words_length]; omega)]; rfl
  · rfl
theorem E1_high (p : List UInt8) {k : Nat} (h : 16 ≤ k) : E1 p (k + 1) = E1 p k ++ [nxt1 (E1 p k)] := by
  rw [E1_ext p h, E1_ext p (by omega), show k + 1 - 16 = (k - 16) + 1 by omega, ext1_snoc]
theorem E2_high (p : List UInt8) {k : Nat} (h : 16 ≤ k) : E2 p (k + 1) = E2 p k ++ [nxt2 (E2 p k)] := by
  rw [E2_ext p h, E2_ext p (by omega), show k + 1 - 16 = (k - 16) + 1 by omega, ext2_snoc]
theorem nxt1_at {w : List W} {k : Nat} (h : w.length = k) : nxt1 w = rotl (w.getD (k - 3) 0 ^^^ w.getD (k - 8) 0 ^^^ w.getD (k - 14) 0 ^^^ w.getD (k - 16) 0) 1 := by unfold nxt1; rw [h]
theorem nxt2_at {w : List W} {k : Nat} (h : w.length = k) : nxt2 w = w.getD (k - 16) 0 + (rotl (w.getD (k - 15) 0) 25 ^^^ rotl (w.getD (k - 15) 0) 14 ^^^ w.getD (k - 15) 0 >>> 3) + w.getD (k - 7) 0 + (rotl (w.getD (k - 2) 0) 15 ^^^ rotl (w.getD (k - 2) 0) 13 ^^^ w.getD (k - 2) 0 >>> 10) := by
  unfold nxt2; rw [h]
theorem rds1_step {i : Nat} {l v : List W} (h : i < l.length) : rds1 i (l.drop i) v = rds1 (i + 1) (l.drop (i + 1)) (rd1 i (l.getD i 0) v) := by
  rw [List.drop_eq_getElem_cons h]
  simp [rds1, h]
end ShaM

/- Numbers of 32 and 64 bits as bit vectors. No condition. -/
set_option linter.unusedVariables false
namespace Vc
open Go
section
theorem u_of (x : BitVec 32) : BitVec.ofInt 32 (x.toNat : Int) = x := by
  rw [BitVec.ofInt_natCast]; simp
theorem u_wrap (x : BitVec 32) : IntKind.u32.wrap (x.toNat : Int) = (x.toNat : Int) := by
  have := x.isLt
  exact wrap_u32 (by omega) (by omega)
theorem u_add (x y : BitVec 32) : IntKind.u32.wrap ((x.toNat : Int) + (y.toNat : Int)) = ((x + y).toNat : Int) := by
  rw [wrap_u32_mod, BitVec.toNat_add]; omega
theorem u_shl (x : BitVec 32) (k : Nat) (hk : k ≤ 32) : IntKind.u32.wrap ((x.toNat : Int) * 2 ^ (min k 32)) = ((x <<< k).toNat : Int) := by
  have hp : (2 : Int) ^ k = ((2 ^ k : Nat) : Int) := by push_cast; rfl
  rw [Nat.min_eq_left hk, wrap_u32_mod, BitVec.toNat_shiftLeft, Nat.shiftLeft_eq, hp, ← Int.natCast_mul]
  generalize x.toNat * 2 ^ k = z
  show (z : Int) % 4294967296 = ((z % 4294967296 : Nat) : Int)
  omega
theorem u_shr (x : BitVec 32) (k : Nat) (hk : k ≤ 32) : Int.fdiv (x.toNat : Int) (2 ^ (min k 32)) = ((x >>> k).toNat : Int) := by
  have hp : (2 : Int) ^ k = ((2 ^ k : Nat) : Int) := by push_cast; rfl
  rw [Nat.min_eq_left hk, hp, Int.fdiv_eq_ediv_of_nonneg _ (Int.natCast_nonneg _), ← Int.natCast_ediv, BitVec.toNat_ushiftRight, Nat.shiftRight_eq_div_pow]
end
end Vc

/- Plain facts on bits of a text, the lowest of each byte first. -/
set_option linter.unusedVariables false
namespace BitsM
open Vc
/-- The first n bytes as a number, the first the lowest. -/
def V (s : ByteArray) : Nat → Nat
  | 0 => 0
  | n + 1 => V s n + byt s n * 2 ^ (8 * n)
theorem V_lt (s : ByteArray) : ∀ n, V s n < 2 ^ (8 * n)
  | 0 => by simp [V]
  | n + 1 => by
    have h := V_lt s n
    have hb := byt_lt s n
    have e : 2 ^ (8 * (n + 1)) = 256 * 2 ^ (8 * n) := by rw [Nat.mul_succ, Nat.pow_add]; omega
    have : byt s n * 2 ^ (8 * n) ≤ 255 * 2 ^ (8 * n) := Nat.mul_le_mul_right _ (by omega)
    simp only [V]; omega
/-- What is held: the bits from pos on of the first n bytes. -/
def held (s : ByteArray) (n pos : Nat) : Nat := V s n / 2 ^ pos
theorem held_lt (s : ByteArray) (n pos : Nat) (h : pos ≤ 8 * n) : held s n pos < 2 ^ (8 * n - pos) := by
  unfold held
  rw [Nat.div_lt_iff_lt_mul (Nat.two_pow_pos _), ← Nat.pow_add, Nat.sub_add_cancel h]
  exact V_lt s n
theorem held_succ (s : ByteArray) (n pos : Nat) (h : pos ≤ 8 * n) : held s (n + 1) pos = held s n pos + byt s n * 2 ^ (8 * n - pos) := by
  unfold held
  have e : 2 ^ (8 * n) = 2 ^ (8 * n - pos) * 2 ^ pos := by rw [← Nat.pow_add, Nat.sub_add_cancel h]
  simp only [V]
  rw [e, ← Nat.mul_assoc, Nat.add_mul_div_right _ _ (Nat.two_pow_pos _)]
theorem held_or (s : ByteArray) (n pos : Nat) (h : pos ≤ 8 * n) : held s n pos ||| byt s n * 2 ^ (8 * n - pos) = held s (n + 1) pos := by
  rw [held_succ s n pos h, Nat.or_comm, Nat.mul_comm, Nat.add_comm, ← Nat.two_pow_add_eq_or_of_lt (held_lt s n pos h)]
theorem held_skip (s : ByteArray) (n pos k : Nat) : held s n pos / 2 ^ k = held s n (pos + k) := by
  unfold held; rw [Nat.div_div_eq_div_mul, ← Nat.pow_add]
/-- The next k bits of the whole text, from pos on. -/
def nbits (s : ByteArray) (pos k : Nat) : Nat := V s s.size / 2 ^ pos % 2 ^ k
theorem V_split (s : ByteArray) (n : Nat) : ∀ d, ∃ q, V s (n + d) = V s n + q * 2 ^ (8 * n)
  | 0 => ⟨0, by simp⟩
  | d + 1 => by
    obtain ⟨q, hq⟩ := V_split s n d
    refine ⟨q + byt s (n + d) * 2 ^ (8 * d), ?_⟩
    show V s (n + d) + byt s (n + d) * 2 ^ (8 * (n + d)) = _
    rw [hq, Nat.add_mul, Nat.mul_assoc, ← Nat.pow_add]
    have : 8 * d + 8 * n = 8 * (n + d) := by omega
    rw [this]; omega
theorem held_bits (s : ByteArray) (n pos k : Nat) (hn : n ≤ s.size) (h : pos + k ≤ 8 * n ∨ n = s.size) : held s n pos % 2 ^ k = nbits s pos k := by
  rcases h with h | rfl
  · unfold held nbits
    obtain ⟨q, hq⟩ := V_split s n (s.size - n)
    rw [Nat.add_sub_cancel' hn] at hq
    rw [hq]
    have e : 2 ^ (8 * n) = 2 ^ (8 * n - pos - k) * 2 ^ k * 2 ^ pos := by
      rw [← Nat.pow_add, ← Nat.pow_add]; congr 1; omega
    rw [e, ← Nat.mul_assoc, ← Nat.mul_assoc, Nat.add_mul_div_right _ _ (Nat.two_pow_pos _)]
    rw [Nat.add_mul_mod_self_right]
  · rfl
theorem and_mask (x k : Nat) : x &&& (2 ^ k - 1) = x % 2 ^ k := Nat.and_two_pow_sub_one_eq_mod x k
end BitsM

/- Formulas of 10 Go functions of this seat (written by a program of the author's, vcgen.py), and that each is enough for the call. No condition. -/
set_option linter.unusedVariables false
namespace Go.Proofs.YtfoeooddnmppnaaDoor
open Go Vc Go.Proofs
set_option maxRecDepth 100000
/-- sha.word -/
def vc_sha_word (x0 : ByteArray) (w : World) (R : Value → World → Prop) : Prop :=
  (((0 : Int) ≤ (0 : Int) ∧
    0 < (↑(ByteArray.size x0) : Int)) ∧
   ((0 : Int) ≤ (24 : Int) ∧
    (((0 : Int) ≤ (1 : Int) ∧
      1 < (↑(ByteArray.size x0) : Int)) ∧
     ((0 : Int) ≤ (16 : Int) ∧
      (((0 : Int) ≤ (2 : Int) ∧
        2 < (↑(ByteArray.size x0) : Int)) ∧
       ((0 : Int) ≤ (8 : Int) ∧
        (((0 : Int) ≤ (3 : Int) ∧
          3 < (↑(ByteArray.size x0) : Int)) ∧
         ∀ w1 : World,
         (Drew w w1 →
           R (Value.int IntKind.u32 (IntKind.wrap IntKind.u32 (↑(BitVec.toNat (BitVec.ofInt 32 (IntKind.wrap IntKind.u32 (↑(BitVec.toNat (BitVec.ofInt 32 (IntKind.wrap IntKind.u32 (↑(BitVec.toNat (BitVec.ofInt 32 (IntKind.wrap IntKind.u32 (IntKind.wrap IntKind.u32 (byteAt x0 0) * 2 ^ min (Int.toNat 24) 32)) ||| BitVec.ofInt 32 (IntKind.wrap IntKind.u32 (IntKind.wrap IntKind.u32 (byteAt x0 1) * 2 ^ min (Int.toNat 16) 32)))) : Int)) ||| BitVec.ofInt 32 (IntKind.wrap IntKind.u32 (IntKind.wrap IntKind.u32 (byteAt x0 2) * 2 ^ min (Int.toNat 8) 32)))) : Int)) ||| BitVec.ofInt 32 (IntKind.wrap IntKind.u32 (byteAt x0 3)))) : Int))) w1))))))))
theorem vc_sha_word_ok {x0 : ByteArray} {w : World} {R : Value → World → Prop} {R' : Ending → World → Prop} (h : vc_sha_word x0 w R) (hR : ∀ v w', R v w' → R' (.returned v) w') :
    Calls Tryd.prog 130 #[.string x0] w R' :=
  calls_of_body (vs := [(.string x0, false)]) (ty := ty) (ann := ⟨[], [], [(1, .quiet)], []⟩) (c := Tryd.f130.body.getD .skip) (by kernel_rfl) Tryd.func130 (by kernel_rfl) (by kernel_rfl) (Eq.mp (by kernel_rfl) h) hR
/-- math/bits.RotateLeft32 -/
def vc_bits_RotateLeft32 (x0 : Int) (x1 : Int) (w : World) (R : Value → World → Prop) : Prop :=
  (0 ≤ IntKind.wrap IntKind.u64 (↑(BitVec.toNat (BitVec.ofInt 64 (IntKind.wrap IntKind.u64 x1) &&& BitVec.ofInt 64 31)) : Int) ∧
   (0 ≤ IntKind.wrap IntKind.u64 (32 - IntKind.wrap IntKind.u64 (↑(BitVec.toNat (BitVec.ofInt 64 (IntKind.wrap IntKind.u64 x1) &&& BitVec.ofInt 64 31)) : Int)) ∧
    R (Value.int IntKind.u32 (IntKind.wrap IntKind.u32 (↑(BitVec.toNat (BitVec.ofInt 32 (IntKind.wrap IntKind.u32 (x0 * 2 ^ min (Int.toNat (IntKind.wrap IntKind.u64 (↑(BitVec.toNat (BitVec.ofInt 64 (IntKind.wrap IntKind.u64 x1) &&& BitVec.ofInt 64 31)) : Int))) 32)) ||| BitVec.ofInt 32 (Int.fdiv x0 (2 ^ min (Int.toNat (IntKind.wrap IntKind.u64 (32 - IntKind.wrap IntKind.u64 (↑(BitVec.toNat (BitVec.ofInt 64 (IntKind.wrap IntKind.u64 x1) &&& BitVec.ofInt 64 31)) : Int)))) 32)))) : Int))) w))
theorem vc_bits_RotateLeft32_ok {x0 : Int} {x1 : Int} {w : World} {R : Value → World → Prop} {R' : Ending → World → Prop} (h : vc_bits_RotateLeft32 x0 x1 w R) (hR : ∀ v w', R v w' → R' (.returned v) w') :
    Calls Tryd.prog 131 #[.int .u32 x0, .int .i64 x1] w R' :=
  calls_of_body (vs := [(.int .u32 x0, false), (.int .i64 x1, false)]) (ty := ty) (ann := ⟨[], [], [], []⟩) (c := Tryd.f131.body.getD .skip) (by kernel_rfl) Tryd.func131 (by kernel_rfl) (by kernel_rfl) (Eq.mp (by kernel_rfl) h) hR
/-- sha.start256 -/
def vc_sha_start256 (w : World) (R : Value → World → Prop) : Prop :=
  ∀ w1 : World,
  (w1 = World.alloc w (Obj.cells (Array.mk [Value.int IntKind.u32 1779033703, Value.int IntKind.u32 3144134277, Value.int IntKind.u32 1013904242, Value.int IntKind.u32 2773480762, Value.int IntKind.u32 1359893119, Value.int IntKind.u32 2600822924, Value.int IntKind.u32 528734635, Value.int IntKind.u32 1541459225]) 62) →
    R (Value.slice (some (Addr.mk (Array.size (World.heap w)) 0 none)) 8 8) w1)
theorem vc_sha_start256_ok {w : World} {R : Value → World → Prop} {R' : Ending → World → Prop} (h : vc_sha_start256 w R) (hR : ∀ v w', R v w' → R' (.returned v) w') :
    Calls Tryd.prog 99 #[] w R' :=
  calls_of_body (vs := []) (ty := ty) (ann := ⟨[], [], [], []⟩) (c := Tryd.f99.body.getD .skip) (by kernel_rfl) Tryd.func99 (by kernel_rfl) (by kernel_rfl) (Eq.mp (by kernel_rfl) h) hR
/-- sha.table256 -/
def vc_sha_table256 (w : World) (R : Value → World → Prop) : Prop :=
  ∀ w1 : World,
  (w1 = World.alloc w (Obj.cells (Array.mk [Value.int IntKind.u32 0, Value.int IntKind.u32 0, Value.int IntKind.u32 0, Value.int IntKind.u32 0, Value.int IntKind.u32 0, Value.int IntKind.u32 0, Value.int IntKind.u32 0, Value.int IntKind.u32 0, Value.int IntKind.u32 0, Value.int IntKind.u32 0, Value.int IntKind.u32 0, Value.int IntKind.u32 0, Value.int IntKind.u32 0, Value.int IntKind.u32 0, Value.int IntKind.u32 0, Value.int IntKind.u32 0, Value.int IntKind.u32 0, Value.int IntKind.u32 0, Value.int IntKind.u32 0, Value.int IntKind.u32 0, Value.int IntKind.u32 0, Value.int IntKind.u32 0, Value.int IntKind.u32 0, Value.int IntKind.u32 0, Value.int IntKind.u32 0, Value.int IntKind.u32 0, Value.int IntKind.u32 0, Value.int IntKind.u32 0, Value.int IntKind.u32 0, Value.int IntKind.u32 0, Value.int IntKind.u32 0, Value.int IntKind.u32 0, Value.int IntKind.u32 0, Value.int IntKind.u32 0, Value.int IntKind.u32 0, Value.int IntKind.u32 0, Value.int IntKind.u32 0, Value.int IntKind.u32 0, Value.int IntKind.u32 0, Value.int IntKind.u32 0, Value.int IntKind.u32 0, Value.int IntKind.u32 0, Value.int IntKind.u32 0, Value.int IntKind.u32 0, Value.int IntKind.u32 0, Value.int IntKind.u32 0, Value.int IntKind.u32 0, Value.int IntKind.u32 0, Value.int IntKind.u32 0, Value.int IntKind.u32 0, Value.int IntKind.u32 0, Value.int IntKind.u32 0, Value.int IntKind.u32 0, Value.int IntKind.u32 0, Value.int IntKind.u32 0, Value.int IntKind.u32 0, Value.int IntKind.u32 0, Value.int IntKind.u32 0, Value.int IntKind.u32 0, Value.int IntKind.u32 0, Value.int IntKind.u32 0, Value.int IntKind.u32 0, Value.int IntKind.u32 0, Value.int IntKind.u32 0]) 168) →
    ∃ w2 : World, (Sem.run Tryd.prog (storeVar 168 (Addr.mk (Array.size (World.heap w)) 0 none) (Value.agg (Array.mk [Value.int IntKind.u32 1116352408, Value.int IntKind.u32 1899447441, Value.int IntKind.u32 3049323471, Value.int IntKind.u32 3921009573, Value.int IntKind.u32 961987163, Value.int IntKind.u32 1508970993, Value.int IntKind.u32 2453635748, Value.int IntKind.u32 2870763221, Value.int IntKind.u32 3624381080, Value.int IntKind.u32 310598401, Value.int IntKind.u32 607225278, Value.int IntKind.u32 1426881987, Value.int IntKind.u32 1925078388, Value.int IntKind.u32 2162078206, Value.int IntKind.u32 2614888103, Value.int IntKind.u32 3248222580, Value.int IntKind.u32 3835390401, Value.int IntKind.u32 4022224774, Value.int IntKind.u32 264347078, Value.int IntKind.u32 604807628, Value.int IntKind.u32 770255983, Value.int IntKind.u32 1249150122, Value.int IntKind.u32 1555081692, Value.int IntKind.u32 1996064986, Value.int IntKind.u32 2554220882, Value.int IntKind.u32 2821834349, Value.int IntKind.u32 2952996808, Value.int IntKind.u32 3210313671, Value.int IntKind.u32 3336571891, Value.int IntKind.u32 3584528711, Value.int IntKind.u32 113926993, Value.int IntKind.u32 338241895, Value.int IntKind.u32 666307205, Value.int IntKind.u32 773529912, Value.int IntKind.u32 1294757372, Value.int IntKind.u32 1396182291, Value.int IntKind.u32 1695183700, Value.int IntKind.u32 1986661051, Value.int IntKind.u32 2177026350, Value.int IntKind.u32 2456956037, Value.int IntKind.u32 2730485921, Value.int IntKind.u32 2820302411, Value.int IntKind.u32 3259730800, Value.int IntKind.u32 3345764771, Value.int IntKind.u32 3516065817, Value.int IntKind.u32 3600352804, Value.int IntKind.u32 4094571909, Value.int IntKind.u32 275423344, Value.int IntKind.u32 430227734, Value.int IntKind.u32 506948616, Value.int IntKind.u32 659060556, Value.int IntKind.u32 883997877, Value.int IntKind.u32 958139571, Value.int IntKind.u32 1322822218, Value.int IntKind.u32 1537002063, Value.int IntKind.u32 1747873779, Value.int IntKind.u32 1955562222, Value.int IntKind.u32 2024104815, Value.int IntKind.u32 2227730452, Value.int IntKind.u32 2361852424, Value.int IntKind.u32 2428436474, Value.int IntKind.u32 2756734187, Value.int IntKind.u32 3204031479, Value.int IntKind.u32 3329325298]))) w1 = Result.ok PUnit.unit w2 ∧
     ∃ v3 : Value, (Sem.run Tryd.prog (loadVar 168 (Addr.mk (Array.size (World.heap w)) 0 none)) w2 = Result.ok v3 w2 ∧
      R v3 w2)))
theorem vc_sha_table256_ok {w : World} {R : Value → World → Prop} {R' : Ending → World → Prop} (h : vc_sha_table256 w R) (hR : ∀ v w', R v w' → R' (.returned v) w') :
    Calls Tryd.prog 129 #[] w R' :=
  calls_of_body (vs := []) (ty := ty) (ann := ⟨[], [], [], []⟩) (c := Tryd.f129.body.getD .skip) (by kernel_rfl) Tryd.func129 (by kernel_rfl) (by kernel_rfl) (Eq.mp (by kernel_rfl) h) hR
/-- sha.block256 -/
def vc_sha_block256 (x0a : Option Addr) (x0n : Nat) (x0c : Nat) (x1 : ByteArray) (w : World) (R : Value → World → Prop) : Prop :=
  ∀ w1 : World,
  (w1 = World.alloc w (Obj.cells (Array.mk [Value.int IntKind.u32 0, Value.int IntKind.u32 0, Value.int IntKind.u32 0, Value.int IntKind.u32 0, Value.int IntKind.u32 0, Value.int IntKind.u32 0, Value.int IntKind.u32 0, Value.int IntKind.u32 0, Value.int IntKind.u32 0, Value.int IntKind.u32 0, Value.int IntKind.u32 0, Value.int IntKind.u32 0, Value.int IntKind.u32 0, Value.int IntKind.u32 0, Value.int IntKind.u32 0, Value.int IntKind.u32 0, Value.int IntKind.u32 0, Value.int IntKind.u32 0, Value.int IntKind.u32 0, Value.int IntKind.u32 0, Value.int IntKind.u32 0, Value.int IntKind.u32 0, Value.int IntKind.u32 0, Value.int IntKind.u32 0, Value.int IntKind.u32 0, Value.int IntKind.u32 0, Value.int IntKind.u32 0, Value.int IntKind.u32 0, Value.int IntKind.u32 0, Value.int IntKind.u32 0, Value.int IntKind.u32 0, Value.int IntKind.u32 0, Value.int IntKind.u32 0, Value.int IntKind.u32 0, Value.int IntKind.u32 0, Value.int IntKind.u32 0, Value.int IntKind.u32 0, Value.int IntKind.u32 0, Value.int IntKind.u32 0, Value.int IntKind.u32 0, Value.int IntKind.u32 0, Value.int IntKind.u32 0, Value.int IntKind.u32 0, Value.int IntKind.u32 0, Value.int IntKind.u32 0, Value.int IntKind.u32 0, Value.int IntKind.u32 0, Value.int IntKind.u32 0, Value.int IntKind.u32 0, Value.int IntKind.u32 0, Value.int IntKind.u32 0, Value.int IntKind.u32 0, Value.int IntKind.u32 0, Value.int IntKind.u32 0, Value.int IntKind.u32 0, Value.int IntKind.u32 0, Value.int IntKind.u32 0, Value.int IntKind.u32 0, Value.int IntKind.u32 0, Value.int IntKind.u32 0, Value.int IntKind.u32 0, Value.int IntKind.u32 0, Value.int IntKind.u32 0, Value.int IntKind.u32 0]) 168) →
    Calls Tryd.prog (129 : Nat) (Array.mk []) (w1) (fun e2 w3 =>
      ∃ v4 : Value, (e2 = Ending.returned v4 ∧
       ∀ w5 : World,
       (w5 = World.alloc w3 (Obj.cells (Array.mk [Value.int IntKind.u32 0, Value.int IntKind.u32 0, Value.int IntKind.u32 0, Value.int IntKind.u32 0, Value.int IntKind.u32 0, Value.int IntKind.u32 0, Value.int IntKind.u32 0, Value.int IntKind.u32 0, Value.int IntKind.u32 0, Value.int IntKind.u32 0, Value.int IntKind.u32 0, Value.int IntKind.u32 0, Value.int IntKind.u32 0, Value.int IntKind.u32 0, Value.int IntKind.u32 0, Value.int IntKind.u32 0, Value.int IntKind.u32 0, Value.int IntKind.u32 0, Value.int IntKind.u32 0, Value.int IntKind.u32 0, Value.int IntKind.u32 0, Value.int IntKind.u32 0, Value.int IntKind.u32 0, Value.int IntKind.u32 0, Value.int IntKind.u32 0, Value.int IntKind.u32 0, Value.int IntKind.u32 0, Value.int IntKind.u32 0, Value.int IntKind.u32 0, Value.int IntKind.u32 0, Value.int IntKind.u32 0, Value.int IntKind.u32 0, Value.int IntKind.u32 0, Value.int IntKind.u32 0, Value.int IntKind.u32 0, Value.int IntKind.u32 0, Value.int IntKind.u32 0, Value.int IntKind.u32 0, Value.int IntKind.u32 0, Value.int IntKind.u32 0, Value.int IntKind.u32 0, Value.int IntKind.u32 0, Value.int IntKind.u32 0, Value.int IntKind.u32 0, Value.int IntKind.u32 0, Value.int IntKind.u32 0, Value.int IntKind.u32 0, Value.int IntKind.u32 0, Value.int IntKind.u32 0, Value.int IntKind.u32 0, Value.int IntKind.u32 0, Value.int IntKind.u32 0, Value.int IntKind.u32 0, Value.int IntKind.u32 0, Value.int IntKind.u32 0, Value.int IntKind.u32 0, Value.int IntKind.u32 0, Value.int IntKind.u32 0, Value.int IntKind.u32 0, Value.int IntKind.u32 0, Value.int IntKind.u32 0, Value.int IntKind.u32 0, Value.int IntKind.u32 0, Value.int IntKind.u32 0]) 168) →
         ∃ w6 : World, (Sem.run Tryd.prog (storeVar 168 (Addr.mk (Array.size (World.heap w3)) 0 none) v4) w5 = Result.ok PUnit.unit w6 ∧
          ∃ I7 : Int → World → Prop, ∃ I8 : Int → World → Nat, (I7 0 w6 ∧
           ∀ n9 : Int,
           ∀ w10 : World,
           (I7 n9 w10 →
             (((decide (n9 < 64) = true →
                (((decide (n9 < 16) = true →
                   ((0 ≤ IntKind.wrap IntKind.i64 (4 * n9) ∧
                     IntKind.wrap IntKind.i64 (4 * n9) ≤ (↑(ByteArray.size x1) : Int)) ∧
                    Calls Tryd.prog (130 : Nat) (Array.mk [Value.string (ByteArray.extract x1 (Int.toNat (IntKind.wrap IntKind.i64 (4 * n9))) (ByteArray.size x1))]) (w10) (fun e11 w12 =>
                      ∃ n13 : Int, (e11 = Ending.returned (Value.int IntKind.u32 n13) ∧
                       ((0 ≤ n9 ∧
                         n9 < (↑64 : Int)) ∧
                        (Wr w12 (Addr.add (Addr.mk (Array.size (World.heap w)) 0 none) (Int.toNat n9 * 1)) ∧
                         ∀ w14 : World,
                         (w14 = World.setCell w12 (Addr.add (Addr.mk (Array.size (World.heap w)) 0 none) (Int.toNat n9 * 1)) (Value.int IntKind.u32 n13) →
                           (I7 (IntKind.wrap IntKind.i64 (n9 + 1)) w14 ∧
                            I8 (IntKind.wrap IntKind.i64 (n9 + 1)) w14 < I8 n9 w10))))))))) ∧
                 (decide (n9 < 16) = false →
                   ((0 ≤ IntKind.wrap IntKind.i64 (n9 - 15) ∧
                     IntKind.wrap IntKind.i64 (n9 - 15) < (↑64 : Int)) ∧
                    ∃ n15 : Int, (World.cell? w10 (Addr.add (Addr.mk (Array.size (World.heap w)) 0 none) (Int.toNat (IntKind.wrap IntKind.i64 (n9 - 15)) * 1)) = some (Value.int IntKind.u32 n15) ∧
                     ((0 ≤ IntKind.wrap IntKind.i64 (n9 - 2) ∧
                       IntKind.wrap IntKind.i64 (n9 - 2) < (↑64 : Int)) ∧
                      ∃ n16 : Int, (World.cell? w10 (Addr.add (Addr.mk (Array.size (World.heap w)) 0 none) (Int.toNat (IntKind.wrap IntKind.i64 (n9 - 2)) * 1)) = some (Value.int IntKind.u32 n16) ∧
                       ∀ w17 : World,
                       (Drew w10 w17 →
                         ∀ w18 : World,
                         (Drew w17 w18 →
                           ∃ I19 : World → Prop, (I19 w18 ∧
                            ((0 ≤ IntKind.wrap IntKind.i64 (n9 - 16) ∧
                              IntKind.wrap IntKind.i64 (n9 - 16) < (↑64 : Int)) ∧
                             ∃ n20 : Int, ((∀ w21 : World,
                              (I19 w21 →
                                World.cell? w21 (Addr.add (Addr.mk (Array.size (World.heap w)) 0 none) (Int.toNat (IntKind.wrap IntKind.i64 (n9 - 16)) * 1)) = some (Value.int IntKind.u32 n20))) ∧
                              ((0 : Int) ≤ (3 : Int) ∧
                               ((0 ≤ IntKind.wrap IntKind.i64 (n9 - 7) ∧
                                 IntKind.wrap IntKind.i64 (n9 - 7) < (↑64 : Int)) ∧
                                ∃ n22 : Int, ((∀ w23 : World,
                                 (I19 w23 →
                                   World.cell? w23 (Addr.add (Addr.mk (Array.size (World.heap w)) 0 none) (Int.toNat (IntKind.wrap IntKind.i64 (n9 - 7)) * 1)) = some (Value.int IntKind.u32 n22))) ∧
                                 ((0 : Int) ≤ (10 : Int) ∧
                                  Calls Tryd.prog (131 : Nat) (Array.mk [Value.int IntKind.u32 n15, Value.int IntKind.i64 (-7)]) (w18) (fun e24 w25 =>
                                    ∃ n26 : Int, (e24 = Ending.returned (Value.int IntKind.u32 n26) ∧
                                     (I19 w25 ∧
                                      Calls Tryd.prog (131 : Nat) (Array.mk [Value.int IntKind.u32 n15, Value.int IntKind.i64 (-18)]) (w25) (fun e27 w28 =>
                                        ∃ n29 : Int, (e27 = Ending.returned (Value.int IntKind.u32 n29) ∧
                                         (I19 w28 ∧
                                          Calls Tryd.prog (131 : Nat) (Array.mk [Value.int IntKind.u32 n16, Value.int IntKind.i64 (-17)]) (w28) (fun e30 w31 =>
                                            ∃ n32 : Int, (e30 = Ending.returned (Value.int IntKind.u32 n32) ∧
                                             (I19 w31 ∧
                                              Calls Tryd.prog (131 : Nat) (Array.mk [Value.int IntKind.u32 n16, Value.int IntKind.i64 (-19)]) (w31) (fun e33 w34 =>
                                                ∃ n35 : Int, (e33 = Ending.returned (Value.int IntKind.u32 n35) ∧
                                                 (I19 w34 ∧
                                                  ((0 ≤ n9 ∧
                                                    n9 < (↑64 : Int)) ∧
                                                   (Wr w34 (Addr.add (Addr.mk (Array.size (World.heap w)) 0 none) (Int.toNat n9 * 1)) ∧
                                                    ∀ w36 : World,
                                                    (w36 = World.setCell w34 (Addr.add (Addr.mk (Array.size (World.heap w)) 0 none) (Int.toNat n9 * 1)) (Value.int IntKind.u32 (IntKind.wrap IntKind.u32 (IntKind.wrap IntKind.u32 (IntKind.wrap IntKind.u32 (n20 + IntKind.wrap IntKind.u32 (↑(BitVec.toNat (BitVec.ofInt 32 (IntKind.wrap IntKind.u32 (↑(BitVec.toNat (BitVec.ofInt 32 n26 ^^^ BitVec.ofInt 32 n29)) : Int)) ^^^ BitVec.ofInt 32 (Int.fdiv n15 (2 ^ min (Int.toNat 3) 32)))) : Int)) + n22) + IntKind.wrap IntKind.u32 (↑(BitVec.toNat (BitVec.ofInt 32 (IntKind.wrap IntKind.u32 (↑(BitVec.toNat (BitVec.ofInt 32 n32 ^^^ BitVec.ofInt 32 n35)) : Int)) ^^^ BitVec.ofInt 32 (Int.fdiv n16 (2 ^ min (Int.toNat 10) 32)))) : Int)))) →
                                                      (I7 (IntKind.wrap IntKind.i64 (n9 + 1)) w36 ∧
                                                       I8 (IntKind.wrap IntKind.i64 (n9 + 1)) w36 < I8 n9 w10))))))))))))))))))))))))))))))))) ∧
              (decide (n9 < 64) = false →
                ∀ w37 : World,
                (w37 = World.alloc w10 (Obj.cells (Array.mk [Value.int IntKind.u32 0, Value.int IntKind.u32 0, Value.int IntKind.u32 0, Value.int IntKind.u32 0, Value.int IntKind.u32 0, Value.int IntKind.u32 0, Value.int IntKind.u32 0, Value.int IntKind.u32 0]) 170) →
                  ∃ w38 : World, ∃ n39 : Int, (Sem.run Tryd.prog (Builtin.copy_ (Array.mk [44, 44]) 3 (Array.mk [Value.slice (subA (some (Addr.mk (Array.size (World.heap w10)) 0 none)) 8 0 1) 8 8, Value.slice x0a x0n x0c])) w37 = Result.ok (Value.int IntKind.i64 n39) w38 ∧
                   ∃ I40 : Int → World → Prop, ∃ I41 : Int → World → Nat, (I40 0 w38 ∧
                    ∀ n42 : Int,
                    ∀ w43 : World,
                    (I40 n42 w43 →
                      (((decide (n42 < 64) = true →
                         (((0 : Int) ≤ (0 : Int) ∧
                           (0 : Int) < (↑(8 : Nat) : Int)) ∧
                          ∃ n44 : Int, (World.cell? w43 (Addr.add (Addr.mk (Array.size (World.heap w10)) 0 none) (Int.toNat 0 * 1)) = some (Value.int IntKind.u32 n44) ∧
                           (((0 : Int) ≤ (4 : Int) ∧
                             (4 : Int) < (↑(8 : Nat) : Int)) ∧
                            ∃ n45 : Int, (World.cell? w43 (Addr.add (Addr.mk (Array.size (World.heap w10)) 0 none) (Int.toNat 4 * 1)) = some (Value.int IntKind.u32 n45) ∧
                             ∀ w46 : World,
                             (Drew w43 w46 →
                               ∀ w47 : World,
                               (Drew w46 w47 →
                                 ∃ I48 : World → Prop, (I48 w47 ∧
                                  (((0 : Int) ≤ (7 : Int) ∧
                                    (7 : Int) < (↑(8 : Nat) : Int)) ∧
                                   ∃ n49 : Int, ((∀ w50 : World,
                                    (I48 w50 →
                                      World.cell? w50 (Addr.add (Addr.mk (Array.size (World.heap w10)) 0 none) (Int.toNat 7 * 1)) = some (Value.int IntKind.u32 n49))) ∧
                                    (((0 : Int) ≤ (5 : Int) ∧
                                      (5 : Int) < (↑(8 : Nat) : Int)) ∧
                                     ∃ n51 : Int, ((∀ w52 : World,
                                      (I48 w52 →
                                        World.cell? w52 (Addr.add (Addr.mk (Array.size (World.heap w10)) 0 none) (Int.toNat 5 * 1)) = some (Value.int IntKind.u32 n51))) ∧
                                      (((0 : Int) ≤ (6 : Int) ∧
                                        (6 : Int) < (↑(8 : Nat) : Int)) ∧
                                       ∃ n53 : Int, ((∀ w54 : World,
                                        (I48 w54 →
                                          World.cell? w54 (Addr.add (Addr.mk (Array.size (World.heap w10)) 0 none) (Int.toNat 6 * 1)) = some (Value.int IntKind.u32 n53))) ∧
                                        ((0 ≤ n42 ∧
                                          n42 < (↑64 : Int)) ∧
                                         ∃ n55 : Int, ((∀ w56 : World,
                                          (I48 w56 →
                                            World.cell? w56 (Addr.add (Addr.mk (Array.size (World.heap w3)) 0 none) (Int.toNat n42 * 1)) = some (Value.int IntKind.u32 n55))) ∧
                                          ((0 ≤ n42 ∧
                                            n42 < (↑64 : Int)) ∧
                                           ∃ n57 : Int, ((∀ w58 : World,
                                            (I48 w58 →
                                              World.cell? w58 (Addr.add (Addr.mk (Array.size (World.heap w)) 0 none) (Int.toNat n42 * 1)) = some (Value.int IntKind.u32 n57))) ∧
                                            Calls Tryd.prog (131 : Nat) (Array.mk [Value.int IntKind.u32 n45, Value.int IntKind.i64 (-6)]) (w47) (fun e59 w60 =>
                                              ∃ n61 : Int, (e59 = Ending.returned (Value.int IntKind.u32 n61) ∧
                                               (I48 w60 ∧
                                                Calls Tryd.prog (131 : Nat) (Array.mk [Value.int IntKind.u32 n45, Value.int IntKind.i64 (-11)]) (w60) (fun e62 w63 =>
                                                  ∃ n64 : Int, (e62 = Ending.returned (Value.int IntKind.u32 n64) ∧
                                                   (I48 w63 ∧
                                                    Calls Tryd.prog (131 : Nat) (Array.mk [Value.int IntKind.u32 n45, Value.int IntKind.i64 (-25)]) (w63) (fun e65 w66 =>
                                                      ∃ n67 : Int, (e65 = Ending.returned (Value.int IntKind.u32 n67) ∧
                                                       (I48 w66 ∧
                                                        ∀ w68 : World,
                                                        (Drew w66 w68 →
                                                          ∃ I69 : World → Prop, (I69 w68 ∧
                                                           (((0 : Int) ≤ (1 : Int) ∧
                                                             (1 : Int) < (↑(8 : Nat) : Int)) ∧
                                                            ∃ n70 : Int, ((∀ w71 : World,
                                                             (I69 w71 →
                                                               World.cell? w71 (Addr.add (Addr.mk (Array.size (World.heap w10)) 0 none) (Int.toNat 1 * 1)) = some (Value.int IntKind.u32 n70))) ∧
                                                             (((0 : Int) ≤ (2 : Int) ∧
                                                               (2 : Int) < (↑(8 : Nat) : Int)) ∧
                                                              ∃ n72 : Int, ((∀ w73 : World,
                                                               (I69 w73 →
                                                                 World.cell? w73 (Addr.add (Addr.mk (Array.size (World.heap w10)) 0 none) (Int.toNat 2 * 1)) = some (Value.int IntKind.u32 n72))) ∧
                                                               (((0 : Int) ≤ (1 : Int) ∧
                                                                 (1 : Int) < (↑(8 : Nat) : Int)) ∧
                                                                ∃ n74 : Int, ((∀ w75 : World,
                                                                 (I69 w75 →
                                                                   World.cell? w75 (Addr.add (Addr.mk (Array.size (World.heap w10)) 0 none) (Int.toNat 1 * 1)) = some (Value.int IntKind.u32 n74))) ∧
                                                                 (((0 : Int) ≤ (2 : Int) ∧
                                                                   (2 : Int) < (↑(8 : Nat) : Int)) ∧
                                                                  ∃ n76 : Int, ((∀ w77 : World,
                                                                   (I69 w77 →
                                                                     World.cell? w77 (Addr.add (Addr.mk (Array.size (World.heap w10)) 0 none) (Int.toNat 2 * 1)) = some (Value.int IntKind.u32 n76))) ∧
                                                                   Calls Tryd.prog (131 : Nat) (Array.mk [Value.int IntKind.u32 n44, Value.int IntKind.i64 (-2)]) (w68) (fun e78 w79 =>
                                                                     ∃ n80 : Int, (e78 = Ending.returned (Value.int IntKind.u32 n80) ∧
                                                                      (I69 w79 ∧
                                                                       Calls Tryd.prog (131 : Nat) (Array.mk [Value.int IntKind.u32 n44, Value.int IntKind.i64 (-13)]) (w79) (fun e81 w82 =>
                                                                         ∃ n83 : Int, (e81 = Ending.returned (Value.int IntKind.u32 n83) ∧
                                                                          (I69 w82 ∧
                                                                           Calls Tryd.prog (131 : Nat) (Array.mk [Value.int IntKind.u32 n44, Value.int IntKind.i64 (-22)]) (w82) (fun e84 w85 =>
                                                                             ∃ n86 : Int, (e84 = Ending.returned (Value.int IntKind.u32 n86) ∧
                                                                              (I69 w85 ∧
                                                                               (((0 : Int) ≤ (0 : Int) ∧
                                                                                 (0 : Int) < (↑(8 : Nat) : Int)) ∧
                                                                                ∃ n87 : Int, (World.cell? w85 (Addr.add (Addr.mk (Array.size (World.heap w10)) 0 none) (Int.toNat 0 * 1)) = some (Value.int IntKind.u32 n87) ∧
                                                                                 (((0 : Int) ≤ (1 : Int) ∧
                                                                                   (1 : Int) < (↑(8 : Nat) : Int)) ∧
                                                                                  ∃ n88 : Int, (World.cell? w85 (Addr.add (Addr.mk (Array.size (World.heap w10)) 0 none) (Int.toNat 1 * 1)) = some (Value.int IntKind.u32 n88) ∧
                                                                                   (((0 : Int) ≤ (2 : Int) ∧
                                                                                     (2 : Int) < (↑(8 : Nat) : Int)) ∧
                                                                                    ∃ n89 : Int, (World.cell? w85 (Addr.add (Addr.mk (Array.size (World.heap w10)) 0 none) (Int.toNat 2 * 1)) = some (Value.int IntKind.u32 n89) ∧
                                                                                     (((0 : Int) ≤ (3 : Int) ∧
                                                                                       (3 : Int) < (↑(8 : Nat) : Int)) ∧
                                                                                      ∃ n90 : Int, (World.cell? w85 (Addr.add (Addr.mk (Array.size (World.heap w10)) 0 none) (Int.toNat 3 * 1)) = some (Value.int IntKind.u32 n90) ∧
                                                                                       (((0 : Int) ≤ (4 : Int) ∧
                                                                                         (4 : Int) < (↑(8 : Nat) : Int)) ∧
                                                                                        ∃ n91 : Int, (World.cell? w85 (Addr.add (Addr.mk (Array.size (World.heap w10)) 0 none) (Int.toNat 4 * 1)) = some (Value.int IntKind.u32 n91) ∧
                                                                                         (((0 : Int) ≤ (5 : Int) ∧
                                                                                           (5 : Int) < (↑(8 : Nat) : Int)) ∧
                                                                                          ∃ n92 : Int, (World.cell? w85 (Addr.add (Addr.mk (Array.size (World.heap w10)) 0 none) (Int.toNat 5 * 1)) = some (Value.int IntKind.u32 n92) ∧
                                                                                           (((0 : Int) ≤ (6 : Int) ∧
                                                                                             (6 : Int) < (↑(8 : Nat) : Int)) ∧
                                                                                            ∃ n93 : Int, (World.cell? w85 (Addr.add (Addr.mk (Array.size (World.heap w10)) 0 none) (Int.toNat 6 * 1)) = some (Value.int IntKind.u32 n93) ∧
                                                                                             ∃ w94 : World, ((Sem.run Tryd.prog (storeVar 170 (Addr.mk (Array.size (World.heap w10)) 0 none) (Value.agg (Array.mk [Value.int IntKind.u32 (IntKind.wrap IntKind.u32 (IntKind.wrap IntKind.u32 (IntKind.wrap IntKind.u32 (IntKind.wrap IntKind.u32 (IntKind.wrap IntKind.u32 (n49 + IntKind.wrap IntKind.u32 (↑(BitVec.toNat (BitVec.ofInt 32 (IntKind.wrap IntKind.u32 (↑(BitVec.toNat (BitVec.ofInt 32 n61 ^^^ BitVec.ofInt 32 n64)) : Int)) ^^^ BitVec.ofInt 32 n67)) : Int)) + IntKind.wrap IntKind.u32 (↑(BitVec.toNat (BitVec.ofInt 32 (IntKind.wrap IntKind.u32 (↑(BitVec.toNat (BitVec.ofInt 32 n45 &&& BitVec.ofInt 32 n51)) : Int)) ^^^ BitVec.ofInt 32 (IntKind.wrap IntKind.u32 (↑(BitVec.toNat (BitVec.ofInt 32 (IntKind.wrap IntKind.u32 (↑(BitVec.toNat (BitVec.ofInt 32 (if IntKind.signed IntKind.u32 = true then -1 else Int.ofNat (2 ^ 32 - Nat.succ 0)) ^^^ BitVec.ofInt 32 n45)) : Int)) &&& BitVec.ofInt 32 n53)) : Int)))) : Int)) + n55) + n57) + IntKind.wrap IntKind.u32 (IntKind.wrap IntKind.u32 (↑(BitVec.toNat (BitVec.ofInt 32 (IntKind.wrap IntKind.u32 (↑(BitVec.toNat (BitVec.ofInt 32 n80 ^^^ BitVec.ofInt 32 n83)) : Int)) ^^^ BitVec.ofInt 32 n86)) : Int) + IntKind.wrap IntKind.u32 (↑(BitVec.toNat (BitVec.ofInt 32 (IntKind.wrap IntKind.u32 (↑(BitVec.toNat (BitVec.ofInt 32 (IntKind.wrap IntKind.u32 (↑(BitVec.toNat (BitVec.ofInt 32 n44 &&& BitVec.ofInt 32 n70)) : Int)) ^^^ BitVec.ofInt 32 (IntKind.wrap IntKind.u32 (↑(BitVec.toNat (BitVec.ofInt 32 n44 &&& BitVec.ofInt 32 n72)) : Int)))) : Int)) ^^^ BitVec.ofInt 32 (IntKind.wrap IntKind.u32 (↑(BitVec.toNat (BitVec.ofInt 32 n74 &&& BitVec.ofInt 32 n76)) : Int)))) : Int)))), Value.int IntKind.u32 n87, Value.int IntKind.u32 n88, Value.int IntKind.u32 n89, Value.int IntKind.u32 (IntKind.wrap IntKind.u32 (n90 + IntKind.wrap IntKind.u32 (IntKind.wrap IntKind.u32 (IntKind.wrap IntKind.u32 (IntKind.wrap IntKind.u32 (n49 + IntKind.wrap IntKind.u32 (↑(BitVec.toNat (BitVec.ofInt 32 (IntKind.wrap IntKind.u32 (↑(BitVec.toNat (BitVec.ofInt 32 n61 ^^^ BitVec.ofInt 32 n64)) : Int)) ^^^ BitVec.ofInt 32 n67)) : Int)) + IntKind.wrap IntKind.u32 (↑(BitVec.toNat (BitVec.ofInt 32 (IntKind.wrap IntKind.u32 (↑(BitVec.toNat (BitVec.ofInt 32 n45 &&& BitVec.ofInt 32 n51)) : Int)) ^^^ BitVec.ofInt 32 (IntKind.wrap IntKind.u32 (↑(BitVec.toNat (BitVec.ofInt 32 (IntKind.wrap IntKind.u32 (↑(BitVec.toNat (BitVec.ofInt 32 (if IntKind.signed IntKind.u32 = true then -1 else Int.ofNat (2 ^ 32 - Nat.succ 0)) ^^^ BitVec.ofInt 32 n45)) : Int)) &&& BitVec.ofInt 32 n53)) : Int)))) : Int)) + n55) + n57))), Value.int IntKind.u32 n91, Value.int IntKind.u32 n92, Value.int IntKind.u32 n93]))) w85 = Result.ok PUnit.unit w94) ∧
                                                                                              (I40 (IntKind.wrap IntKind.i64 (n42 + 1)) w94 ∧
                                                                                               I41 (IntKind.wrap IntKind.i64 (n42 + 1)) w94 < I41 n42 w43))))))))))))))))))))))))))))))))))))))))))))))))))))))))))))))) ∧
                       (decide (n42 < 64) = false →
                         ∃ I95 : Int → World → Prop, ∃ I96 : Int → World → Nat, (I95 0 w43 ∧
                          ∀ n97 : Int,
                          ∀ w98 : World,
                          (I95 n97 w98 →
                            (((decide (n97 < 8) = true →
                               ∀ w99 : World,
                               (Drew w98 w99 →
                                 ((0 ≤ n97 ∧
                                   n97 < (↑x0n : Int)) ∧
                                  ∃ a100 : Addr, (x0a = some a100 ∧
                                   ∃ n101 : Int, (World.cell? w99 (Addr.add a100 (Int.toNat n97 * 1)) = some (Value.int IntKind.u32 n101) ∧
                                    ((0 ≤ n97 ∧
                                      n97 < (↑8 : Int)) ∧
                                     ∃ n102 : Int, (World.cell? w99 (Addr.add (Addr.mk (Array.size (World.heap w10)) 0 none) (Int.toNat n97 * 1)) = some (Value.int IntKind.u32 n102) ∧
                                      ((0 ≤ n97 ∧
                                        n97 < (↑x0n : Int)) ∧
                                       ∃ a103 : Addr, (x0a = some a103 ∧
                                        (Wr w99 (Addr.add a103 (Int.toNat n97 * 1)) ∧
                                         ∀ w104 : World,
                                         (w104 = World.setCell w99 (Addr.add a103 (Int.toNat n97 * 1)) (Value.int IntKind.u32 (IntKind.wrap IntKind.u32 (n101 + n102))) →
                                           (I95 (IntKind.wrap IntKind.i64 (n97 + 1)) w104 ∧
                                            I96 (IntKind.wrap IntKind.i64 (n97 + 1)) w104 < I96 n97 w98))))))))))))) ∧
                             (decide (n97 < 8) = false →
                               R (Value.tuple (Array.mk [])) w98)))))))))))))))))))
theorem vc_sha_block256_ok {x0a : Option Addr} {x0n : Nat} {x0c : Nat} {x1 : ByteArray} {w : World} {R : Value → World → Prop} {R' : Ending → World → Prop} (h : vc_sha_block256 x0a x0n x0c x1 w R) (hR : ∀ v w', R v w' → R' (.returned v) w') :
    Calls Tryd.prog 100 #[.slice x0a x0n x0c, .string x1] w R' :=
  calls_of_body (vs := [(.slice x0a x0n x0c, false), (.string x1, false)]) (ty := ty) (ann := ⟨[], [(3, [(17, .int .i64)]), (13, [(70, .int .i64)]), (21, [(152, .int .i64)])], [(7, .quiet), (8, .held [(0, true), (1, true), (2, true), (3, true), (4, true), (5, true), (7, true), (10, true), (11, true), (14, true), (15, true), (16, true), (17, true), (19, true), (21, true), (24, true), (25, true), (6, false), (8, false), (9, true), (12, true), (13, true), (18, true), (20, false), (22, false), (23, true), (26, true), (27, true), (28, true), (29, false)]), (15, .quiet), (16, .held [(0, true), (1, true), (2, true), (4, true), (7, true), (11, true), (12, true), (13, true), (14, true), (15, true), (16, true), (17, true), (18, true), (19, true), (20, true), (22, true), (23, true), (24, true), (26, true), (27, true), (28, true), (3, false), (5, false), (6, true), (8, false), (9, true), (10, true), (21, true), (25, true), (29, true), (30, true)]), (17, .held [(0, true), (2, true), (5, true), (8, true), (9, true), (10, true), (11, true), (12, true), (13, true), (14, true), (15, true), (16, true), (17, true), (18, true), (19, true), (20, true), (21, true), (22, true), (1, false), (3, false), (4, true), (6, false), (7, true), (23, true), (24, true)]), (23, .tail 9)], []⟩) (c := Tryd.f100.body.getD .skip) (by kernel_rfl) Tryd.func100 (by kernel_rfl) (by kernel_rfl) (Eq.mp (by kernel_rfl) h) hR
/-- (*sha.hash).write#256 -/
def vc_sha_hash_write_256 (x0 : Nat) (x1 : ByteArray) (x2a : Option Addr) (x2n : Nat) (x2c : Nat) (w : World) (R : Value → World → Prop) : Prop :=
  ∃ I1 : World → Prop, ((∃ l2 : Sl, (World.cell? w (Addr.mk x0 0 none) = some (Value.slice l2.1 l2.2 l2.3) ∧
    (((Option.isNone l2.1 = true →
       ∃ w3 : World, ∃ l4 : Sl, (Sem.run Tryd.prog (Builtin.append_ (Array.mk [44, 44]) 44 (Array.mk [Value.slice none 0 0, Value.slice x2a x2n x2c])) w = Result.ok (Value.slice l4.1 l4.2 l4.3) w3 ∧
        (Wr w3 (Addr.mk x0 0 none) ∧
         ∀ w5 : World,
         (w5 = World.setCell w3 (Addr.mk x0 0 none) (Value.slice l4.1 l4.2 l4.3) →
           I1 w5))))) ∧
     (Option.isNone l2.1 = false →
       I1 w)))) ∧
   ∀ w6 : World,
   (I1 w6 →
     ∃ n7 : Int, (World.cell? w6 (Addr.mk x0 2 none) = some (Value.int IntKind.u64 n7) ∧
      (Wr w6 (Addr.mk x0 2 none) ∧
       ∀ w8 : World,
       (w8 = World.setCell w6 (Addr.mk x0 2 none) (Value.int IntKind.u64 (IntKind.wrap IntKind.u64 (n7 + IntKind.wrap IntKind.u64 (↑(ByteArray.size x1) : Int)))) →
         ∃ s9 : ByteArray, (World.cell? w8 (Addr.mk x0 1 none) = some (Value.string s9) ∧
          (ByteArray.size s9 + ByteArray.size x1 ≤ 9223372036854775807 ∧
           ∃ I10 : ByteArray → World → Prop, ∃ I11 : ByteArray → World → Nat, (I10 (s9 ++ x1) w8 ∧
            ∀ s12 : ByteArray,
            ∀ w13 : World,
            (I10 s12 w13 →
              (((decide ((↑(ByteArray.size s12) : Int) ≥ 64) = true →
                 ∀ w14 : World,
                 (Drew w13 w14 →
                   ∃ I15 : World → Prop, (I15 w14 ∧
                    ∃ l16 : Sl, ((∀ w17 : World,
                     (I15 w17 →
                       World.cell? w17 (Addr.mk x0 0 none) = some (Value.slice l16.1 l16.2 l16.3))) ∧
                     (((0 : Int) ≤ (64 : Int) ∧
                       64 ≤ (↑(ByteArray.size s12) : Int)) ∧
                      Calls Tryd.prog (100 : FuncId) (Array.mk [Value.slice l16.1 l16.2 l16.3, Value.string (ByteArray.extract s12 0 (Int.toNat 64))]) (w14) (fun e18 w19 =>
                        (e18 = Ending.returned (Value.tuple (Array.mk [])) ∧
                         (((0 : Int) ≤ (64 : Int) ∧
                           64 ≤ (↑(ByteArray.size s12) : Int)) ∧
                          (I10 (ByteArray.extract s12 (Int.toNat 64) (ByteArray.size s12)) w19 ∧
                           I11 (ByteArray.extract s12 (Int.toNat 64) (ByteArray.size s12)) w19 < I11 s12 w13)))))))))) ∧
               (decide ((↑(ByteArray.size s12) : Int) ≥ 64) = false →
                 (Wr w13 (Addr.mk x0 1 none) ∧
                  ∀ w20 : World,
                  (w20 = World.setCell w13 (Addr.mk x0 1 none) (Value.string s12) →
                    R (Value.tuple (Array.mk [])) w20)))))))))))))
theorem vc_sha_hash_write_256_ok {x0 : Nat} {x1 : ByteArray} {x2a : Option Addr} {x2n : Nat} {x2c : Nat} {w : World} {R : Value → World → Prop} {R' : Ending → World → Prop} (h : vc_sha_hash_write_256 x0 x1 x2a x2n x2c w R) (hR : ∀ v w', R v w' → R' (.returned v) w') :
    Calls Tryd.prog 98 #[.pointer (some ⟨x0, 0, none⟩), .string x1, .slice x2a x2n x2c, .func (.func 100) #[] #[]] w R' :=
  calls_of_body (vs := [(.pointer (some ⟨x0, 0, none⟩), true), (.string x1, false), (.slice x2a x2n x2c, false), (.func (.func 100) #[] #[], false)]) (ty := ty) (ann := ⟨[(2, [])], [(4, [(1, .str)])], [(5, .held [(0, true), (1, true), (2, true), (3, true), (4, true), (5, true), (6, true), (7, false)])], []⟩) (c := Tryd.f98.body.getD .skip) (by kernel_rfl) Tryd.func98 (by kernel_rfl) (by kernel_rfl) (Eq.mp (by kernel_rfl) h) hR
/-- (*sha.hash).sum#256 -/
def vc_sha_hash_sum_256 (x0 : Nat) (x1a : Option Addr) (x1n : Nat) (x1c : Nat) (w : World) (R : Value → World → Prop) : Prop :=
  ∃ I1 : Addr → World → Prop, ((∀ w2 : World,
   (Drew w w2 →
     ∃ I3 : World → Prop, (I3 w2 ∧
      ∃ l4 : Sl, ((∀ w5 : World,
       (I3 w5 →
         World.cell? w5 (Addr.mk x0 0 none) = some (Value.slice l4.1 l4.2 l4.3))) ∧
       ∃ s6 : ByteArray, ((∀ w7 : World,
        (I3 w7 →
          World.cell? w7 (Addr.mk x0 1 none) = some (Value.string s6))) ∧
        ∃ n8 : Int, ((∀ w9 : World,
         (I3 w9 →
           World.cell? w9 (Addr.mk x0 2 none) = some (Value.int IntKind.u64 n8))) ∧
         ((∃ w10 : World, ∃ l11 : Sl, (Sem.run Tryd.prog (Builtin.append_ (Array.mk [44, 44]) 44 (Array.mk [Value.slice none 0 0, Value.slice l4.1 l4.2 l4.3])) w2 = Result.ok (Value.slice l11.1 l11.2 l11.3) w10 ∧
           (I3 w10 ∧
            ∀ w12 : World,
            (w12 = World.alloc w10 (Obj.cells (Array.mk [Value.slice none 0 0, Value.string (ByteArray.mk (Array.mk [])), Value.int IntKind.u64 0]) 87) →
              (I3 w12 ∧
               ∃ w13 : World, (Sem.run Tryd.prog (storeVar 87 (Addr.mk (Array.size (World.heap w10)) 0 none) (Value.agg (Array.mk [Value.slice l11.1 l11.2 l11.3, Value.string s6, Value.int IntKind.u64 n8]))) w12 = Result.ok PUnit.unit w13 ∧
                I1 (Addr.mk (Array.size (World.heap w10)) 0 none) w13)))))) ∧
          ∀ w14 : World,
          (w14 = World.alloc w2 (Obj.cells (Array.mk [Value.slice none 0 0, Value.string (ByteArray.mk (Array.mk [])), Value.int IntKind.u64 0]) 87) →
            (I3 w14 ∧
             ∃ w15 : World, ∃ l16 : Sl, (Sem.run Tryd.prog (Builtin.append_ (Array.mk [44, 44]) 44 (Array.mk [Value.slice none 0 0, Value.slice l4.1 l4.2 l4.3])) w14 = Result.ok (Value.slice l16.1 l16.2 l16.3) w15 ∧
              (I3 w15 ∧
               ∃ w17 : World, (Sem.run Tryd.prog (storeVar 87 (Addr.mk (Array.size (World.heap w2)) 0 none) (Value.agg (Array.mk [Value.slice l16.1 l16.2 l16.3, Value.string s6, Value.int IntKind.u64 n8]))) w15 = Result.ok PUnit.unit w17 ∧
                I1 (Addr.mk (Array.size (World.heap w2)) 0 none) w17)))))))))))) ∧
   ∀ a18 : Addr,
   ∀ w19 : World,
   (I1 a18 w19 →
     ∃ I20 : World → Prop, ((∃ l21 : Sl, (World.cell? w19 (Addr.mk x0 0 none) = some (Value.slice l21.1 l21.2 l21.3) ∧
       (((Option.isNone l21.1 = true →
          (Wr w19 a18 ∧
           ∀ w22 : World,
           (w22 = World.setCell w19 a18 (Value.slice none 0 0) →
             I20 w22)))) ∧
        (Option.isNone l21.1 = false →
          I20 w19)))) ∧
      ∀ w23 : World,
      (I20 w23 →
        ∃ I24 : ByteArray → World → Prop, ∃ I25 : ByteArray → World → Nat, (I24 (ByteArray.mk (Array.mk [128])) w23 ∧
         ∀ s26 : ByteArray,
         ∀ w27 : World,
         (I24 s26 w27 →
           ∃ s28 : ByteArray, (World.cell? w27 (Addr.mk x0 1 none) = some (Value.string s28) ∧
            ((64 : Int) ≠ (0 : Int) ∧
             ((((Int.tmod (IntKind.wrap IntKind.i64 ((↑(ByteArray.size s28) : Int) + (↑(ByteArray.size s26) : Int))) 64 != 56) = true →
                (ByteArray.size s26 + ByteArray.size (ByteArray.mk (Array.mk [0])) ≤ 9223372036854775807 ∧
                 (I24 (s26 ++ ByteArray.mk (Array.mk [0])) w27 ∧
                  I25 (s26 ++ ByteArray.mk (Array.mk [0])) w27 < I25 s26 w27)))) ∧
              ((Int.tmod (IntKind.wrap IntKind.i64 ((↑(ByteArray.size s28) : Int) + (↑(ByteArray.size s26) : Int))) 64 != 56) = false →
                ∃ I29 : Sl → Int → World → Prop, ∃ I30 : Sl → Int → World → Nat, (I29 (Sl.mk none 0 0) 56 w27 ∧
                 ∀ l31 : Sl,
                 ∀ n32 : Int,
                 ∀ w33 : World,
                 (I29 l31 n32 w33 →
                   (((decide (n32 ≥ 0) = true →
                      ∃ n34 : Int, (World.cell? w33 (Addr.mk x0 2 none) = some (Value.int IntKind.u64 n34) ∧
                       (0 ≤ n32 ∧
                        ∀ w35 : World,
                        (w35 = World.alloc w33 (Obj.cells (Array.mk [Value.int IntKind.u8 (IntKind.wrap IntKind.u8 (Int.fdiv (IntKind.wrap IntKind.u64 (n34 * 8)) (2 ^ min (Int.toNat n32) 64)))]) 5) →
                          ∃ w36 : World, ∃ l37 : Sl, (Sem.run Tryd.prog (Builtin.append_ (Array.mk [35, 35]) 35 (Array.mk [Value.slice l31.1 l31.2 l31.3, Value.slice (some (Addr.mk (Array.size (World.heap w33)) 0 none)) 1 1])) w35 = Result.ok (Value.slice l37.1 l37.2 l37.3) w36 ∧
                           (I29 (Sl.mk l37.1 l37.2 l37.3) (IntKind.wrap IntKind.i64 (n32 - 8)) w36 ∧
                            I30 (Sl.mk l37.1 l37.2 l37.3) (IntKind.wrap IntKind.i64 (n32 - 8)) w36 < I30 l31 n32 w33))))))) ∧
                    (decide (n32 ≥ 0) = false →
                      ∃ w38 : World, ∃ s39 : ByteArray, (Sem.run Tryd.prog (convert 35 9 (Value.slice l31.1 l31.2 l31.3)) w33 = Result.ok (Value.string s39) w38 ∧
                       (ByteArray.size s26 + ByteArray.size s39 ≤ 9223372036854775807 ∧
                        Calls Tryd.prog (98 : Nat) (Array.mk [Value.pointer (some a18), Value.string (s26 ++ s39), Value.slice x1a x1n x1c, Value.func (Fn.func 100) (Array.mk []) (Array.mk [])]) (w38) (fun e40 w41 =>
                          (e40 = Ending.returned (Value.tuple (Array.mk [])) ∧
                           ∃ l42 : Sl, (World.cell? w41 a18 = some (Value.slice l42.1 l42.2 l42.3) ∧
                            ∃ I43 : Sl → Int → World → Prop, ∃ I44 : Sl → Int → World → Nat, (I43 (Sl.mk none 0 0) 0 w41 ∧
                             ∀ l45 : Sl,
                             ∀ n46 : Int,
                             ∀ w47 : World,
                             (I43 l45 n46 w47 →
                               (((decide (n46 < (↑l42.2 : Int)) = true →
                                  ((0 ≤ n46 ∧
                                    n46 < (↑l42.2 : Int)) ∧
                                   ∃ a48 : Addr, (l42.1 = some a48 ∧
                                    ∃ n49 : Int, (World.cell? w47 (Addr.add a48 (Int.toNat n46 * 1)) = some (Value.int IntKind.u32 n49) ∧
                                     ((0 : Int) ≤ (24 : Int) ∧
                                      ((0 : Int) ≤ (16 : Int) ∧
                                       ((0 : Int) ≤ (8 : Int) ∧
                                        ∀ w50 : World,
                                        (w50 = World.alloc w47 (Obj.cells (Array.mk [Value.int IntKind.u8 (IntKind.wrap IntKind.u8 (Int.fdiv n49 (2 ^ min (Int.toNat 24) 32))), Value.int IntKind.u8 (IntKind.wrap IntKind.u8 (Int.fdiv n49 (2 ^ min (Int.toNat 16) 32))), Value.int IntKind.u8 (IntKind.wrap IntKind.u8 (Int.fdiv n49 (2 ^ min (Int.toNat 8) 32))), Value.int IntKind.u8 (IntKind.wrap IntKind.u8 n49)]) 5) →
                                          ∃ w51 : World, ∃ l52 : Sl, (Sem.run Tryd.prog (Builtin.append_ (Array.mk [35, 35]) 35 (Array.mk [Value.slice l45.1 l45.2 l45.3, Value.slice (some (Addr.mk (Array.size (World.heap w47)) 0 none)) 4 4])) w50 = Result.ok (Value.slice l52.1 l52.2 l52.3) w51 ∧
                                           (I43 (Sl.mk l52.1 l52.2 l52.3) (IntKind.wrap IntKind.i64 (n46 + 1)) w51 ∧
                                            I44 (Sl.mk l52.1 l52.2 l52.3) (IntKind.wrap IntKind.i64 (n46 + 1)) w51 < I44 l45 n46 w47))))))))))) ∧
                                (decide (n46 < (↑l42.2 : Int)) = false →
                                  ∃ w53 : World, ∃ s54 : ByteArray, (Sem.run Tryd.prog (convert 35 9 (Value.slice l45.1 l45.2 l45.3)) w47 = Result.ok (Value.string s54) w53 ∧
                                   R (Value.string s54) w53))))))))))))))))))))))))
theorem vc_sha_hash_sum_256_ok {x0 : Nat} {x1a : Option Addr} {x1n : Nat} {x1c : Nat} {w : World} {R : Value → World → Prop} {R' : Ending → World → Prop} (h : vc_sha_hash_sum_256 x0 x1a x1n x1c w R) (hR : ∀ v w', R v w' → R' (.returned v) w') :
    Calls Tryd.prog 101 #[.pointer (some ⟨x0, 0, none⟩), .slice x1a x1n x1c, .func (.func 100) #[] #[]] w R' :=
  calls_of_body (vs := [(.pointer (some ⟨x0, 0, none⟩), true), (.slice x1a x1n x1c, false), (.func (.func 100) #[] #[], false)]) (ty := ty) (ann := ⟨[(2, [(7, .addr)]), (4, [])], [(5, [(8, .str)]), (9, [(9, .slice), (10, .int .i64)]), (15, [(11, .slice), (71, .int .i64)])], [(1, .tree (.rd 0 (.rd 1 (.rd 2 (.rd 3 (.rd 5 (.rd 6 (.rd 7 (.rd 8 (.rd 9 (.rd 10 (.rd 11 (.rd 12 (.ef 4 (.rd 13 (.ef 14 (.ef 15 .done .done) .done)) (.ef 14 (.ef 4 (.rd 13 (.ef 15 .done .done)) .done) .done)))))))))))))))], []⟩) (c := Tryd.f101.body.getD .skip) (by kernel_rfl) Tryd.func101 (by kernel_rfl) (by kernel_rfl) (Eq.mp (by kernel_rfl) h) hR
/-- (*sha.Hash256).Write -/
def vc_sha_Hash256_Write (x0 : Nat) (x1 : ByteArray) (w : World) (R : Value → World → Prop) : Prop :=
  ∀ w1 : World,
  (Drew w w1 →
    ∃ I2 : World → Prop, (I2 w1 ∧
     Calls Tryd.prog (99 : Nat) (Array.mk []) (w1) (fun e3 w4 =>
       ∃ l5 : Sl, (e3 = Ending.returned (Value.slice l5.1 l5.2 l5.3) ∧
        (I2 w4 ∧
         Calls Tryd.prog (98 : Nat) (Array.mk [Value.pointer (some (Addr.mk x0 0 none)), Value.string x1, Value.slice l5.1 l5.2 l5.3, Value.func (Fn.func 100) (Array.mk []) (Array.mk [])]) (w4) (fun e6 w7 =>
           (e6 = Ending.returned (Value.tuple (Array.mk [])) ∧
            R (Value.tuple (Array.mk [])) w7)))))))
theorem vc_sha_Hash256_Write_ok {x0 : Nat} {x1 : ByteArray} {w : World} {R : Value → World → Prop} {R' : Ending → World → Prop} (h : vc_sha_Hash256_Write x0 x1 w R) (hR : ∀ v w', R v w' → R' (.returned v) w') :
    Calls Tryd.prog 50 #[.pointer (some ⟨x0, 0, none⟩), .string x1] w R' :=
  calls_of_body (vs := [(.pointer (some ⟨x0, 0, none⟩), true), (.string x1, false)]) (ty := ty) (ann := ⟨[], [], [(0, .held [(0, true), (1, true), (2, true), (3, true), (4, false), (5, false)])], []⟩) (c := Tryd.f50.body.getD .skip) (by kernel_rfl) Tryd.func50 (by kernel_rfl) (by kernel_rfl) (Eq.mp (by kernel_rfl) h) hR
/-- (*sha.Hash256).Sum -/
def vc_sha_Hash256_Sum (x0 : Nat) (w : World) (R : Value → World → Prop) : Prop :=
  ∀ w1 : World,
  (Drew w w1 →
    ∃ I2 : World → Prop, (I2 w1 ∧
     Calls Tryd.prog (99 : Nat) (Array.mk []) (w1) (fun e3 w4 =>
       ∃ l5 : Sl, (e3 = Ending.returned (Value.slice l5.1 l5.2 l5.3) ∧
        (I2 w4 ∧
         Calls Tryd.prog (101 : Nat) (Array.mk [Value.pointer (some (Addr.mk x0 0 none)), Value.slice l5.1 l5.2 l5.3, Value.func (Fn.func 100) (Array.mk []) (Array.mk [])]) (w4) (fun e6 w7 =>
           ∃ s8 : ByteArray, (e6 = Ending.returned (Value.string s8) ∧
            (I2 w7 ∧
             R (Value.string s8) w7))))))))
theorem vc_sha_Hash256_Sum_ok {x0 : Nat} {w : World} {R : Value → World → Prop} {R' : Ending → World → Prop} (h : vc_sha_Hash256_Sum x0 w R) (hR : ∀ v w', R v w' → R' (.returned v) w') :
    Calls Tryd.prog 54 #[.pointer (some ⟨x0, 0, none⟩)] w R' :=
  calls_of_body (vs := [(.pointer (some ⟨x0, 0, none⟩), true)]) (ty := ty) (ann := ⟨[], [], [(1, .held [(0, true), (1, true), (2, true), (3, false), (4, false), (5, true)])], []⟩) (c := Tryd.f54.body.getD .skip) (by kernel_rfl) Tryd.func54 (by kernel_rfl) (by kernel_rfl) (Eq.mp (by kernel_rfl) h) hR
/-- sha.Sum256 -/
def vc_sha_Sum256 (x0 : ByteArray) (w : World) (R : Value → World → Prop) : Prop :=
  ∀ w1 : World,
  (w1 = World.alloc w (Obj.cells (Array.mk [Value.slice none 0 0, Value.string (ByteArray.mk (Array.mk [])), Value.int IntKind.u64 0]) 89) →
    Calls Tryd.prog (50 : Nat) (Array.mk [Value.pointer (some (Addr.mk (Array.size (World.heap w)) 0 none)), Value.string x0]) (w1) (fun e2 w3 =>
      (e2 = Ending.returned (Value.tuple (Array.mk [])) ∧
       Calls Tryd.prog (54 : Nat) (Array.mk [Value.pointer (some (Addr.mk (Array.size (World.heap w)) 0 none))]) (w3) (fun e4 w5 =>
         ∃ s6 : ByteArray, (e4 = Ending.returned (Value.string s6) ∧
          R (Value.string s6) w5)))))
theorem vc_sha_Sum256_ok {x0 : ByteArray} {w : World} {R : Value → World → Prop} {R' : Ending → World → Prop} (h : vc_sha_Sum256 x0 w R) (hR : ∀ v w', R v w' → R' (.returned v) w') :
    Calls Tryd.prog 52 #[.string x0] w R' :=
  calls_of_body (vs := [(.string x0, false)]) (ty := ty) (ann := ⟨[], [], [], []⟩) (c := Tryd.f52.body.getD .skip) (by kernel_rfl) Tryd.func52 (by kernel_rfl) (by kernel_rfl) (Eq.mp (by kernel_rfl) h) hR
end Go.Proofs.YtfoeooddnmppnaaDoor

/- What the small functions of the package sha and of its reference do. Conditions: a word's text has four bytes; a turn is by less than 32. -/
set_option linter.unusedVariables false
namespace Go.Proofs.YtfoeooddnmppnaaDoor
open Go Vc ShaM Go.Proofs

theorem elU32 : El Tryd.prog T_S_uint32 T_uint32 (.int .u32 0) 4 := ⟨by kernel_rfl, by kernel_rfl, rfl⟩
abbrev uv (l : List W) : List Value := l.map (fun x : W => Value.int .u32 (x.toNat : Int))
theorem uv_get {l : List W} {i : Nat} (h : i < l.length) : (uv l)[i]? = some (.int .u32 ((l.getD i 0).toNat : Int)) := by
  simp only [uv, List.getElem?_map, List.getElem?_eq_getElem h, Option.map_some, List.getD_eq_getElem?_getD, Option.getD_some]
theorem uv_len (l : List W) : (uv l).length = l.length := List.length_map ..
/-- An element of an array by value. -/
theorem index_agg {P : Program} {w : World} (t e : TypeId) (n : Nat) (cs : List Value) (k : IntKind) (i : Nat) (h : P.underlying t = some (.array n e)) (hs : (P.info? e).map (·.size) = some 1) (hl : cs.length = n) (hin : i < n) (ho : one P e = true) :
    (Instr.index t (.agg cs.toArray) (.int k (i : Int))).run P w = .ok (cs.getD i undef) w := by
  obtain ⟨ie, hie, hsz⟩ := Option.map_eq_some_iff.1 hs
  have hn : 0 ≤ (i : Int) ∧ (i : Int) < (n : Int) := by omega
  have hsize : ∀ w, (Go.sizeOf e).run P w = .ok 1 w := fun w => by simp [Go.sizeOf, typeInfo, hie, hsz]
  have hi : i < cs.length := by omega
  simp [Instr.index, run_underlying h, asIntOf, hin, go_sem, hsize, run_isAgg ho, Result.andThen, hi]

theorem word_spec (s : ByteArray) (h : 4 ≤ s.size) (w : World) : Calls Tryd.prog F_sha_word #[.string s] w fun e w' => e = .returned (.int .u32 ((be s.data.toList 0).toNat : Int)) ∧ Drew w w' := by
  refine vc_sha_word_ok (R := fun v w' => v = .int .u32 ((be s.data.toList 0).toNat : Int) ∧ Drew w w') ?_ (fun v w' h => ⟨by rw [h.1], h.2⟩)
  refine ⟨⟨by decide, by omega⟩, by decide, ⟨by decide, by omega⟩, by decide, ⟨by decide, by omega⟩, by decide, ⟨by decide, by omega⟩, fun w1 d => ⟨?_, d⟩⟩
  have b0 := byteAt_nat s 0
  have b1 := byteAt_nat s 1
  have b2 := byteAt_nat s 2
  have b3 := byteAt_nat s 3
  have l0 := byt_lt s 0
  have l1 := byt_lt s 1
  have l2 := byt_lt s 2
  have l3 := byt_lt s 3
  have e : (be s.data.toList 0).toNat = byt s 0 * 16777216 + byt s 1 * 65536 + byt s 2 * 256 + byt s 3 := by
    unfold be byt
    rw [BitVec.toNat_ofNat]
    simp only [List.getD_eq_getElem?_getD, Nat.zero_add]
    unfold byt at l0 l1 l2 l3
    exact Nat.mod_eq_of_lt (by omega)
  rw [show byteAt s 0 = (byt s 0 : Int) from b0, show byteAt s 1 = (byt s 1 : Int) from b1, show byteAt s 2 = (byt s 2 : Int) from b2, show byteAt s 3 = (byt s 3 : Int) from b3, e]
  revert l0 l1 l2 l3
  generalize byt s 0 = a0
  generalize byt s 1 = a1
  generalize byt s 2 = a2
  generalize byt s 3 = a3
  intro l0 l1 l2 l3
  have p24 : (2 : Int) ^ min (Int.toNat 24) 32 = 16777216 := rfl
  have p16 : (2 : Int) ^ min (Int.toNat 16) 32 = 65536 := rfl
  have p8 : (2 : Int) ^ min (Int.toNat 8) 32 = 256 := rfl
  have m0 : IntKind.u32.wrap (IntKind.u32.wrap (a0 : Int) * 16777216) = ((a0 * 16777216 : Nat) : Int) := by rw [wrap_u32 (x := (a0 : Int)) (by omega) (by omega), wrap_u32 (by omega) (by omega)]; omega
  have m1 : IntKind.u32.wrap (IntKind.u32.wrap (a1 : Int) * 65536) = ((a1 * 65536 : Nat) : Int) := by rw [wrap_u32 (x := (a1 : Int)) (by omega) (by omega), wrap_u32 (by omega) (by omega)]; omega
  have m2 : IntKind.u32.wrap (IntKind.u32.wrap (a2 : Int) * 256) = ((a2 * 256 : Nat) : Int) := by rw [wrap_u32 (x := (a2 : Int)) (by omega) (by omega), wrap_u32 (by omega) (by omega)]; omega
  have o1 : (a0 * 16777216) ||| (a1 * 65536) = a0 * 16777216 + a1 * 65536 := by
    have := Nat.two_pow_add_eq_or_of_lt (i := 24) (b := a1 * 65536) (by omega) a0
    rw [Nat.mul_comm] at this; exact this.symm
  have o2 : (a0 * 16777216 + a1 * 65536) ||| (a2 * 256) = a0 * 16777216 + a1 * 65536 + a2 * 256 := by
    have := Nat.two_pow_add_eq_or_of_lt (i := 16) (b := a2 * 256) (by omega) (a0 * 256 + a1)
    rw [show 2 ^ 16 * (a0 * 256 + a1) = a0 * 16777216 + a1 * 65536 by omega] at this; exact this.symm
  have o3 : (a0 * 16777216 + a1 * 65536 + a2 * 256) ||| a3 = a0 * 16777216 + a1 * 65536 + a2 * 256 + a3 := by
    have := Nat.two_pow_add_eq_or_of_lt (i := 8) (b := a3) (by omega) (a0 * 65536 + a1 * 256 + a2)
    rw [show 2 ^ 8 * (a0 * 65536 + a1 * 256 + a2) = a0 * 16777216 + a1 * 65536 + a2 * 256 by omega] at this; exact this.symm
  rw [p24, p16, p8, m0, m1, m2, wrap_u32 (x := (a3 : Int)) (by omega) (by omega), or_nat 32 _ _ (by omega) (by omega), o1, wrap_u32 (x := ((a0 * 16777216 + a1 * 65536 : Nat) : Int)) (by omega) (by omega),
    or_nat 32 _ _ (by omega) (by omega), o2, wrap_u32 (x := ((a0 * 16777216 + a1 * 65536 + a2 * 256 : Nat) : Int)) (by omega) (by omega), or_nat 32 _ _ (by omega) (by omega), o3, wrap_u32 (by omega) (by omega)]

theorem rot_eq (x : W) {s : Nat} (h : s < 32) : IntKind.u32.wrap (↑((BitVec.ofInt 32 (IntKind.u32.wrap ((x.toNat : Int) * 2 ^ min s 32)) ||| BitVec.ofInt 32 (Int.fdiv (x.toNat : Int) (2 ^ min (32 - s) 32))).toNat) : Int) = ((rotl x s).toNat : Int) := by
  rw [u_shl x s (by omega), u_shr x (32 - s) (by omega), u_of, u_of, u_wrap]; rfl

theorem rot_spec (x : W) (k : Int) (s : Nat) (hs : s < 32) (hk : k % 18446744073709551616 % 32 = (s : Int)) (w : World) :
    Calls Tryd.prog F_bits_RotateLeft32 #[.int .u32 (x.toNat : Int), .int .i64 k] w fun e w' => e = .returned (.int .u32 ((rotl x s).toNat : Int)) ∧ w' = w := by
  refine vc_bits_RotateLeft32_ok (R := fun v w' => v = .int .u32 ((rotl x s).toNat : Int) ∧ w' = w) ?_ (fun v w' h => ⟨by rw [h.1], h.2⟩)
  rw [vc_bits_RotateLeft32, wrap_u64_mod k]
  obtain ⟨n, hn⟩ := Int.eq_ofNat_of_zero_le (Int.emod_nonneg k (show (18446744073709551616 : Int) ≠ 0 by decide))
  have hlt : k % 18446744073709551616 < 18446744073709551616 := Int.emod_lt_of_pos _ (by decide)
  rw [hn] at hk hlt ⊢
  have e1 : (BitVec.ofInt 64 31) = BitVec.ofInt 64 ((31 : Nat) : Int) := rfl
  have e2 : n &&& 31 = s := by
    have := Nat.and_two_pow_sub_one_eq_mod n 5
    rw [show 2 ^ 5 - 1 = 31 from rfl] at this
    rw [this]; omega
  rw [e1, and_nat 64 _ _ (by omega) (by omega), e2, wrap_u64 (x := (s : Int)) (by omega) (by omega), wrap_u64 (x := 32 - (s : Int)) (by omega) (by omega)]
  refine ⟨by omega, by omega, ?_, rfl⟩
  rw [Int.toNat_natCast, show (32 - (s : Int)).toNat = 32 - s by omega, rot_eq x hs]
end Go.Proofs.YtfoeooddnmppnaaDoor

/- Arrays of words, in plain and in memory. No condition. -/
set_option linter.unusedVariables false
namespace Go.Proofs.YtfoeooddnmppnaaDoor
open Go Vc ShaM Go.Proofs

theorem ext_toList (s : ByteArray) (a b : Nat) : (s.extract a b).data.toList = (s.data.toList.drop a).take (b - a) := by
  rw [ByteArray.data_extract, Array.toList_extract]
theorem be_drop (l : List UInt8) (a : Nat) : be (l.drop a) 0 = be l a := by
  unfold be; simp [List.getD_eq_getElem?_getD, List.getElem?_drop]
theorem neg32 : BitVec.ofInt 32 (if IntKind.signed IntKind.u32 = true then -1 else Int.ofNat (2 ^ 32 - Nat.succ 0)) = BitVec.allOnes 32 := by decide
theorem ones32 : BitVec.ofInt 32 4294967295 = BitVec.allOnes 32 := by decide

/-- The array of a schedule while it is made. -/
def arr (E : Nat → List W) (n k : Nat) : List W := E k ++ List.replicate (n - k) 0
theorem arr_set {E : Nat → List W} {n k : Nat} {x : W} (hE : (E k).length = k) (hk : k < n) (h : E (k + 1) = E k ++ [x]) : (arr E n k).set k x = arr E n (k + 1) := by
  unfold arr
  rw [List.set_append_right _ _ (by omega), hE, Nat.sub_self, h, List.append_assoc, show n - k = (n - (k + 1)) + 1 by omega, List.replicate_succ]
  rfl
theorem arr_length {E : Nat → List W} {n k : Nat} (hE : (E k).length = k) (hk : k ≤ n) : (arr E n k).length = n := by
  unfold arr; rw [List.length_append, List.length_replicate]; omega
theorem arr_getD {E : Nat → List W} {n k j : Nat} (hE : (E k).length = k) (hj : j < k) : (arr E n k).getD j 0 = (E k).getD j 0 := by
  unfold arr
  rw [List.getD_eq_getElem?_getD, List.getElem?_append_left (by omega), List.getD_eq_getElem?_getD]
theorem own_get {w : World} {base : Nat} {e : TypeId} {l : Sl} {xs : List W} (h : Vc.Own w base e l (uv xs)) {i : Nat} (hi : i < xs.length) : ∃ x, l.a = some x ∧ w.cell? (x.add i) = some (.int .u32 ((xs.getD i 0).toNat : Int)) :=
  h.reads i _ (uv_get hi)
theorem own_put {w : World} {base : Nat} {e : TypeId} {l : Sl} {xs : List W} (h : Vc.Own w base e l (uv xs)) {i : Nat} (hi : i < xs.length) (x : W) :
    ∃ y, l.a = some y ∧ Wr w (y.add i) ∧ ∀ w2, w2 = w.setCell (y.add i) (.int .u32 (x.toNat : Int)) → Vc.Own w2 base e l (uv (xs.set i x)) ∧ Fr (Vc.At l) w w2 := by
  obtain ⟨y, hy, hc, hw, hs⟩ := h.set (i := i) (by rw [uv_len]; exact hi)
  refine ⟨y, hy, hw, fun w2 hw2 => ?_⟩
  obtain ⟨h1, h2⟩ := hs (.int .u32 (x.toNat : Int))
  rw [hw2]
  exact ⟨by rw [uv, List.map_set]; exact h1, h2⟩

theorem f1_eq (i : Nat) (b c d : W) : (i < 20 → f1 i b c d = (b &&& c) ||| (~~~b &&& d) ∧ k1 i = 0x5a827999#32) ∧ (20 ≤ i → i < 40 → f1 i b c d = b ^^^ c ^^^ d ∧ k1 i = 0x6ed9eba1#32) ∧
    (40 ≤ i → i < 60 → f1 i b c d = (b &&& c) ||| (b &&& d) ||| (c &&& d) ∧ k1 i = 0x8f1bbcdc#32) ∧ (60 ≤ i → f1 i b c d = b ^^^ c ^^^ d ∧ k1 i = 0xca62c1d6#32) := by
  unfold f1 k1
  refine ⟨fun h => ?_, fun h h2 => ?_, fun h h2 => ?_, fun h => ?_⟩
  · rw [if_pos h, if_pos h]; exact ⟨rfl, rfl⟩
  · rw [if_neg (by omega), if_pos h2, if_neg (by omega), if_pos h2]; exact ⟨rfl, rfl⟩
  · rw [if_neg (by omega), if_neg (by omega), if_pos h2, if_neg (by omega), if_neg (by omega), if_pos h2]; exact ⟨rfl, rfl⟩
  · rw [if_neg (by omega), if_neg (by omega), if_neg (by omega), if_neg (by omega), if_neg (by omega), if_neg (by omega)]; exact ⟨rfl, rfl⟩

end Go.Proofs.YtfoeooddnmppnaaDoor

/- Words in a row, stored; sums of words. No condition. -/
set_option linter.unusedVariables false
namespace Go.Proofs.YtfoeooddnmppnaaDoor
open Go Vc ShaM Go.Proofs

theorem one_uv (l : List W) : ∀ u ∈ uv l, u.oneCell' = true := fun u h => by
  obtain ⟨b, _, rfl⟩ := List.mem_map.1 h; rfl
theorem setRow_fr (X : Nat → Prop) (w : World) (g : Nat) (cs : Array Value) (h : X g) : Fr X w (w.setRow g cs) :=
  ⟨rfl, rfl, rfl, by simp [World.setRow], fun k _ hx => by
    simp only [World.setRow, Array.getElem?_modify]
    rw [if_neg (fun e => hx (by rw [← e]; exact h))]⟩
/-- A whole array stored. -/
theorem store_arr {P : Program} {w : World} {base g n : Nat} {e t : TypeId} {xs ys : List W} (h : Vc.Own w base e ⟨some ⟨g, 0, none⟩, n, n⟩ (uv xs)) (hy : ys.length = n) (hi : (P.info? t).map (·.size) = some n) :
    ∃ w', (storeVar t ⟨g, 0, none⟩ (.agg (uv ys).toArray)).run P w = .ok () w' ∧ Vc.Own w' base e ⟨some ⟨g, 0, none⟩, n, n⟩ (uv ys) ∧ Fr (· = g) w w' := by
  have hn := h.1
  rcases h.2 with ⟨ha, _⟩ | ⟨g', cur, ha, hb, hg, hl, hm, hs, ht⟩
  · cases ha
  · cases ha
    have hr := run_storeVar_row (P := P) w g e t cur (uv ys).toArray hg (by rw [hi, List.size_toArray, uv_len, hy]) (by simp [hy]; exact hs)
      (by rw [Array.all_eq_true_iff_forall_mem]; intro v hv; exact one_uv ys v (by simpa using hv))
    refine ⟨_, hr, ⟨by rw [uv_len, hy], .inr ⟨g, _, rfl, hb, setRow_heap w g cur _ e (0, 0) hg, hl, hm, by rw [List.size_toArray, uv_len, hy], ?_⟩⟩, setRow_fr _ w g _ rfl⟩
    exact List.take_of_length_le (by simp [hy])
set_option maxRecDepth 100000 in
theorem adds_zip : ∀ (h v : List W), adds h v = List.zipWith (· + ·) h v
  | [], _ => by simp [adds]
  | a :: h, [] => by simp [adds]
  | a :: h, b :: v => by simp [adds, adds_zip h v]
/-- The words while they are added. -/
def mix (h v : List W) (i : Nat) : List W := (adds h v).take i ++ h.drop i
theorem mix_next {h v : List W} {i : Nat} (hl : h.length = v.length) (hi : i < h.length) : (mix h v i).set i (h.getD i 0 + v.getD i 0) = mix h v (i + 1) ∧ (mix h v i).getD i 0 = h.getD i 0 ∧ (mix h v i).length = h.length := by
  have hal : (adds h v).length = h.length := by rw [adds_zip, List.length_zipWith]; omega
  have htl : ((adds h v).take i).length = i := by rw [List.length_take]; omega
  have hx : (adds h v)[i]'(by omega) = h.getD i 0 + v.getD i 0 := by
    simp only [adds_zip, List.getElem_zipWith, List.getD_eq_getElem?_getD, List.getElem?_eq_getElem hi, List.getElem?_eq_getElem (show i < v.length by omega), Option.getD_some]
  refine ⟨?_, ?_, ?_⟩
  · unfold mix
    rw [List.set_append_right _ _ (by omega), htl, Nat.sub_self, List.take_succ_eq_append_getElem (by omega), hx, List.append_assoc, List.drop_eq_getElem_cons hi]
    rfl
  · unfold mix
    rw [List.getD_eq_getElem?_getD, List.getElem?_append_right (by omega), htl, Nat.sub_self, List.getElem?_drop]
    rw [List.getD_eq_getElem?_getD]; rfl
  · unfold mix
    rw [List.length_append, List.length_drop, htl]; omega
end Go.Proofs.YtfoeooddnmppnaaDoor

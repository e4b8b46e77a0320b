/- Formulas of 4 Go functions of this seat (written by a program of the author's, vcgen.py), and that each is enough for the call. No condition. -/
import Derived.Test.YtcboiljbkkleiaaTy
import Derived.Test.YtcboiljbkkleiaaProg
set_option linter.unusedVariables false
namespace Go.Proofs.Ytcboiljbkkleiaa
open Go Vc Go.Proofs
set_option maxRecDepth 100000
/-- cartularylaw02.awake -/
def vc_cartularylaw02_awake (w : World) (R : Value → World → Prop) : Prop :=
  Calls Try.prog (45 : Nat) (Array.mk [Value.string (ByteArray.mk (Array.mk [(97 : UInt8), (98 : UInt8), (99 : UInt8)]))]) (w) (fun e1 w2 =>
    ∃ s3 : ByteArray, (e1 = Ending.returned (Value.string s3) ∧
     Calls Try.prog (56 : Nat) (Array.mk [Value.string s3]) (w2) (fun e4 w5 =>
       ∃ s6 : ByteArray, (e4 = Ending.returned (Value.string s6) ∧
        ((((ByteArray.toList s6 == ByteArray.toList (ByteArray.mk (Array.mk [97, 57, 57, 57, 51, 101, 51, 54, 52, 55, 48, 54, 56, 49, 54, 97, 98, 97, 51, 101, 50, 53, 55, 49, 55, 56, 53, 48, 99, 50, 54, 99, 57, 99, 100, 48, 100, 56, 57, 100]))) = true →
           Calls Try.prog (47 : Nat) (Array.mk [Value.string (ByteArray.mk (Array.mk [(97 : UInt8), (98 : UInt8), (99 : UInt8)]))]) (w5) (fun e7 w8 =>
             ∃ s9 : ByteArray, (e7 = Ending.returned (Value.string s9) ∧
              Calls Try.prog (56 : Nat) (Array.mk [Value.string s9]) (w8) (fun e10 w11 =>
                ∃ s12 : ByteArray, (e10 = Ending.returned (Value.string s12) ∧
                 R (Value.bool (ByteArray.toList s12 == ByteArray.toList (ByteArray.mk (Array.mk [98, 97, 55, 56, 49, 54, 98, 102, 56, 102, 48, 49, 99, 102, 101, 97, 52, 49, 52, 49, 52, 48, 100, 101, 53, 100, 97, 101, 50, 50, 50, 51, 98, 48, 48, 51, 54, 49, 97, 51, 57, 54, 49, 55, 55, 97, 57, 99, 98, 52, 49, 48, 102, 102, 54, 49, 102, 50, 48, 48, 49, 53, 97, 100])))) w11)))))) ∧
         ((ByteArray.toList s6 == ByteArray.toList (ByteArray.mk (Array.mk [97, 57, 57, 57, 51, 101, 51, 54, 52, 55, 48, 54, 56, 49, 54, 97, 98, 97, 51, 101, 50, 53, 55, 49, 55, 56, 53, 48, 99, 50, 54, 99, 57, 99, 100, 48, 100, 56, 57, 100]))) = false →
           R (Value.bool false) w5))))))
theorem vc_cartularylaw02_awake_ok {w : World} {R : Value → World → Prop} {R' : Ending → World → Prop} (h : vc_cartularylaw02_awake w R) (hR : ∀ v w', R v w' → R' (.returned v) w') :
    Calls Try.prog 44 #[] w R' :=
  calls_of_body (vs := []) (ty := ty) (ann := ⟨[], [], [], []⟩) (c := Try.f44.body.getD .skip) (by kernel_rfl) Try.func44 (by kernel_rfl) (by kernel_rfl) (Eq.mp (by kernel_rfl) h) hR
/-- cartularylaw02.ShaSums -/
def vc_cartularylaw02_ShaSums (x0 : ByteArray) (w : World) (R : Value → World → Prop) : Prop :=
  Calls Try.prog (29 : Nat) (Array.mk [Value.string x0, Value.int IntKind.i64 500]) (w) (fun e1 w2 =>
    ∃ s3 : ByteArray, (e1 = Ending.returned (Value.string s3) ∧
     Calls Try.prog (44 : Nat) (Array.mk []) (w2) (fun e4 w5 =>
       ∃ b6 : Bool, (e4 = Ending.returned (Value.bool b6) ∧
        (((b6 = true →
           Calls Try.prog (45 : Nat) (Array.mk [Value.string s3]) (w5) (fun e7 w8 =>
             ∃ s9 : ByteArray, (e7 = Ending.returned (Value.string s9) ∧
              Calls Try.prog (46 : Nat) (Array.mk [Value.string s3]) (w8) (fun e10 w11 =>
                ∃ s12 : ByteArray, (e10 = Ending.returned (Value.string s12) ∧
                 ((((ByteArray.toList s9 == ByteArray.toList s12) = true →
                    Calls Try.prog (47 : Nat) (Array.mk [Value.string s3]) (w11) (fun e13 w14 =>
                      ∃ s15 : ByteArray, (e13 = Ending.returned (Value.string s15) ∧
                       Calls Try.prog (49 : Nat) (Array.mk []) (w14) (fun e16 w17 =>
                         ∃ l18 : Sl, (e16 = Ending.returned (Value.slice l18.1 l18.2 l18.3) ∧
                          Calls Try.prog (48 : Nat) (Array.mk [Value.string s3, Value.slice l18.1 l18.2 l18.3]) (w17) (fun e19 w20 =>
                            ∃ s21 : ByteArray, (e19 = Ending.returned (Value.string s21) ∧
                             R (Value.bool (ByteArray.toList s15 == ByteArray.toList s21)) w20)))))))) ∧
                  ((ByteArray.toList s9 == ByteArray.toList s12) = false →
                    R (Value.bool false) w11)))))))) ∧
         (b6 = false →
           R (Value.bool false) w5))))))
theorem vc_cartularylaw02_ShaSums_ok {x0 : ByteArray} {w : World} {R : Value → World → Prop} {R' : Ending → World → Prop} (h : vc_cartularylaw02_ShaSums x0 w R) (hR : ∀ v w', R v w' → R' (.returned v) w') :
    Calls Try.prog 11 #[.string x0] w R' :=
  calls_of_body (vs := [(.string x0, false)]) (ty := ty) (ann := ⟨[], [], [], []⟩) (c := Try.f11.body.getD .skip) (by kernel_rfl) Try.func11 (by kernel_rfl) (by kernel_rfl) (Eq.mp (by kernel_rfl) h) hR
/-- cartularylaw02.ShaParts -/
def vc_cartularylaw02_ShaParts (x0a : Option Addr) (x0n : Nat) (x0c : Nat) (w : World) (R : Value → World → Prop) : Prop :=
  ∀ w1 : World,
  (w1 = World.alloc w (Obj.cells (Array.mk [Value.slice none 0 0, Value.string (ByteArray.mk (Array.mk [])), Value.int IntKind.u64 0]) 80) →
    ∀ w2 : World,
    (w2 = World.alloc w1 (Obj.cells (Array.mk [Value.slice none 0 0, Value.string (ByteArray.mk (Array.mk [])), Value.int IntKind.u64 0]) 81) →
      ∃ I3 : ByteArray → World → Prop, ((∃ I4 : ByteArray → Int → World → Prop, ∃ I5 : ByteArray → Int → World → Nat, (I4 (ByteArray.mk (Array.mk [])) 0 w2 ∧
        ∀ s6 : ByteArray,
        ∀ n7 : Int,
        ∀ w8 : World,
        (I4 s6 n7 w8 →
          (((decide (n7 < (↑x0n : Int)) = true →
             (((decide (n7 < 20) = true →
                ((0 ≤ n7 ∧
                  n7 < (↑x0n : Int)) ∧
                 ∃ a9 : Addr, (x0a = some a9 ∧
                  ∃ s10 : ByteArray, (World.cell? w8 (Addr.add a9 (Int.toNat n7 * 1)) = some (Value.string s10) ∧
                   Calls Try.prog (29 : Nat) (Array.mk [Value.string s10, Value.int IntKind.i64 200]) (w8) (fun e11 w12 =>
                     ∃ s13 : ByteArray, (e11 = Ending.returned (Value.string s13) ∧
                      Calls Try.prog (50 : Nat) (Array.mk [Value.pointer (some (Addr.mk (Array.size (World.heap w)) 0 none)), Value.string s13]) (w12) (fun e14 w15 =>
                        (e14 = Ending.returned (Value.tuple (Array.mk [])) ∧
                         Calls Try.prog (51 : Nat) (Array.mk [Value.pointer (some (Addr.mk (Array.size (World.heap w1)) 0 none)), Value.string s13]) (w15) (fun e16 w17 =>
                           (e16 = Ending.returned (Value.tuple (Array.mk [])) ∧
                            (ByteArray.size s6 + ByteArray.size s13 ≤ 9223372036854775807 ∧
                             Calls Try.prog (52 : Nat) (Array.mk [Value.pointer (some (Addr.mk (Array.size (World.heap w)) 0 none))]) (w17) (fun e18 w19 =>
                               ∃ s20 : ByteArray, (e18 = Ending.returned (Value.string s20) ∧
                                Calls Try.prog (45 : Nat) (Array.mk [Value.string (s6 ++ s13)]) (w19) (fun e21 w22 =>
                                  ∃ s23 : ByteArray, (e21 = Ending.returned (Value.string s23) ∧
                                   ((((!ByteArray.toList s20 == ByteArray.toList s23) = true →
                                      R (Value.bool false) w22)) ∧
                                    ((!ByteArray.toList s20 == ByteArray.toList s23) = false →
                                      Calls Try.prog (53 : Nat) (Array.mk [Value.pointer (some (Addr.mk (Array.size (World.heap w1)) 0 none))]) (w22) (fun e24 w25 =>
                                        ∃ s26 : ByteArray, (e24 = Ending.returned (Value.string s26) ∧
                                         Calls Try.prog (47 : Nat) (Array.mk [Value.string (s6 ++ s13)]) (w25) (fun e27 w28 =>
                                           ∃ s29 : ByteArray, (e27 = Ending.returned (Value.string s29) ∧
                                            ((((!ByteArray.toList s26 == ByteArray.toList s29) = true →
                                               R (Value.bool false) w28)) ∧
                                             ((!ByteArray.toList s26 == ByteArray.toList s29) = false →
                                               Calls Try.prog (52 : Nat) (Array.mk [Value.pointer (some (Addr.mk (Array.size (World.heap w)) 0 none))]) (w28) (fun e30 w31 =>
                                                 ∃ s32 : ByteArray, (e30 = Ending.returned (Value.string s32) ∧
                                                  Calls Try.prog (46 : Nat) (Array.mk [Value.string (s6 ++ s13)]) (w31) (fun e33 w34 =>
                                                    ∃ s35 : ByteArray, (e33 = Ending.returned (Value.string s35) ∧
                                                     ((((!ByteArray.toList s32 == ByteArray.toList s35) = true →
                                                        R (Value.bool false) w34)) ∧
                                                      ((!ByteArray.toList s32 == ByteArray.toList s35) = false →
                                                        (I4 (s6 ++ s13) (IntKind.wrap IntKind.i64 (n7 + 1)) w34 ∧
                                                         I5 (s6 ++ s13) (IntKind.wrap IntKind.i64 (n7 + 1)) w34 < I5 s6 n7 w8))))))))))))))))))))))))))))))) ∧
              (decide (n7 < 20) = false →
                I3 s6 w8)))) ∧
           (decide (n7 < (↑x0n : Int)) = false →
             I3 s6 w8))))) ∧
       ∀ s36 : ByteArray,
       ∀ w37 : World,
       (I3 s36 w37 →
         Calls Try.prog (44 : Nat) (Array.mk []) (w37) (fun e38 w39 =>
           ∃ b40 : Bool, (e38 = Ending.returned (Value.bool b40) ∧
            (((b40 = true →
               Calls Try.prog (52 : Nat) (Array.mk [Value.pointer (some (Addr.mk (Array.size (World.heap w)) 0 none))]) (w39) (fun e41 w42 =>
                 ∃ s43 : ByteArray, (e41 = Ending.returned (Value.string s43) ∧
                  Calls Try.prog (45 : Nat) (Array.mk [Value.string s36]) (w42) (fun e44 w45 =>
                    ∃ s46 : ByteArray, (e44 = Ending.returned (Value.string s46) ∧
                     ((((ByteArray.toList s43 == ByteArray.toList s46) = true →
                        Calls Try.prog (53 : Nat) (Array.mk [Value.pointer (some (Addr.mk (Array.size (World.heap w1)) 0 none))]) (w45) (fun e47 w48 =>
                          ∃ s49 : ByteArray, (e47 = Ending.returned (Value.string s49) ∧
                           Calls Try.prog (47 : Nat) (Array.mk [Value.string s36]) (w48) (fun e50 w51 =>
                             ∃ s52 : ByteArray, (e50 = Ending.returned (Value.string s52) ∧
                              R (Value.bool (ByteArray.toList s49 == ByteArray.toList s52)) w51)))))) ∧
                      ((ByteArray.toList s43 == ByteArray.toList s46) = false →
                        R (Value.bool false) w45)))))))) ∧
             (b40 = false →
               R (Value.bool false) w39))))))))
theorem vc_cartularylaw02_ShaParts_ok {x0a : Option Addr} {x0n : Nat} {x0c : Nat} {w : World} {R : Value → World → Prop} {R' : Ending → World → Prop} (h : vc_cartularylaw02_ShaParts x0a x0n x0c w R) (hR : ∀ v w', R v w' → R' (.returned v) w') :
    Calls Try.prog 12 #[.slice x0a x0n x0c] w R' :=
  calls_of_body (vs := [(.slice x0a x0n x0c, false)]) (ty := ty) (ann := ⟨[(13, [(5, .str)])], [(5, [(5, .str), (6, .int .i64)])], [], []⟩) (c := Try.f12.body.getD .skip) (by kernel_rfl) Try.func12 (by kernel_rfl) (by kernel_rfl) (Eq.mp (by kernel_rfl) h) hR
/-- cartularylaw02.ShaAsks -/
def vc_cartularylaw02_ShaAsks (x0a : Option Addr) (x0n : Nat) (x0c : Nat) (x1a : Option Addr) (x1n : Nat) (x1c : Nat) (w : World) (R : Value → World → Prop) : Prop :=
  ∀ w1 : World,
  (w1 = World.alloc w (Obj.cells (Array.mk [Value.slice none 0 0, Value.string (ByteArray.mk (Array.mk [])), Value.int IntKind.u64 0]) 80) →
    ∀ w2 : World,
    (w2 = World.alloc w1 (Obj.cells (Array.mk [Value.slice none 0 0, Value.string (ByteArray.mk (Array.mk [])), Value.int IntKind.u64 0]) 80) →
      ∀ w3 : World,
      (w3 = World.alloc w2 (Obj.cells (Array.mk [Value.slice none 0 0, Value.string (ByteArray.mk (Array.mk [])), Value.int IntKind.u64 0]) 80) →
        ∀ w4 : World,
        (w4 = World.alloc w3 (Obj.cells (Array.mk [Value.slice none 0 0, Value.string (ByteArray.mk (Array.mk [])), Value.int IntKind.u64 0]) 81) →
          ∀ w5 : World,
          (w5 = World.alloc w4 (Obj.cells (Array.mk [Value.slice none 0 0, Value.string (ByteArray.mk (Array.mk [])), Value.int IntKind.u64 0]) 81) →
            ∃ I6 : World → Prop, ((∃ I7 : Int → World → Prop, ∃ I8 : Int → World → Nat, (I7 0 w5 ∧
              ∀ n9 : Int,
              ∀ w10 : World,
              (I7 n9 w10 →
                (((decide (n9 < (↑x0n : Int)) = true →
                   (((decide (n9 < 20) = true →
                      ((0 ≤ n9 ∧
                        n9 < (↑x0n : Int)) ∧
                       ∃ a11 : Addr, (x0a = some a11 ∧
                        ∃ s12 : ByteArray, (World.cell? w10 (Addr.add a11 (Int.toNat n9 * 1)) = some (Value.string s12) ∧
                         Calls Try.prog (29 : Nat) (Array.mk [Value.string s12, Value.int IntKind.i64 200]) (w10) (fun e13 w14 =>
                           ∃ s15 : ByteArray, (e13 = Ending.returned (Value.string s15) ∧
                            Calls Try.prog (50 : Nat) (Array.mk [Value.pointer (some (Addr.mk (Array.size (World.heap w)) 0 none)), Value.string s15]) (w14) (fun e16 w17 =>
                              (e16 = Ending.returned (Value.tuple (Array.mk [])) ∧
                               (ByteArray.size (ByteArray.mk (Array.mk [63])) + ByteArray.size s15 ≤ 9223372036854775807 ∧
                                Calls Try.prog (50 : Nat) (Array.mk [Value.pointer (some (Addr.mk (Array.size (World.heap w2)) 0 none)), Value.string (ByteArray.mk (Array.mk [63]) ++ s15)]) (w17) (fun e18 w19 =>
                                  (e18 = Ending.returned (Value.tuple (Array.mk [])) ∧
                                   Calls Try.prog (50 : Nat) (Array.mk [Value.pointer (some (Addr.mk (Array.size (World.heap w1)) 0 none)), Value.string s15]) (w19) (fun e20 w21 =>
                                     (e20 = Ending.returned (Value.tuple (Array.mk [])) ∧
                                      Calls Try.prog (51 : Nat) (Array.mk [Value.pointer (some (Addr.mk (Array.size (World.heap w3)) 0 none)), Value.string s15]) (w21) (fun e22 w23 =>
                                        (e22 = Ending.returned (Value.tuple (Array.mk [])) ∧
                                         Calls Try.prog (51 : Nat) (Array.mk [Value.pointer (some (Addr.mk (Array.size (World.heap w4)) 0 none)), Value.string s15]) (w23) (fun e24 w25 =>
                                           (e24 = Ending.returned (Value.tuple (Array.mk [])) ∧
                                            (((decide (n9 < (↑x1n : Int)) = true →
                                               ((0 ≤ n9 ∧
                                                 n9 < (↑x1n : Int)) ∧
                                                ∃ a26 : Addr, (x1a = some a26 ∧
                                                 ∃ b27 : Bool, (World.cell? w25 (Addr.add a26 (Int.toNat n9 * 1)) = some (Value.bool b27) ∧
                                                  (((b27 = true →
                                                     Calls Try.prog (52 : Nat) (Array.mk [Value.pointer (some (Addr.mk (Array.size (World.heap w)) 0 none))]) (w25) (fun e28 w29 =>
                                                       ∃ s30 : ByteArray, (e28 = Ending.returned (Value.string s30) ∧
                                                        Calls Try.prog (53 : Nat) (Array.mk [Value.pointer (some (Addr.mk (Array.size (World.heap w3)) 0 none))]) (w29) (fun e31 w32 =>
                                                          ∃ s33 : ByteArray, (e31 = Ending.returned (Value.string s33) ∧
                                                           Calls Try.prog (53 : Nat) (Array.mk [Value.pointer (some (Addr.mk (Array.size (World.heap w3)) 0 none))]) (w32) (fun e34 w35 =>
                                                             ∃ s36 : ByteArray, (e34 = Ending.returned (Value.string s36) ∧
                                                              (I7 (IntKind.wrap IntKind.i64 (n9 + 1)) w35 ∧
                                                               I8 (IntKind.wrap IntKind.i64 (n9 + 1)) w35 < I8 n9 w10))))))))) ∧
                                                   (b27 = false →
                                                     (I7 (IntKind.wrap IntKind.i64 (n9 + 1)) w25 ∧
                                                      I8 (IntKind.wrap IntKind.i64 (n9 + 1)) w25 < I8 n9 w10)))))))) ∧
                                             (decide (n9 < (↑x1n : Int)) = false →
                                               (I7 (IntKind.wrap IntKind.i64 (n9 + 1)) w25 ∧
                                                I8 (IntKind.wrap IntKind.i64 (n9 + 1)) w25 < I8 n9 w10))))))))))))))))))))) ∧
                    (decide (n9 < 20) = false →
                      I6 w10)))) ∧
                 (decide (n9 < (↑x0n : Int)) = false →
                   I6 w10))))) ∧
             ∀ w37 : World,
             (I6 w37 →
               Calls Try.prog (44 : Nat) (Array.mk []) (w37) (fun e38 w39 =>
                 ∃ b40 : Bool, (e38 = Ending.returned (Value.bool b40) ∧
                  (((b40 = true →
                     Calls Try.prog (52 : Nat) (Array.mk [Value.pointer (some (Addr.mk (Array.size (World.heap w)) 0 none))]) (w39) (fun e41 w42 =>
                       ∃ s43 : ByteArray, (e41 = Ending.returned (Value.string s43) ∧
                        Calls Try.prog (52 : Nat) (Array.mk [Value.pointer (some (Addr.mk (Array.size (World.heap w1)) 0 none))]) (w42) (fun e44 w45 =>
                          ∃ s46 : ByteArray, (e44 = Ending.returned (Value.string s46) ∧
                           ((((ByteArray.toList s43 == ByteArray.toList s46) = true →
                              Calls Try.prog (53 : Nat) (Array.mk [Value.pointer (some (Addr.mk (Array.size (World.heap w3)) 0 none))]) (w45) (fun e47 w48 =>
                                ∃ s49 : ByteArray, (e47 = Ending.returned (Value.string s49) ∧
                                 Calls Try.prog (53 : Nat) (Array.mk [Value.pointer (some (Addr.mk (Array.size (World.heap w4)) 0 none))]) (w48) (fun e50 w51 =>
                                   ∃ s52 : ByteArray, (e50 = Ending.returned (Value.string s52) ∧
                                    ((((ByteArray.toList s49 == ByteArray.toList s52) = true →
                                       Calls Try.prog (52 : Nat) (Array.mk [Value.pointer (some (Addr.mk (Array.size (World.heap w)) 0 none))]) (w51) (fun e53 w54 =>
                                         ∃ s55 : ByteArray, (e53 = Ending.returned (Value.string s55) ∧
                                          (((((↑(ByteArray.size s55) : Int) == 20) = true →
                                             Calls Try.prog (53 : Nat) (Array.mk [Value.pointer (some (Addr.mk (Array.size (World.heap w3)) 0 none))]) (w54) (fun e56 w57 =>
                                               ∃ s58 : ByteArray, (e56 = Ending.returned (Value.string s58) ∧
                                                R (Value.bool ((↑(ByteArray.size s58) : Int) == 32)) w57)))) ∧
                                           (((↑(ByteArray.size s55) : Int) == 20) = false →
                                             R (Value.bool false) w54)))))) ∧
                                     ((ByteArray.toList s49 == ByteArray.toList s52) = false →
                                       R (Value.bool false) w51)))))))) ∧
                            ((ByteArray.toList s43 == ByteArray.toList s46) = false →
                              R (Value.bool false) w45)))))))) ∧
                   (b40 = false →
                     R (Value.bool false) w39)))))))))))
theorem vc_cartularylaw02_ShaAsks_ok {x0a : Option Addr} {x0n : Nat} {x0c : Nat} {x1a : Option Addr} {x1n : Nat} {x1c : Nat} {w : World} {R : Value → World → Prop} {R' : Ending → World → Prop} (h : vc_cartularylaw02_ShaAsks x0a x0n x0c x1a x1n x1c w R) (hR : ∀ v w', R v w' → R' (.returned v) w') :
    Calls Try.prog 13 #[.slice x0a x0n x0c, .slice x1a x1n x1c] w R' :=
  calls_of_body (vs := [(.slice x0a x0n x0c, false), (.slice x1a x1n x1c, false)]) (ty := ty) (ann := ⟨[(16, [])], [(4, [(10, .int .i64)])], [], []⟩) (c := Try.f13.body.getD .skip) (by kernel_rfl) Try.func13 (by kernel_rfl) (by kernel_rfl) (Eq.mp (by kernel_rfl) h) hR
end Go.Proofs.Ytcboiljbkkleiaa

/- Formulas of 3 Go functions of this seat (written by a program of the author's, vcgen.py), and that each is enough for the call. No condition. -/
import Derived.Test.YtmhlmdnhpfhoeaaDoorTy
import Derived.Test.YtmhlmdnhpfhoeaaDoorProg
set_option linter.unusedVariables false
namespace Go.Proofs.YtmhlmdnhpfhoeaaDoor
open Go Vc Go.Proofs
set_option maxRecDepth 100000
/-- cartularylaw16.awake -/
def vc_cartularylaw16_awake (w : World) (R : Value → World → Prop) : Prop :=
  (ByteArray.size (ByteArray.mk (Array.mk [(35 : UInt8), (32 : UInt8), (120 : UInt8), (10 : UInt8)])) + ByteArray.size (ByteArray.mk (Array.mk [(52 : UInt8), (98 : UInt8), (56 : UInt8), (50 : UInt8), (53 : UInt8), (100 : UInt8), (99 : UInt8), (54 : UInt8), (52 : UInt8), (50 : UInt8), (99 : UInt8), (98 : UInt8), (54 : UInt8), (101 : UInt8), (98 : UInt8), (57 : UInt8), (97 : UInt8), (48 : UInt8), (54 : UInt8), (48 : UInt8), (101 : UInt8), (53 : UInt8), (52 : UInt8), (98 : UInt8), (102 : UInt8), (56 : UInt8), (100 : UInt8), (54 : UInt8), (57 : UInt8), (50 : UInt8), (56 : UInt8), (56 : UInt8), (102 : UInt8), (98 : UInt8), (101 : UInt8), (101 : UInt8), (52 : UInt8), (57 : UInt8), (48 : UInt8), (52 : UInt8)])) ≤ (9223372036854775807 : Nat) ∧
   (ByteArray.size (ByteArray.mk (Array.mk [(35 : UInt8), (32 : UInt8), (120 : UInt8), (10 : UInt8)]) ++ ByteArray.mk (Array.mk [(52 : UInt8), (98 : UInt8), (56 : UInt8), (50 : UInt8), (53 : UInt8), (100 : UInt8), (99 : UInt8), (54 : UInt8), (52 : UInt8), (50 : UInt8), (99 : UInt8), (98 : UInt8), (54 : UInt8), (101 : UInt8), (98 : UInt8), (57 : UInt8), (97 : UInt8), (48 : UInt8), (54 : UInt8), (48 : UInt8), (101 : UInt8), (53 : UInt8), (52 : UInt8), (98 : UInt8), (102 : UInt8), (56 : UInt8), (100 : UInt8), (54 : UInt8), (57 : UInt8), (50 : UInt8), (56 : UInt8), (56 : UInt8), (102 : UInt8), (98 : UInt8), (101 : UInt8), (101 : UInt8), (52 : UInt8), (57 : UInt8), (48 : UInt8), (52 : UInt8)])) + ByteArray.size (ByteArray.mk (Array.mk [(32 : UInt8), (114 : UInt8), (101 : UInt8), (102 : UInt8), (115 : UInt8), (47 : UInt8), (104 : UInt8), (101 : UInt8), (97 : UInt8), (100 : UInt8), (115 : UInt8), (47 : UInt8), (109 : UInt8), (97 : UInt8), (105 : UInt8), (110 : UInt8), (10 : UInt8)])) ≤ (9223372036854775807 : Nat) ∧
    ∀ w1 : World,
    (w1 = World.alloc w (Obj.cells (Array.mk [Value.string (ByteArray.mk (Array.mk [72, 69, 65, 68])), Value.string (ByteArray.mk (Array.mk [114, 101, 102, 58, 32, 114, 101, 102, 115, 47, 104, 101, 97, 100, 115, 47, 109, 97, 105, 110, 10])), Value.string (ByteArray.mk (Array.mk [112, 97, 99, 107, 101, 100, 45, 114, 101, 102, 115])), Value.string (ByteArray.mk (Array.mk [35, 32, 120, 10]) ++ ByteArray.mk (Array.mk [52, 98, 56, 50, 53, 100, 99, 54, 52, 50, 99, 98, 54, 101, 98, 57, 97, 48, 54, 48, 101, 53, 52, 98, 102, 56, 100, 54, 57, 50, 56, 56, 102, 98, 101, 101, 52, 57, 48, 52]) ++ ByteArray.mk (Array.mk [32, 114, 101, 102, 115, 47, 104, 101, 97, 100, 115, 47, 109, 97, 105, 110, 10]))]) 39) →
      Calls Tryd.prog (19 : Nat) (Array.mk [Value.slice (some (Addr.mk (Array.size (World.heap w)) 0 none)) 2 2]) (w1) (fun e2 w3 =>
        ∃ p4 : Option Addr, ∃ n5 : Int, (e2 = Ending.returned (Value.tuple (Array.mk [Value.pointer p4, Value.int IntKind.i64 n5])) ∧
         ((((n5 != 0) = true →
            R (Value.bool false) w3)) ∧
          ((n5 != 0) = false →
            (((Option.isNone p4 = true →
               R (Value.bool false) w3)) ∧
             (Option.isNone p4 = false →
               Calls Tryd.prog (20 : Nat) (Array.mk [Value.pointer p4]) (w3) (fun e6 w7 =>
                 ∃ p8 : Option Addr, ∃ n9 : Int, (e6 = Ending.returned (Value.tuple (Array.mk [Value.pointer p8, Value.int IntKind.i64 n9])) ∧
                  ((((n9 != 0) = true →
                     R (Value.bool false) w7)) ∧
                   ((n9 != 0) = false →
                     (((Option.isNone p8 = true →
                        R (Value.bool false) w7)) ∧
                      (Option.isNone p8 = false →
                        Calls Tryd.prog (21 : Nat) (Array.mk [Value.pointer p8, Value.string (ByteArray.mk (Array.mk [72, 69, 65, 68]))]) (w7) (fun e10 w11 =>
                          ∃ s12 : ByteArray, ∃ n13 : Int, (e10 = Ending.returned (Value.tuple (Array.mk [Value.string s12, Value.int IntKind.i64 n13])) ∧
                           ((((n13 == 0) = true →
                              R (Value.bool (ByteArray.toList s12 == ByteArray.toList (ByteArray.mk (Array.mk [52, 98, 56, 50, 53, 100, 99, 54, 52, 50, 99, 98, 54, 101, 98, 57, 97, 48, 54, 48, 101, 53, 52, 98, 102, 56, 100, 54, 57, 50, 56, 56, 102, 98, 101, 101, 52, 57, 48, 52])))) w11)) ∧
                            ((n13 == 0) = false →
                              R (Value.bool false) w11)))))))))))))))))))
theorem vc_cartularylaw16_awake_ok {w : World} {R : Value → World → Prop} {R' : Ending → World → Prop} (h : vc_cartularylaw16_awake w R) (hR : ∀ v w', R v w' → R' (.returned v) w') :
    Calls Tryd.prog 18 #[] w R' :=
  calls_of_body (vs := []) (ty := ty) (ann := ⟨[], [], [], []⟩) (c := Tryd.f18.body.getD .skip) (by kernel_rfl) Tryd.func18 (by kernel_rfl) (by kernel_rfl) (Eq.mp (by kernel_rfl) h) hR
/-- cartularylaw16.RefsHops -/
def vc_cartularylaw16_RefsHops (x0 : Int) (x1 : Bool) (w : World) (R : Value → World → Prop) : Prop :=
  (((decide (x0 < 0) = true →
     Calls Tryd.prog (18 : Nat) (Array.mk []) (w) (fun e1 w2 =>
       ∃ b3 : Bool, (e1 = Ending.returned (Value.bool b3) ∧
        R (Value.bool b3) w2)))) ∧
   (decide (x0 < 0) = false →
     (((decide (x0 > 30) = true →
        Calls Tryd.prog (18 : Nat) (Array.mk []) (w) (fun e4 w5 =>
          ∃ b6 : Bool, (e4 = Ending.returned (Value.bool b6) ∧
           R (Value.bool b6) w5)))) ∧
      (decide (x0 > 30) = false →
        ∀ w7 : World,
        (w7 = World.alloc w (Obj.cells (Array.mk []) 39) →
          ∃ I8 : Sl → ByteArray → Int → World → Prop, ∃ I9 : Sl → ByteArray → Int → World → Nat, (I8 (Sl.mk (some (Addr.mk (Array.size (World.heap w)) 0 none)) 0 0) (ByteArray.mk (Array.mk [72, 69, 65, 68])) 0 w7 ∧
           ∀ l10 : Sl,
           ∀ s11 : ByteArray,
           ∀ n12 : Int,
           ∀ w13 : World,
           (I8 l10 s11 n12 w13 →
             (((decide (n12 < x0) = true →
                ∀ w14 : World,
                (w14 = World.alloc w13 (Obj.cells (Array.mk [Value.int IntKind.u8 (IntKind.wrap IntKind.u8 (IntKind.wrap IntKind.i64 (97 + n12)))]) 5) →
                  ∃ w15 : World, ∃ s16 : ByteArray, (Sem.run Tryd.prog (convert 37 9 (Value.slice (some (Addr.mk (Array.size (World.heap w13)) 0 none)) 1 1)) w14 = Result.ok (Value.string s16) w15 ∧
                   (ByteArray.size (ByteArray.mk (Array.mk [114, 101, 102, 115, 47, 104, 101, 97, 100, 115, 47, 98])) + ByteArray.size s16 ≤ 9223372036854775807 ∧
                    (ByteArray.size (ByteArray.mk (Array.mk [114, 101, 102, 58, 32])) + ByteArray.size (ByteArray.mk (Array.mk [114, 101, 102, 115, 47, 104, 101, 97, 100, 115, 47, 98]) ++ s16) ≤ 9223372036854775807 ∧
                     (ByteArray.size (ByteArray.mk (Array.mk [114, 101, 102, 58, 32]) ++ (ByteArray.mk (Array.mk [114, 101, 102, 115, 47, 104, 101, 97, 100, 115, 47, 98]) ++ s16)) + ByteArray.size (ByteArray.mk (Array.mk [10])) ≤ 9223372036854775807 ∧
                      ∀ w17 : World,
                      (w17 = World.alloc w15 (Obj.cells (Array.mk [Value.string s11, Value.string (ByteArray.mk (Array.mk [114, 101, 102, 58, 32]) ++ (ByteArray.mk (Array.mk [114, 101, 102, 115, 47, 104, 101, 97, 100, 115, 47, 98]) ++ s16) ++ ByteArray.mk (Array.mk [10]))]) 39) →
                        ∃ w18 : World, ∃ l19 : Sl, (Sem.run Tryd.prog (Builtin.append_ (Array.mk [36, 36]) 36 (Array.mk [Value.slice l10.1 l10.2 l10.3, Value.slice (some (Addr.mk (Array.size (World.heap w15)) 0 none)) 1 1])) w17 = Result.ok (Value.slice l19.1 l19.2 l19.3) w18 ∧
                         (I8 (Sl.mk l19.1 l19.2 l19.3) (ByteArray.mk (Array.mk [114, 101, 102, 115, 47, 104, 101, 97, 100, 115, 47, 98]) ++ s16) (IntKind.wrap IntKind.i64 (n12 + 1)) w18 ∧
                          I9 (Sl.mk l19.1 l19.2 l19.3) (ByteArray.mk (Array.mk [114, 101, 102, 115, 47, 104, 101, 97, 100, 115, 47, 98]) ++ s16) (IntKind.wrap IntKind.i64 (n12 + 1)) w18 < I9 l10 s11 n12 w13)))))))))) ∧
              (decide (n12 < x0) = false →
                (ByteArray.size (ByteArray.mk (Array.mk [(52 : UInt8), (98 : UInt8), (56 : UInt8), (50 : UInt8), (53 : UInt8), (100 : UInt8), (99 : UInt8), (54 : UInt8), (52 : UInt8), (50 : UInt8), (99 : UInt8), (98 : UInt8), (54 : UInt8), (101 : UInt8), (98 : UInt8), (57 : UInt8), (97 : UInt8), (48 : UInt8), (54 : UInt8), (48 : UInt8), (101 : UInt8), (53 : UInt8), (52 : UInt8), (98 : UInt8), (102 : UInt8), (56 : UInt8), (100 : UInt8), (54 : UInt8), (57 : UInt8), (50 : UInt8), (56 : UInt8), (56 : UInt8), (102 : UInt8), (98 : UInt8), (101 : UInt8), (101 : UInt8), (52 : UInt8), (57 : UInt8), (48 : UInt8), (52 : UInt8)])) + ByteArray.size (ByteArray.mk (Array.mk [(10 : UInt8)])) ≤ (9223372036854775807 : Nat) ∧
                 ∃ I20 : ByteArray → World → Prop, ((((x1 = true →
                     I20 (ByteArray.mk (Array.mk [114, 101, 102, 58, 32, 72, 69, 65, 68, 10])) w13)) ∧
                   (x1 = false →
                     I20 (ByteArray.mk (Array.mk [52, 98, 56, 50, 53, 100, 99, 54, 52, 50, 99, 98, 54, 101, 98, 57, 97, 48, 54, 48, 101, 53, 52, 98, 102, 56, 100, 54, 57, 50, 56, 56, 102, 98, 101, 101, 52, 57, 48, 52]) ++ ByteArray.mk (Array.mk [10])) w13)) ∧
                  ∀ s21 : ByteArray,
                  ∀ w22 : World,
                  (I20 s21 w22 →
                    ∀ w23 : World,
                    (w23 = World.alloc w22 (Obj.cells (Array.mk [Value.string s11, Value.string s21]) 39) →
                      ∃ w24 : World, ∃ l25 : Sl, (Sem.run Tryd.prog (Builtin.append_ (Array.mk [36, 36]) 36 (Array.mk [Value.slice l10.1 l10.2 l10.3, Value.slice (some (Addr.mk (Array.size (World.heap w22)) 0 none)) 1 1])) w23 = Result.ok (Value.slice l25.1 l25.2 l25.3) w24 ∧
                       Calls Tryd.prog (19 : Nat) (Array.mk [Value.slice l25.1 l25.2 l25.3]) (w24) (fun e26 w27 =>
                         ∃ p28 : Option Addr, ∃ n29 : Int, (e26 = Ending.returned (Value.tuple (Array.mk [Value.pointer p28, Value.int IntKind.i64 n29])) ∧
                          ((((n29 != 0) = true →
                             R (Value.bool false) w27)) ∧
                           ((n29 != 0) = false →
                             (((Option.isNone p28 = true →
                                R (Value.bool false) w27)) ∧
                              (Option.isNone p28 = false →
                                Calls Tryd.prog (20 : Nat) (Array.mk [Value.pointer p28]) (w27) (fun e30 w31 =>
                                  ∃ p32 : Option Addr, ∃ n33 : Int, (e30 = Ending.returned (Value.tuple (Array.mk [Value.pointer p32, Value.int IntKind.i64 n33])) ∧
                                   ((((n33 != 0) = true →
                                      R (Value.bool false) w31)) ∧
                                    ((n33 != 0) = false →
                                      (((Option.isNone p32 = true →
                                         R (Value.bool false) w31)) ∧
                                       (Option.isNone p32 = false →
                                         Calls Tryd.prog (21 : Nat) (Array.mk [Value.pointer p32, Value.string (ByteArray.mk (Array.mk [72, 69, 65, 68]))]) (w31) (fun e34 w35 =>
                                           ∃ s36 : ByteArray, ∃ n37 : Int, (e34 = Ending.returned (Value.tuple (Array.mk [Value.string s36, Value.int IntKind.i64 n37])) ∧
                                            (((x1 = true →
                                               Calls Tryd.prog (18 : Nat) (Array.mk []) (w35) (fun e38 w39 =>
                                                 ∃ b40 : Bool, (e38 = Ending.returned (Value.bool b40) ∧
                                                  (((b40 = true →
                                                     ((((n37 == 9) = true →
                                                        R (Value.bool (ByteArray.toList s36 == ByteArray.toList (ByteArray.mk (Array.mk [])))) w39)) ∧
                                                      ((n37 == 9) = false →
                                                        R (Value.bool false) w39)))) ∧
                                                   (b40 = false →
                                                     R (Value.bool false) w39)))))) ∧
                                             (x1 = false →
                                               (((decide (x0 > 5) = true →
                                                  Calls Tryd.prog (18 : Nat) (Array.mk []) (w35) (fun e41 w42 =>
                                                    ∃ b43 : Bool, (e41 = Ending.returned (Value.bool b43) ∧
                                                     (((b43 = true →
                                                        ((((n37 == 9) = true →
                                                           R (Value.bool (ByteArray.toList s36 == ByteArray.toList (ByteArray.mk (Array.mk [])))) w42)) ∧
                                                         ((n37 == 9) = false →
                                                           R (Value.bool false) w42)))) ∧
                                                      (b43 = false →
                                                        R (Value.bool false) w42)))))) ∧
                                                (decide (x0 > 5) = false →
                                                  Calls Tryd.prog (18 : Nat) (Array.mk []) (w35) (fun e44 w45 =>
                                                    ∃ b46 : Bool, (e44 = Ending.returned (Value.bool b46) ∧
                                                     (((b46 = true →
                                                        ((((n37 == 0) = true →
                                                           R (Value.bool (ByteArray.toList s36 == ByteArray.toList (ByteArray.mk (Array.mk [52, 98, 56, 50, 53, 100, 99, 54, 52, 50, 99, 98, 54, 101, 98, 57, 97, 48, 54, 48, 101, 53, 52, 98, 102, 56, 100, 54, 57, 50, 56, 56, 102, 98, 101, 101, 52, 57, 48, 52])))) w45)) ∧
                                                         ((n37 == 0) = false →
                                                           R (Value.bool false) w45)))) ∧
                                                      (b46 = false →
                                                        R (Value.bool false) w45))))))))))))))))))))))))))))))))))))
theorem vc_cartularylaw16_RefsHops_ok {x0 : Int} {x1 : Bool} {w : World} {R : Value → World → Prop} {R' : Ending → World → Prop} (h : vc_cartularylaw16_RefsHops x0 x1 w R) (hR : ∀ v w', R v w' → R' (.returned v) w') :
    Calls Tryd.prog 6 #[.int .i64 x0, .bool x1] w R' :=
  calls_of_body (vs := [(.int .i64 x0, false), (.bool x1, false)]) (ty := ty) (ann := ⟨[(15, [(10, .str)])], [(7, [(6, .slice), (7, .str), (8, .int .i64)])], [], []⟩) (c := Tryd.f6.body.getD .skip) (by kernel_rfl) Tryd.func6 (by kernel_rfl) (by kernel_rfl) (Eq.mp (by kernel_rfl) h) hR
/-- cartularylaw16.RefsNames -/
def vc_cartularylaw16_RefsNames (x0 : ByteArray) (x1 : ByteArray) (w : World) (R : Value → World → Prop) : Prop :=
  ∃ I1 : Bool → World → Prop, ((ByteArray.size (ByteArray.mk (Array.mk [114, 101, 102, 115, 47])) + ByteArray.size x0 ≤ 9223372036854775807 ∧
    Calls Tryd.prog (22 : Nat) (Array.mk [Value.string (ByteArray.mk (Array.mk [114, 101, 102, 115, 47]) ++ x0)]) (w) (fun e2 w3 =>
      ∃ b4 : Bool, (e2 = Ending.returned (Value.bool b4) ∧
       ((((!b4) = true →
          I1 true w3)) ∧
        ((!b4) = false →
          (ByteArray.size (ByteArray.mk (Array.mk [114, 101, 102, 115, 47])) + ByteArray.size x1 ≤ 9223372036854775807 ∧
           Calls Tryd.prog (22 : Nat) (Array.mk [Value.string (ByteArray.mk (Array.mk [114, 101, 102, 115, 47]) ++ x1)]) (w3) (fun e5 w6 =>
             ∃ b7 : Bool, (e5 = Ending.returned (Value.bool b7) ∧
              I1 (!b7) w6)))))))) ∧
   ∀ b8 : Bool,
   ∀ w9 : World,
   (I1 b8 w9 →
     (((b8 = true →
        Calls Tryd.prog (18 : Nat) (Array.mk []) (w9) (fun e10 w11 =>
          ∃ b12 : Bool, (e10 = Ending.returned (Value.bool b12) ∧
           (((b12 = true →
              (ByteArray.size (ByteArray.mk (Array.mk [114, 101, 102, 115, 47])) + ByteArray.size x0 ≤ 9223372036854775807 ∧
               Calls Tryd.prog (23 : Nat) (Array.mk [Value.string (ByteArray.mk (Array.mk [114, 101, 102, 115, 47]) ++ x0)]) (w11) (fun e13 w14 =>
                 ∃ b15 : Bool, (e13 = Ending.returned (Value.bool b15) ∧
                  (ByteArray.size (ByteArray.mk (Array.mk [114, 101, 102, 115, 47])) + ByteArray.size x0 ≤ 9223372036854775807 ∧
                   Calls Tryd.prog (22 : Nat) (Array.mk [Value.string (ByteArray.mk (Array.mk [114, 101, 102, 115, 47]) ++ x0)]) (w14) (fun e16 w17 =>
                     ∃ b18 : Bool, (e16 = Ending.returned (Value.bool b18) ∧
                      R (Value.bool (b15 == b18)) w17)))))))) ∧
            (b12 = false →
              R (Value.bool false) w11)))))) ∧
      (b8 = false →
        Calls Tryd.prog (18 : Nat) (Array.mk []) (w9) (fun e19 w20 =>
          ∃ b21 : Bool, (e19 = Ending.returned (Value.bool b21) ∧
           (((b21 = true →
              (ByteArray.size (ByteArray.mk (Array.mk [114, 101, 102, 115, 47])) + ByteArray.size x0 ≤ 9223372036854775807 ∧
               (ByteArray.size (ByteArray.mk (Array.mk [114, 101, 102, 115, 47]) ++ x0) + ByteArray.size (ByteArray.mk (Array.mk [47])) ≤ 9223372036854775807 ∧
                (ByteArray.size (ByteArray.mk (Array.mk [114, 101, 102, 115, 47]) ++ x0 ++ ByteArray.mk (Array.mk [47])) + ByteArray.size x1 ≤ 9223372036854775807 ∧
                 Calls Tryd.prog (22 : Nat) (Array.mk [Value.string (ByteArray.mk (Array.mk [114, 101, 102, 115, 47]) ++ x0 ++ ByteArray.mk (Array.mk [47]) ++ x1)]) (w20) (fun e22 w23 =>
                   ∃ b24 : Bool, (e22 = Ending.returned (Value.bool b24) ∧
                    ((((b24 == decide (IntKind.wrap IntKind.i64 (IntKind.wrap IntKind.i64 ((↑(ByteArray.size x0) : Int) + (↑(ByteArray.size x1) : Int)) + 6) ≤ 200)) = true →
                       (ByteArray.size (ByteArray.mk (Array.mk [114, 101, 102, 115, 47])) + ByteArray.size x0 ≤ 9223372036854775807 ∧
                        (ByteArray.size (ByteArray.mk (Array.mk [114, 101, 102, 115, 47]) ++ x0) + ByteArray.size (ByteArray.mk (Array.mk [46, 46])) ≤ 9223372036854775807 ∧
                         Calls Tryd.prog (22 : Nat) (Array.mk [Value.string (ByteArray.mk (Array.mk [114, 101, 102, 115, 47]) ++ x0 ++ ByteArray.mk (Array.mk [46, 46]))]) (w23) (fun e25 w26 =>
                           ∃ b27 : Bool, (e25 = Ending.returned (Value.bool b27) ∧
                            ((((!b27) = true →
                               (ByteArray.size (ByteArray.mk (Array.mk [114, 101, 102, 115, 47])) + ByteArray.size x0 ≤ 9223372036854775807 ∧
                                (ByteArray.size (ByteArray.mk (Array.mk [114, 101, 102, 115, 47]) ++ x0) + ByteArray.size (ByteArray.mk (Array.mk [46, 108, 111, 99, 107])) ≤ 9223372036854775807 ∧
                                 Calls Tryd.prog (22 : Nat) (Array.mk [Value.string (ByteArray.mk (Array.mk [114, 101, 102, 115, 47]) ++ x0 ++ ByteArray.mk (Array.mk [46, 108, 111, 99, 107]))]) (w26) (fun e28 w29 =>
                                   ∃ b30 : Bool, (e28 = Ending.returned (Value.bool b30) ∧
                                    R (Value.bool !b30) w29)))))) ∧
                             ((!b27) = false →
                               R (Value.bool false) w26)))))))) ∧
                     ((b24 == decide (IntKind.wrap IntKind.i64 (IntKind.wrap IntKind.i64 ((↑(ByteArray.size x0) : Int) + (↑(ByteArray.size x1) : Int)) + 6) ≤ 200)) = false →
                       R (Value.bool false) w23))))))))) ∧
            (b21 = false →
              R (Value.bool false) w20))))))))
theorem vc_cartularylaw16_RefsNames_ok {x0 : ByteArray} {x1 : ByteArray} {w : World} {R : Value → World → Prop} {R' : Ending → World → Prop} (h : vc_cartularylaw16_RefsNames x0 x1 w R) (hR : ∀ v w', R v w' → R' (.returned v) w') :
    Calls Tryd.prog 7 #[.string x0, .string x1] w R' :=
  calls_of_body (vs := [(.string x0, false), (.string x1, false)]) (ty := ty) (ann := ⟨[(2, [(14, .bool)])], [], [], []⟩) (c := Tryd.f7.body.getD .skip) (by kernel_rfl) Tryd.func7 (by kernel_rfl) (by kernel_rfl) (Eq.mp (by kernel_rfl) h) hR
end Go.Proofs.YtmhlmdnhpfhoeaaDoor

/- Formulas of 4 Go functions of this seat (written by a program of the author's, vcgen.py), and that each is enough for the call. No condition. -/
import Derived.Test.YtmhlmdnhpfhoeaaGreatDoorTy
import Derived.Test.YtmhlmdnhpfhoeaaGreatDoorProg
set_option linter.unusedVariables false
namespace Go.Proofs.YtmhlmdnhpfhoeaaGreatDoor
open Go Vc Go.Proofs
set_option maxRecDepth 100000
/-- cartularyref16.Open -/
def vc_cartularyref16_Open (x0a : Option Addr) (x0n : Nat) (x0c : Nat) (w : World) (R : Value → World → Prop) : Prop :=
  Calls Tryz.prog (32 : Nat) (Array.mk [Value.slice x0a x0n x0c, Value.string (ByteArray.mk (Array.mk [112, 97, 99, 107, 101, 100, 45, 114, 101, 102, 115]))]) (w) (fun e1 w2 =>
    ∃ s3 : ByteArray, ∃ b4 : Bool, (e1 = Ending.returned (Value.tuple (Array.mk [Value.string s3, Value.bool b4])) ∧
     ∀ w5 : World,
     (w5 = World.alloc w2 (Obj.cells (Array.mk []) 69) →
       ∃ I6 : ByteArray → Sl → World → Prop, ∃ I7 : ByteArray → Sl → World → Nat, (I6 s3 (Sl.mk (some (Addr.mk (Array.size (World.heap w2)) 0 none)) 0 0) w5 ∧
        ∀ s8 : ByteArray,
        ∀ l9 : Sl,
        ∀ w10 : World,
        (I6 s8 l9 w10 →
          (((b4 = true →
             ((((!ByteArray.toList s8 == ByteArray.toList (ByteArray.mk (Array.mk []))) = true →
                Calls Tryz.prog (33 : Nat) (Array.mk [Value.string s8, Value.int IntKind.u8 10]) (w10) (fun e11 w12 =>
                  ∃ n13 : Int, (e11 = Ending.returned (Value.int IntKind.i64 n13) ∧
                   (((decide (n13 < 0) = true →
                      R (Value.tuple (Array.mk [Value.slice none 0 0, Value.int IntKind.i64 3])) w12)) ∧
                    (decide (n13 < 0) = false →
                      ((0 ≤ n13 ∧
                        n13 ≤ (↑(ByteArray.size s8) : Int)) ∧
                       ((0 ≤ IntKind.wrap IntKind.i64 (n13 + 1) ∧
                         IntKind.wrap IntKind.i64 (n13 + 1) ≤ (↑(ByteArray.size s8) : Int)) ∧
                        Calls Tryz.prog (34 : Nat) (Array.mk [Value.string (ByteArray.extract s8 0 (Int.toNat n13)), Value.string (ByteArray.mk (Array.mk [35]))]) (w12) (fun e14 w15 =>
                          ∃ b16 : Bool, (e14 = Ending.returned (Value.bool b16) ∧
                           (((b16 = true →
                              (I6 (ByteArray.extract s8 (Int.toNat (IntKind.wrap IntKind.i64 (n13 + 1))) (ByteArray.size s8)) (Sl.mk l9.1 l9.2 l9.3) w15 ∧
                               I7 (ByteArray.extract s8 (Int.toNat (IntKind.wrap IntKind.i64 (n13 + 1))) (ByteArray.size s8)) (Sl.mk l9.1 l9.2 l9.3) w15 < I7 s8 l9 w10))) ∧
                            (b16 = false →
                              Calls Tryz.prog (34 : Nat) (Array.mk [Value.string (ByteArray.extract s8 0 (Int.toNat n13)), Value.string (ByteArray.mk (Array.mk [94]))]) (w15) (fun e17 w18 =>
                                ∃ b19 : Bool, (e17 = Ending.returned (Value.bool b19) ∧
                                 (((b19 = true →
                                    (((((↑l9.2 : Int) == 0) = true →
                                       R (Value.tuple (Array.mk [Value.slice none 0 0, Value.int IntKind.i64 3])) w18)) ∧
                                     (((↑l9.2 : Int) == 0) = false →
                                       ((0 ≤ IntKind.wrap IntKind.i64 ((↑l9.2 : Int) - 1) ∧
                                         IntKind.wrap IntKind.i64 ((↑l9.2 : Int) - 1) < (↑l9.2 : Int)) ∧
                                        ∃ a20 : Addr, (l9.1 = some a20 ∧
                                         ∃ s21 : ByteArray, (World.cell? w18 (Addr.add (Addr.add a20 (Int.toNat (IntKind.wrap IntKind.i64 ((↑l9.2 : Int) - 1)) * 3)) 2) = some (Value.string s21) ∧
                                          ((((!ByteArray.toList s21 == ByteArray.toList (ByteArray.mk (Array.mk []))) = true →
                                             R (Value.tuple (Array.mk [Value.slice none 0 0, Value.int IntKind.i64 3])) w18)) ∧
                                           ((!ByteArray.toList s21 == ByteArray.toList (ByteArray.mk (Array.mk []))) = false →
                                             (((0 : Int) ≤ (1 : Int) ∧
                                               1 ≤ (↑(ByteArray.size (ByteArray.extract s8 0 (Int.toNat n13))) : Int)) ∧
                                              Calls Tryz.prog (19 : Nat) (Array.mk [Value.string (ByteArray.extract (ByteArray.extract s8 0 (Int.toNat n13)) (Int.toNat 1) (ByteArray.size (ByteArray.extract s8 0 (Int.toNat n13))))]) (w18) (fun e22 w23 =>
                                                ∃ b24 : Bool, (e22 = Ending.returned (Value.bool b24) ∧
                                                 ((((!b24) = true →
                                                    R (Value.tuple (Array.mk [Value.slice none 0 0, Value.int IntKind.i64 3])) w23)) ∧
                                                  ((!b24) = false →
                                                    (((0 : Int) ≤ (1 : Int) ∧
                                                      1 ≤ (↑(ByteArray.size (ByteArray.extract s8 0 (Int.toNat n13))) : Int)) ∧
                                                     ((0 ≤ IntKind.wrap IntKind.i64 ((↑l9.2 : Int) - 1) ∧
                                                       IntKind.wrap IntKind.i64 ((↑l9.2 : Int) - 1) < (↑l9.2 : Int)) ∧
                                                      ∃ a25 : Addr, (l9.1 = some a25 ∧
                                                       (Wr w23 (Addr.add (Addr.add a25 (Int.toNat (IntKind.wrap IntKind.i64 ((↑l9.2 : Int) - 1)) * 3)) 2) ∧
                                                        ∀ w26 : World,
                                                        (w26 = World.setCell w23 (Addr.add (Addr.add a25 (Int.toNat (IntKind.wrap IntKind.i64 ((↑l9.2 : Int) - 1)) * 3)) 2) (Value.string (ByteArray.extract (ByteArray.extract s8 0 (Int.toNat n13)) (Int.toNat 1) (ByteArray.size (ByteArray.extract s8 0 (Int.toNat n13))))) →
                                                          (I6 (ByteArray.extract s8 (Int.toNat (IntKind.wrap IntKind.i64 (n13 + 1))) (ByteArray.size s8)) (Sl.mk l9.1 l9.2 l9.3) w26 ∧
                                                           I7 (ByteArray.extract s8 (Int.toNat (IntKind.wrap IntKind.i64 (n13 + 1))) (ByteArray.size s8)) (Sl.mk l9.1 l9.2 l9.3) w26 < I7 s8 l9 w10)))))))))))))))))))) ∧
                                  (b19 = false →
                                    (((decide ((↑(ByteArray.size (ByteArray.extract s8 0 (Int.toNat n13))) : Int) < 41) = true →
                                       R (Value.tuple (Array.mk [Value.slice none 0 0, Value.int IntKind.i64 3])) w18)) ∧
                                     (decide ((↑(ByteArray.size (ByteArray.extract s8 0 (Int.toNat n13))) : Int) < 41) = false →
                                       (((0 : Int) ≤ (40 : Int) ∧
                                         40 < (↑(ByteArray.size (ByteArray.extract s8 0 (Int.toNat n13))) : Int)) ∧
                                        ((((byteAt (ByteArray.extract s8 0 (Int.toNat n13)) 40 != 32) = true →
                                           R (Value.tuple (Array.mk [Value.slice none 0 0, Value.int IntKind.i64 3])) w18)) ∧
                                         ((byteAt (ByteArray.extract s8 0 (Int.toNat n13)) 40 != 32) = false →
                                           (((0 : Int) ≤ (40 : Int) ∧
                                             40 ≤ (↑(ByteArray.size (ByteArray.extract s8 0 (Int.toNat n13))) : Int)) ∧
                                            Calls Tryz.prog (19 : Nat) (Array.mk [Value.string (ByteArray.extract (ByteArray.extract s8 0 (Int.toNat n13)) 0 (Int.toNat 40))]) (w18) (fun e27 w28 =>
                                              ∃ b29 : Bool, (e27 = Ending.returned (Value.bool b29) ∧
                                               ((((!b29) = true →
                                                  R (Value.tuple (Array.mk [Value.slice none 0 0, Value.int IntKind.i64 3])) w28)) ∧
                                                ((!b29) = false →
                                                  (((0 : Int) ≤ (41 : Int) ∧
                                                    41 ≤ (↑(ByteArray.size (ByteArray.extract s8 0 (Int.toNat n13))) : Int)) ∧
                                                   Calls Tryz.prog (11 : Nat) (Array.mk [Value.string (ByteArray.extract (ByteArray.extract s8 0 (Int.toNat n13)) (Int.toNat 41) (ByteArray.size (ByteArray.extract s8 0 (Int.toNat n13))))]) (w28) (fun e30 w31 =>
                                                     ∃ b32 : Bool, (e30 = Ending.returned (Value.bool b32) ∧
                                                      ((((!b32) = true →
                                                         R (Value.tuple (Array.mk [Value.slice none 0 0, Value.int IntKind.i64 3])) w31)) ∧
                                                       ((!b32) = false →
                                                         (((0 : Int) ≤ (41 : Int) ∧
                                                           41 ≤ (↑(ByteArray.size (ByteArray.extract s8 0 (Int.toNat n13))) : Int)) ∧
                                                          ((((ByteArray.toList (ByteArray.extract (ByteArray.extract s8 0 (Int.toNat n13)) (Int.toNat 41) (ByteArray.size (ByteArray.extract s8 0 (Int.toNat n13)))) == ByteArray.toList (ByteArray.mk (Array.mk [72, 69, 65, 68]))) = true →
                                                             R (Value.tuple (Array.mk [Value.slice none 0 0, Value.int IntKind.i64 3])) w31)) ∧
                                                           ((ByteArray.toList (ByteArray.extract (ByteArray.extract s8 0 (Int.toNat n13)) (Int.toNat 41) (ByteArray.size (ByteArray.extract s8 0 (Int.toNat n13)))) == ByteArray.toList (ByteArray.mk (Array.mk [72, 69, 65, 68]))) = false →
                                                             ∃ I33 : Int → World → Prop, ∃ I34 : Int → World → Nat, (I33 0 w31 ∧
                                                              ∀ n35 : Int,
                                                              ∀ w36 : World,
                                                              (I33 n35 w36 →
                                                                (((decide (n35 < (↑l9.2 : Int)) = true →
                                                                   ((0 ≤ n35 ∧
                                                                     n35 < (↑l9.2 : Int)) ∧
                                                                    ∃ a37 : Addr, (l9.1 = some a37 ∧
                                                                     ∃ s38 : ByteArray, ∃ s39 : ByteArray, ∃ s40 : ByteArray, (Sem.run Tryz.prog (loadVar 69 (Addr.add a37 (Int.toNat n35 * 3))) w36 = Result.ok (Value.agg (Array.mk [Value.string s38, Value.string s39, Value.string s40])) w36 ∧
                                                                      ∀ w41 : World,
                                                                      (w41 = World.alloc w36 (Obj.cells (Array.mk [Value.string (ByteArray.mk (Array.mk [])), Value.string (ByteArray.mk (Array.mk [])), Value.string (ByteArray.mk (Array.mk []))]) 69) →
                                                                        ∃ w42 : World, (Sem.run Tryz.prog (storeVar 69 (Addr.mk (Array.size (World.heap w36)) 0 none) (Value.agg (Array.mk [Value.string s38, Value.string s39, Value.string s40]))) w41 = Result.ok PUnit.unit w42 ∧
                                                                         ∃ s43 : ByteArray, (World.cell? w42 (Addr.mk (Array.size (World.heap w36)) 0 none) = some (Value.string s43) ∧
                                                                          (((0 : Int) ≤ (41 : Int) ∧
                                                                            41 ≤ (↑(ByteArray.size (ByteArray.extract s8 0 (Int.toNat n13))) : Int)) ∧
                                                                           ∀ w44 : World,
                                                                           (Drew w42 w44 →
                                                                             ((((ByteArray.toList s43 == ByteArray.toList (ByteArray.extract (ByteArray.extract s8 0 (Int.toNat n13)) (Int.toNat 41) (ByteArray.size (ByteArray.extract s8 0 (Int.toNat n13))))) = true →
                                                                                R (Value.tuple (Array.mk [Value.slice none 0 0, Value.int IntKind.i64 4])) w44)) ∧
                                                                              ((ByteArray.toList s43 == ByteArray.toList (ByteArray.extract (ByteArray.extract s8 0 (Int.toNat n13)) (Int.toNat 41) (ByteArray.size (ByteArray.extract s8 0 (Int.toNat n13))))) = false →
                                                                                (I33 (IntKind.wrap IntKind.i64 (n35 + 1)) w44 ∧
                                                                                 I34 (IntKind.wrap IntKind.i64 (n35 + 1)) w44 < I34 n35 w36))))))))))))) ∧
                                                                 (decide (n35 < (↑l9.2 : Int)) = false →
                                                                   ∀ w45 : World,
                                                                   (Drew w36 w45 →
                                                                     ∃ I46 : World → Prop, (I46 w45 ∧
                                                                      (((0 : Int) ≤ (41 : Int) ∧
                                                                        41 ≤ (↑(ByteArray.size (ByteArray.extract s8 0 (Int.toNat n13))) : Int)) ∧
                                                                       (((0 : Int) ≤ (40 : Int) ∧
                                                                         40 ≤ (↑(ByteArray.size (ByteArray.extract s8 0 (Int.toNat n13))) : Int)) ∧
                                                                        ∀ w47 : World,
                                                                        (w47 = World.alloc w45 (Obj.cells (Array.mk [Value.string (ByteArray.extract (ByteArray.extract s8 0 (Int.toNat n13)) (Int.toNat 41) (ByteArray.size (ByteArray.extract s8 0 (Int.toNat n13)))), Value.string (ByteArray.extract (ByteArray.extract s8 0 (Int.toNat n13)) 0 (Int.toNat 40)), Value.string (ByteArray.mk (Array.mk []))]) 69) →
                                                                          (I46 w47 ∧
                                                                           ∃ w48 : World, ∃ l49 : Sl, (Sem.run Tryz.prog (Builtin.append_ (Array.mk [32, 32]) 32 (Array.mk [Value.slice l9.1 l9.2 l9.3, Value.slice (some (Addr.mk (Array.size (World.heap w45)) 0 none)) 1 1])) w47 = Result.ok (Value.slice l49.1 l49.2 l49.3) w48 ∧
                                                                            (I46 w48 ∧
                                                                             (((decide ((↑l49.2 : Int) > 2000) = true →
                                                                                R (Value.tuple (Array.mk [Value.slice none 0 0, Value.int IntKind.i64 2])) w48)) ∧
                                                                              (decide ((↑l49.2 : Int) > 2000) = false →
                                                                                (I6 (ByteArray.extract s8 (Int.toNat (IntKind.wrap IntKind.i64 (n13 + 1))) (ByteArray.size s8)) (Sl.mk l49.1 l49.2 l49.3) w48 ∧
                                                                                 I7 (ByteArray.extract s8 (Int.toNat (IntKind.wrap IntKind.i64 (n13 + 1))) (ByteArray.size s8)) (Sl.mk l49.1 l49.2 l49.3) w48 < I7 s8 l9 w10))))))))))))))))))))))))))))))))))))))))))))))))) ∧
              ((!ByteArray.toList s8 == ByteArray.toList (ByteArray.mk (Array.mk []))) = false →
                R (Value.tuple (Array.mk [Value.slice l9.1 l9.2 l9.3, Value.int IntKind.i64 0])) w10)))) ∧
           (b4 = false →
             R (Value.tuple (Array.mk [Value.slice l9.1 l9.2 l9.3, Value.int IntKind.i64 0])) w10)))))))
theorem vc_cartularyref16_Open_ok {x0a : Option Addr} {x0n : Nat} {x0c : Nat} {w : World} {R : Value → World → Prop} {R' : Ending → World → Prop} (h : vc_cartularyref16_Open x0a x0n x0c w R) (hR : ∀ v w', R v w' → R' (.returned v) w') :
    Calls Tryz.prog 9 #[.slice x0a x0n x0c] w R' :=
  calls_of_body (vs := [(.slice x0a x0n x0c, false)]) (ty := ty) (ann := ⟨[], [(3, [(4, .str), (6, .slice)]), (17, [(91, .int .i64)])], [(19, .quiet), (22, .held [(0, true), (1, true), (2, true), (3, true), (4, true), (5, true), (6, false), (7, false), (8, true)])], []⟩) (c := Tryz.f9.body.getD .skip) (by kernel_rfl) Tryz.func9 (by kernel_rfl) (by kernel_rfl) (Eq.mp (by kernel_rfl) h) hR
/-- cartularyref16.Lookup -/
def vc_cartularyref16_Lookup (x0a : Option Addr) (x0n : Nat) (x0c : Nat) (x1a : Option Addr) (x1n : Nat) (x1c : Nat) (x2 : ByteArray) (w : World) (R : Value → World → Prop) : Prop :=
  Calls Tryz.prog (11 : Nat) (Array.mk [Value.string x2]) (w) (fun e1 w2 =>
    ∃ b3 : Bool, (e1 = Ending.returned (Value.bool b3) ∧
     ((((!b3) = true →
        R (Value.tuple (Array.mk [Value.string (ByteArray.mk (Array.mk [])), Value.int IntKind.i64 4])) w2)) ∧
      ((!b3) = false →
        ∃ I4 : ByteArray → Int → World → Prop, ∃ I5 : ByteArray → Int → World → Nat, (I4 x2 0 w2 ∧
         ∀ s6 : ByteArray,
         ∀ n7 : Int,
         ∀ w8 : World,
         (I4 s6 n7 w8 →
           Calls Tryz.prog (32 : Nat) (Array.mk [Value.slice x0a x0n x0c, Value.string s6]) (w8) (fun e9 w10 =>
             ∃ s11 : ByteArray, ∃ b12 : Bool, (e9 = Ending.returned (Value.tuple (Array.mk [Value.string s11, Value.bool b12])) ∧
              ((((!b12) = true →
                 ∃ I13 : Int → World → Prop, ∃ I14 : Int → World → Nat, (I13 0 w10 ∧
                  ∀ n15 : Int,
                  ∀ w16 : World,
                  (I13 n15 w16 →
                    (((decide (n15 < (↑x1n : Int)) = true →
                       ((0 ≤ n15 ∧
                         n15 < (↑x1n : Int)) ∧
                        ∃ a17 : Addr, (x1a = some a17 ∧
                         ∃ s18 : ByteArray, ∃ s19 : ByteArray, ∃ s20 : ByteArray, (Sem.run Tryz.prog (loadVar 69 (Addr.add a17 (Int.toNat n15 * 3))) w16 = Result.ok (Value.agg (Array.mk [Value.string s18, Value.string s19, Value.string s20])) w16 ∧
                          ∀ w21 : World,
                          (w21 = World.alloc w16 (Obj.cells (Array.mk [Value.string (ByteArray.mk (Array.mk [])), Value.string (ByteArray.mk (Array.mk [])), Value.string (ByteArray.mk (Array.mk []))]) 69) →
                            ∃ w22 : World, (Sem.run Tryz.prog (storeVar 69 (Addr.mk (Array.size (World.heap w16)) 0 none) (Value.agg (Array.mk [Value.string s18, Value.string s19, Value.string s20]))) w21 = Result.ok PUnit.unit w22 ∧
                             ∃ s23 : ByteArray, (World.cell? w22 (Addr.mk (Array.size (World.heap w16)) 0 none) = some (Value.string s23) ∧
                              ((((ByteArray.toList s23 == ByteArray.toList s6) = true →
                                 ∃ s24 : ByteArray, (World.cell? w22 (Addr.mk (Array.size (World.heap w16)) 1 none) = some (Value.string s24) ∧
                                  R (Value.tuple (Array.mk [Value.string s24, Value.int IntKind.i64 0])) w22))) ∧
                               ((ByteArray.toList s23 == ByteArray.toList s6) = false →
                                 (I13 (IntKind.wrap IntKind.i64 (n15 + 1)) w22 ∧
                                  I14 (IntKind.wrap IntKind.i64 (n15 + 1)) w22 < I14 n15 w16))))))))))) ∧
                     (decide (n15 < (↑x1n : Int)) = false →
                       R (Value.tuple (Array.mk [Value.string (ByteArray.mk (Array.mk [])), Value.int IntKind.i64 7])) w16)))))) ∧
               ((!b12) = false →
                 ∃ I25 : World → Prop, ((((((↑(ByteArray.size s11) : Int) == 41) = true →
                     (((0 : Int) ≤ (40 : Int) ∧
                       40 < (↑(ByteArray.size s11) : Int)) ∧
                      ((((byteAt s11 40 == 10) = true →
                         (((0 : Int) ≤ (40 : Int) ∧
                           40 ≤ (↑(ByteArray.size s11) : Int)) ∧
                          Calls Tryz.prog (19 : Nat) (Array.mk [Value.string (ByteArray.extract s11 0 (Int.toNat 40))]) (w10) (fun e26 w27 =>
                            ∃ b28 : Bool, (e26 = Ending.returned (Value.bool b28) ∧
                             (((b28 = true →
                                (((0 : Int) ≤ (40 : Int) ∧
                                  40 ≤ (↑(ByteArray.size s11) : Int)) ∧
                                 R (Value.tuple (Array.mk [Value.string (ByteArray.extract s11 0 (Int.toNat 40)), Value.int IntKind.i64 0])) w27))) ∧
                              (b28 = false →
                                I25 w27))))))) ∧
                       ((byteAt s11 40 == 10) = false →
                         I25 w10))))) ∧
                   (((↑(ByteArray.size s11) : Int) == 41) = false →
                     I25 w10)) ∧
                  ∀ w29 : World,
                  (I25 w29 →
                    Calls Tryz.prog (34 : Nat) (Array.mk [Value.string s11, Value.string (ByteArray.mk (Array.mk [114, 101, 102, 58, 32]))]) (w29) (fun e30 w31 =>
                      ∃ b32 : Bool, (e30 = Ending.returned (Value.bool b32) ∧
                       ((((!b32) = true →
                          R (Value.tuple (Array.mk [Value.string (ByteArray.mk (Array.mk [])), Value.int IntKind.i64 3])) w31)) ∧
                        ((!b32) = false →
                          Calls Tryz.prog (41 : Nat) (Array.mk [Value.string s11, Value.string (ByteArray.mk (Array.mk [10]))]) (w31) (fun e33 w34 =>
                            ∃ b35 : Bool, (e33 = Ending.returned (Value.bool b35) ∧
                             ((((!b35) = true →
                                R (Value.tuple (Array.mk [Value.string (ByteArray.mk (Array.mk [])), Value.int IntKind.i64 3])) w34)) ∧
                              ((!b35) = false →
                                (((0 : Int) ≤ (5 : Int) ∧
                                  (5 ≤ IntKind.wrap IntKind.i64 ((↑(ByteArray.size s11) : Int) - 1) ∧
                                   IntKind.wrap IntKind.i64 ((↑(ByteArray.size s11) : Int) - 1) ≤ (↑(ByteArray.size s11) : Int))) ∧
                                 Calls Tryz.prog (11 : Nat) (Array.mk [Value.string (ByteArray.extract s11 (Int.toNat 5) (Int.toNat (IntKind.wrap IntKind.i64 ((↑(ByteArray.size s11) : Int) - 1))))]) (w34) (fun e36 w37 =>
                                   ∃ b38 : Bool, (e36 = Ending.returned (Value.bool b38) ∧
                                    ((((!b38) = true →
                                       R (Value.tuple (Array.mk [Value.string (ByteArray.mk (Array.mk [])), Value.int IntKind.i64 3])) w37)) ∧
                                     ((!b38) = false →
                                       ((((n7 == 5) = true →
                                          R (Value.tuple (Array.mk [Value.string (ByteArray.mk (Array.mk [])), Value.int IntKind.i64 9])) w37)) ∧
                                        ((n7 == 5) = false →
                                          (((0 : Int) ≤ (5 : Int) ∧
                                            (5 ≤ IntKind.wrap IntKind.i64 ((↑(ByteArray.size s11) : Int) - 1) ∧
                                             IntKind.wrap IntKind.i64 ((↑(ByteArray.size s11) : Int) - 1) ≤ (↑(ByteArray.size s11) : Int))) ∧
                                           (I4 (ByteArray.extract s11 (Int.toNat 5) (Int.toNat (IntKind.wrap IntKind.i64 ((↑(ByteArray.size s11) : Int) - 1)))) (IntKind.wrap IntKind.i64 (n7 + 1)) w37 ∧
                                            I5 (ByteArray.extract s11 (Int.toNat 5) (Int.toNat (IntKind.wrap IntKind.i64 ((↑(ByteArray.size s11) : Int) - 1)))) (IntKind.wrap IntKind.i64 (n7 + 1)) w37 < I5 s6 n7 w8)))))))))))))))))))))))))))))
theorem vc_cartularyref16_Lookup_ok {x0a : Option Addr} {x0n : Nat} {x0c : Nat} {x1a : Option Addr} {x1n : Nat} {x1c : Nat} {x2 : ByteArray} {w : World} {R : Value → World → Prop} {R' : Ending → World → Prop} (h : vc_cartularyref16_Lookup x0a x0n x0c x1a x1n x1c x2 w R) (hR : ∀ v w', R v w' → R' (.returned v) w') :
    Calls Tryz.prog 16 #[.slice x0a x0n x0c, .slice x1a x1n x1c, .string x2] w R' :=
  calls_of_body (vs := [(.slice x0a x0n x0c, false), (.slice x1a x1n x1c, false), (.string x2, false)]) (ty := ty) (ann := ⟨[(16, [])], [(5, [(2, .str), (8, .int .i64)]), (8, [(28, .int .i64)])], [], []⟩) (c := Tryz.f16.body.getD .skip) (by kernel_rfl) Tryz.func16 (by kernel_rfl) (by kernel_rfl) (Eq.mp (by kernel_rfl) h) hR
/-- cartularyref16.Peeled -/
def vc_cartularyref16_Peeled (x0a : Option Addr) (x0n : Nat) (x0c : Nat) (x1a : Option Addr) (x1n : Nat) (x1c : Nat) (x2 : ByteArray) (w : World) (R : Value → World → Prop) : Prop :=
  Calls Tryz.prog (32 : Nat) (Array.mk [Value.slice x0a x0n x0c, Value.string x2]) (w) (fun e1 w2 =>
    ∃ s3 : ByteArray, ∃ b4 : Bool, (e1 = Ending.returned (Value.tuple (Array.mk [Value.string s3, Value.bool b4])) ∧
     ∃ I5 : Int → World → Prop, ∃ I6 : Int → World → Nat, (I5 0 w2 ∧
      ∀ n7 : Int,
      ∀ w8 : World,
      (I5 n7 w8 →
        (((decide (n7 < (↑x1n : Int)) = true →
           ((0 ≤ n7 ∧
             n7 < (↑x1n : Int)) ∧
            ∃ a9 : Addr, (x1a = some a9 ∧
             ∃ s10 : ByteArray, ∃ s11 : ByteArray, ∃ s12 : ByteArray, (Sem.run Tryz.prog (loadVar 69 (Addr.add a9 (Int.toNat n7 * 3))) w8 = Result.ok (Value.agg (Array.mk [Value.string s10, Value.string s11, Value.string s12])) w8 ∧
              ∀ w13 : World,
              (w13 = World.alloc w8 (Obj.cells (Array.mk [Value.string (ByteArray.mk (Array.mk [])), Value.string (ByteArray.mk (Array.mk [])), Value.string (ByteArray.mk (Array.mk []))]) 69) →
                ∃ w14 : World, (Sem.run Tryz.prog (storeVar 69 (Addr.mk (Array.size (World.heap w8)) 0 none) (Value.agg (Array.mk [Value.string s10, Value.string s11, Value.string s12]))) w13 = Result.ok PUnit.unit w14 ∧
                 ∃ s15 : ByteArray, (World.cell? w14 (Addr.mk (Array.size (World.heap w8)) 0 none) = some (Value.string s15) ∧
                  ((((ByteArray.toList s15 == ByteArray.toList x2) = true →
                     ((((!b4) = true →
                        ∃ s16 : ByteArray, (World.cell? w14 (Addr.mk (Array.size (World.heap w8)) 2 none) = some (Value.string s16) ∧
                         R (Value.string s16) w14))) ∧
                      ((!b4) = false →
                        (I5 (IntKind.wrap IntKind.i64 (n7 + 1)) w14 ∧
                         I6 (IntKind.wrap IntKind.i64 (n7 + 1)) w14 < I6 n7 w8))))) ∧
                   ((ByteArray.toList s15 == ByteArray.toList x2) = false →
                     (I5 (IntKind.wrap IntKind.i64 (n7 + 1)) w14 ∧
                      I6 (IntKind.wrap IntKind.i64 (n7 + 1)) w14 < I6 n7 w8))))))))))) ∧
         (decide (n7 < (↑x1n : Int)) = false →
           R (Value.string (ByteArray.mk (Array.mk []))) w8))))))
theorem vc_cartularyref16_Peeled_ok {x0a : Option Addr} {x0n : Nat} {x0c : Nat} {x1a : Option Addr} {x1n : Nat} {x1c : Nat} {x2 : ByteArray} {w : World} {R : Value → World → Prop} {R' : Ending → World → Prop} (h : vc_cartularyref16_Peeled x0a x0n x0c x1a x1n x1c x2 w R) (hR : ∀ v w', R v w' → R' (.returned v) w') :
    Calls Tryz.prog 18 #[.slice x0a x0n x0c, .slice x1a x1n x1c, .string x2] w R' :=
  calls_of_body (vs := [(.slice x0a x0n x0c, false), (.slice x1a x1n x1c, false), (.string x2, false)]) (ty := ty) (ann := ⟨[], [(3, [(19, .int .i64)])], [], []⟩) (c := Tryz.f18.body.getD .skip) (by kernel_rfl) Tryz.func18 (by kernel_rfl) (by kernel_rfl) (Eq.mp (by kernel_rfl) h) hR
/-- cartularyref16.Names -/
def vc_cartularyref16_Names (x0a : Option Addr) (x0n : Nat) (x0c : Nat) (x1a : Option Addr) (x1n : Nat) (x1c : Nat) (x2 : ByteArray) (w : World) (R : Value → World → Prop) : Prop :=
  ∀ w1 : World,
  (w1 = World.alloc w (Obj.cells (Array.mk []) 9) →
    Calls Tryz.prog (45 : Nat) (Array.mk [Value.slice x0a x0n x0c, Value.string (ByteArray.mk (Array.mk [114, 101, 102, 115, 47]))]) (w1) (fun e2 w3 =>
      ∃ l4 : Sl, (e2 = Ending.returned (Value.slice l4.1 l4.2 l4.3) ∧
       ∃ I5 : Sl → Int → World → Prop, ∃ I6 : Sl → Int → World → Nat, (I5 (Sl.mk (some (Addr.mk (Array.size (World.heap w)) 0 none)) 0 0) 0 w3 ∧
        ∀ l7 : Sl,
        ∀ n8 : Int,
        ∀ w9 : World,
        (I5 l7 n8 w9 →
          (((decide (n8 < (↑l4.2 : Int)) = true →
             ((0 ≤ n8 ∧
               n8 < (↑l4.2 : Int)) ∧
              ∃ a10 : Addr, (l4.1 = some a10 ∧
               ∃ s11 : ByteArray, (World.cell? w9 (Addr.add a10 (Int.toNat n8 * 1)) = some (Value.string s11) ∧
                Calls Tryz.prog (11 : Nat) (Array.mk [Value.string s11]) (w9) (fun e12 w13 =>
                  ∃ b14 : Bool, (e12 = Ending.returned (Value.bool b14) ∧
                   (((b14 = true →
                      Calls Tryz.prog (34 : Nat) (Array.mk [Value.string s11, Value.string x2]) (w13) (fun e15 w16 =>
                        ∃ b17 : Bool, (e15 = Ending.returned (Value.bool b17) ∧
                         (((b17 = true →
                            Calls Tryz.prog (46 : Nat) (Array.mk [Value.slice l7.1 l7.2 l7.3, Value.string s11]) (w16) (fun e18 w19 =>
                              ∃ l20 : Sl, (e18 = Ending.returned (Value.slice l20.1 l20.2 l20.3) ∧
                               (I5 (Sl.mk l20.1 l20.2 l20.3) (IntKind.wrap IntKind.i64 (n8 + 1)) w19 ∧
                                I6 (Sl.mk l20.1 l20.2 l20.3) (IntKind.wrap IntKind.i64 (n8 + 1)) w19 < I6 l7 n8 w9))))) ∧
                          (b17 = false →
                            (I5 (Sl.mk l7.1 l7.2 l7.3) (IntKind.wrap IntKind.i64 (n8 + 1)) w16 ∧
                             I6 (Sl.mk l7.1 l7.2 l7.3) (IntKind.wrap IntKind.i64 (n8 + 1)) w16 < I6 l7 n8 w9))))))) ∧
                    (b14 = false →
                      (I5 (Sl.mk l7.1 l7.2 l7.3) (IntKind.wrap IntKind.i64 (n8 + 1)) w13 ∧
                       I6 (Sl.mk l7.1 l7.2 l7.3) (IntKind.wrap IntKind.i64 (n8 + 1)) w13 < I6 l7 n8 w9)))))))))) ∧
           (decide (n8 < (↑l4.2 : Int)) = false →
             ∃ I21 : Sl → Int → World → Prop, ∃ I22 : Sl → Int → World → Nat, (I21 (Sl.mk l7.1 l7.2 l7.3) 0 w9 ∧
              ∀ l23 : Sl,
              ∀ n24 : Int,
              ∀ w25 : World,
              (I21 l23 n24 w25 →
                (((decide (n24 < (↑x1n : Int)) = true →
                   ((0 ≤ n24 ∧
                     n24 < (↑x1n : Int)) ∧
                    ∃ a26 : Addr, (x1a = some a26 ∧
                     ∃ s27 : ByteArray, ∃ s28 : ByteArray, ∃ s29 : ByteArray, (Sem.run Tryz.prog (loadVar 69 (Addr.add a26 (Int.toNat n24 * 3))) w25 = Result.ok (Value.agg (Array.mk [Value.string s27, Value.string s28, Value.string s29])) w25 ∧
                      ∀ w30 : World,
                      (w30 = World.alloc w25 (Obj.cells (Array.mk [Value.string (ByteArray.mk (Array.mk [])), Value.string (ByteArray.mk (Array.mk [])), Value.string (ByteArray.mk (Array.mk []))]) 69) →
                        ∃ w31 : World, (Sem.run Tryz.prog (storeVar 69 (Addr.mk (Array.size (World.heap w25)) 0 none) (Value.agg (Array.mk [Value.string s27, Value.string s28, Value.string s29]))) w30 = Result.ok PUnit.unit w31 ∧
                         ∃ s32 : ByteArray, (World.cell? w31 (Addr.mk (Array.size (World.heap w25)) 0 none) = some (Value.string s32) ∧
                          Calls Tryz.prog (34 : Nat) (Array.mk [Value.string s32, Value.string x2]) (w31) (fun e33 w34 =>
                            ∃ b35 : Bool, (e33 = Ending.returned (Value.bool b35) ∧
                             (((b35 = true →
                                ∃ s36 : ByteArray, (World.cell? w34 (Addr.mk (Array.size (World.heap w25)) 0 none) = some (Value.string s36) ∧
                                 Calls Tryz.prog (46 : Nat) (Array.mk [Value.slice l23.1 l23.2 l23.3, Value.string s36]) (w34) (fun e37 w38 =>
                                   ∃ l39 : Sl, (e37 = Ending.returned (Value.slice l39.1 l39.2 l39.3) ∧
                                    (I21 (Sl.mk l39.1 l39.2 l39.3) (IntKind.wrap IntKind.i64 (n24 + 1)) w38 ∧
                                     I22 (Sl.mk l39.1 l39.2 l39.3) (IntKind.wrap IntKind.i64 (n24 + 1)) w38 < I22 l23 n24 w25)))))) ∧
                              (b35 = false →
                                (I21 (Sl.mk l23.1 l23.2 l23.3) (IntKind.wrap IntKind.i64 (n24 + 1)) w34 ∧
                                 I22 (Sl.mk l23.1 l23.2 l23.3) (IntKind.wrap IntKind.i64 (n24 + 1)) w34 < I22 l23 n24 w25))))))))))))) ∧
                 (decide (n24 < (↑x1n : Int)) = false →
                   R (Value.slice l23.1 l23.2 l23.3) w25)))))))))))
theorem vc_cartularyref16_Names_ok {x0a : Option Addr} {x0n : Nat} {x0c : Nat} {x1a : Option Addr} {x1n : Nat} {x1c : Nat} {x2 : ByteArray} {w : World} {R : Value → World → Prop} {R' : Ending → World → Prop} (h : vc_cartularyref16_Names x0a x0n x0c x1a x1n x1c x2 w R) (hR : ∀ v w', R v w' → R' (.returned v) w') :
    Calls Tryz.prog 14 #[.slice x0a x0n x0c, .slice x1a x1n x1c, .string x2] w R' :=
  calls_of_body (vs := [(.slice x0a x0n x0c, false), (.slice x1a x1n x1c, false), (.string x2, false)]) (ty := ty) (ann := ⟨[], [(3, [(7, .slice), (16, .int .i64)]), (9, [(7, .slice), (33, .int .i64)])], [], []⟩) (c := Tryz.f14.body.getD .skip) (by kernel_rfl) Tryz.func14 (by kernel_rfl) (by kernel_rfl) (Eq.mp (by kernel_rfl) h) hR
end Go.Proofs.YtmhlmdnhpfhoeaaGreatDoor

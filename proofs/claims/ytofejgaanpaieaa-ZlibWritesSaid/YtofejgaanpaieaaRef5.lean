/- Formulas of 10 Go functions of this seat (written by a program of the author's, vcgen.py), and that each is enough for the call. No condition. -/
import Derived.Test.YtofejgaanpaieaaTy
import Derived.Test.YtofejgaanpaieaaProg
set_option linter.unusedVariables false
namespace Go.Proofs.Ytofejgaanpaieaa
open Go Vc Go.Proofs
set_option maxRecDepth 100000
/-- (*cartularyref05.Stream).fail -/
def vc_cartularyref05_Stream_fail (x0 : Nat) (x1 : Int) (w : World) (R : Value → World → Prop) : Prop :=
  ∃ n1 : Int, (World.cell? w (Addr.mk x0 4 none) = some (Value.int IntKind.i64 n1) ∧
   ((((n1 == 0) = true →
      (Wr w (Addr.mk x0 4 none) ∧
       ∀ w2 : World,
       (w2 = World.setCell w (Addr.mk x0 4 none) (Value.int IntKind.i64 x1) →
         R (Value.tuple (Array.mk [])) w2)))) ∧
    ((n1 == 0) = false →
      R (Value.tuple (Array.mk [])) w)))
theorem vc_cartularyref05_Stream_fail_ok {x0 : Nat} {x1 : Int} {w : World} {R : Value → World → Prop} {R' : Ending → World → Prop} (h : vc_cartularyref05_Stream_fail x0 x1 w R) (hR : ∀ v w', R v w' → R' (.returned v) w') :
    Calls Try.prog 30 #[.pointer (some ⟨x0, 0, none⟩), .int .i64 x1] w R' :=
  calls_of_body (vs := [(.pointer (some ⟨x0, 0, none⟩), true), (.int .i64 x1, false)]) (ty := ty) (ann := ⟨[], [], [], []⟩) (c := Try.f30.body.getD .skip) (by kernel_rfl) Try.func30 (by kernel_rfl) (by kernel_rfl) (Eq.mp (by kernel_rfl) h) hR
/-- (*cartularyref05.Stream).number -/
def vc_cartularyref05_Stream_number (x0 : Nat) (x1 : Int) (w : World) (R : Value → World → Prop) : Prop :=
  ∃ n1 : Int, (World.cell? w (Addr.mk x0 4 none) = some (Value.int IntKind.i64 n1) ∧
   ((((n1 != 0) = true →
      R (Value.int IntKind.i64 0) w)) ∧
    ((n1 != 0) = false →
      ∃ n2 : Int, (World.cell? w (Addr.mk x0 1 none) = some (Value.int IntKind.i64 n2) ∧
       ∃ l3 : Sl, (World.cell? w (Addr.mk x0 0 none) = some (Value.slice l3.1 l3.2 l3.3) ∧
        ∀ w4 : World,
        (Drew w w4 →
          (((decide (IntKind.wrap IntKind.i64 (n2 + x1) > (↑l3.2 : Int)) = true →
             Calls Try.prog (30 : Nat) (Array.mk [Value.pointer (some (Addr.mk x0 0 none)), Value.int IntKind.i64 6]) (w4) (fun e5 w6 =>
               (e5 = Ending.returned (Value.tuple (Array.mk [])) ∧
                R (Value.int IntKind.i64 0) w6)))) ∧
           (decide (IntKind.wrap IntKind.i64 (n2 + x1) > (↑l3.2 : Int)) = false →
             ∀ w7 : World,
             (Drew w4 w7 →
               ∃ I8 : World → Prop, (I8 w7 ∧
                ∃ l9 : Sl, ((∀ w10 : World,
                 (I8 w10 →
                   World.cell? w10 (Addr.mk x0 0 none) = some (Value.slice l9.1 l9.2 l9.3))) ∧
                 ∃ n11 : Int, ((∀ w12 : World,
                  (I8 w12 →
                    World.cell? w12 (Addr.mk x0 1 none) = some (Value.int IntKind.i64 n11))) ∧
                  ∃ n13 : Int, ((∀ w14 : World,
                   (I8 w14 →
                     World.cell? w14 (Addr.mk x0 1 none) = some (Value.int IntKind.i64 n13))) ∧
                   ((0 ≤ n11 ∧
                     (n11 ≤ IntKind.wrap IntKind.i64 (n13 + x1) ∧
                      IntKind.wrap IntKind.i64 (n13 + x1) ≤ (↑l9.3 : Int))) ∧
                    Calls Try.prog (58 : Nat) (Array.mk [Value.slice (subA l9.1 l9.3 (Int.toNat n11) 1) (Int.toNat (IntKind.wrap IntKind.i64 (n13 + x1)) - Int.toNat n11) (l9.3 - Int.toNat n11)]) (w7) (fun e15 w16 =>
                      ∃ n17 : Int, (e15 = Ending.returned (Value.int IntKind.u32 n17) ∧
                       (I8 w16 ∧
                        ∃ n18 : Int, (World.cell? w16 (Addr.mk x0 1 none) = some (Value.int IntKind.i64 n18) ∧
                         (Wr w16 (Addr.mk x0 1 none) ∧
                          ∀ w19 : World,
                          (w19 = World.setCell w16 (Addr.mk x0 1 none) (Value.int IntKind.i64 (IntKind.wrap IntKind.i64 (n18 + x1))) →
                            R (Value.int IntKind.i64 (IntKind.wrap IntKind.i64 n17)) w19))))))))))))))))))))
theorem vc_cartularyref05_Stream_number_ok {x0 : Nat} {x1 : Int} {w : World} {R : Value → World → Prop} {R' : Ending → World → Prop} (h : vc_cartularyref05_Stream_number x0 x1 w R) (hR : ∀ v w', R v w' → R' (.returned v) w') :
    Calls Try.prog 31 #[.pointer (some ⟨x0, 0, none⟩), .int .i64 x1] w R' :=
  calls_of_body (vs := [(.pointer (some ⟨x0, 0, none⟩), true), (.int .i64 x1, false)]) (ty := ty) (ann := ⟨[], [], [(3, .quiet), (6, .held [(0, true), (1, true), (2, true), (3, true), (4, true), (5, true), (6, true), (7, true), (8, true), (9, true), (10, true), (11, true), (12, true), (13, true), (14, true), (15, false), (16, true), (17, true)])], []⟩) (c := Try.f31.body.getD .skip) (by kernel_rfl) Try.func31 (by kernel_rfl) (by kernel_rfl) (Eq.mp (by kernel_rfl) h) hR
/-- (*cartularyref05.Stream).symbol -/
def vc_cartularyref05_Stream_symbol (x0 : Nat) (x1a : Option Addr) (x1n : Nat) (x1c : Nat) (w : World) (R : Value → World → Prop) : Prop :=
  ∃ n1 : Int, (World.cell? w (Addr.mk x0 4 none) = some (Value.int IntKind.i64 n1) ∧
   ((((n1 != 0) = true →
      R (Value.int IntKind.i64 0) w)) ∧
    ((n1 != 0) = false →
      ∀ w2 : World,
      (Drew w w2 →
        ∃ I3 : World → Prop, (I3 w2 ∧
         ∃ l4 : Sl, ((∀ w5 : World,
          (I3 w5 →
            World.cell? w5 (Addr.mk x0 0 none) = some (Value.slice l4.1 l4.2 l4.3))) ∧
          ∃ n6 : Int, ((∀ w7 : World,
           (I3 w7 →
             World.cell? w7 (Addr.mk x0 1 none) = some (Value.int IntKind.i64 n6))) ∧
           ∃ n8 : Int, ((∀ w9 : World,
            (I3 w9 →
              World.cell? w9 (Addr.mk x0 1 none) = some (Value.int IntKind.i64 n8))) ∧
            ∃ l10 : Sl, ((∀ w11 : World,
             (I3 w11 →
               World.cell? w11 (Addr.mk x0 0 none) = some (Value.slice l10.1 l10.2 l10.3))) ∧
             ((0 ≤ n6 ∧
               ((n6 ≤ if (↑l10.2 : Int) < IntKind.wrap IntKind.i64 (n8 + 16) then (↑l10.2 : Int) else IntKind.wrap IntKind.i64 (n8 + 16)) ∧
                ((if (↑l10.2 : Int) < IntKind.wrap IntKind.i64 (n8 + 16) then (↑l10.2 : Int) else IntKind.wrap IntKind.i64 (n8 + 16)) ≤ (↑l4.3 : Int)))) ∧
              Calls Try.prog (77 : Nat) ((Array.mk [Value.slice x1a x1n x1c, Value.slice (subA l4.1 l4.3 (Int.toNat n6) 1) (Int.toNat (if (↑l10.2 : Int) < IntKind.wrap IntKind.i64 (n8 + 16) then (↑l10.2 : Int) else IntKind.wrap IntKind.i64 (n8 + 16)) - Int.toNat n6) (l4.3 - Int.toNat n6)])) (w2) (fun e12 w13 =>
                ∃ n14 : Int, ∃ n15 : Int, ∃ n16 : Int, (e12 = Ending.returned (Value.tuple (Array.mk [Value.int IntKind.i64 n14, Value.int IntKind.i64 n15, Value.int IntKind.i64 n16])) ∧
                 (I3 w13 ∧
                  ((((n16 != 0) = true →
                     Calls Try.prog (30 : Nat) (Array.mk [Value.pointer (some (Addr.mk x0 0 none)), Value.int IntKind.i64 n16]) (w13) (fun e17 w18 =>
                       (e17 = Ending.returned (Value.tuple (Array.mk [])) ∧
                        R (Value.int IntKind.i64 0) w18)))) ∧
                   ((n16 != 0) = false →
                     ∃ n19 : Int, (World.cell? w13 (Addr.mk x0 1 none) = some (Value.int IntKind.i64 n19) ∧
                      (Wr w13 (Addr.mk x0 1 none) ∧
                       ∀ w20 : World,
                       (w20 = World.setCell w13 (Addr.mk x0 1 none) (Value.int IntKind.i64 (IntKind.wrap IntKind.i64 (n19 + n15))) →
                         R (Value.int IntKind.i64 n14) w20))))))))))))))))))
theorem vc_cartularyref05_Stream_symbol_ok {x0 : Nat} {x1a : Option Addr} {x1n : Nat} {x1c : Nat} {w : World} {R : Value → World → Prop} {R' : Ending → World → Prop} (h : vc_cartularyref05_Stream_symbol x0 x1a x1n x1c w R) (hR : ∀ v w', R v w' → R' (.returned v) w') :
    Calls Try.prog 62 #[.pointer (some ⟨x0, 0, none⟩), .slice x1a x1n x1c] w R' :=
  calls_of_body (vs := [(.pointer (some ⟨x0, 0, none⟩), true), (.slice x1a x1n x1c, false)]) (ty := ty) (ann := ⟨[], [], [(3, .held [(0, true), (1, true), (2, true), (3, true), (4, true), (5, true), (6, true), (7, true), (8, true), (9, true), (10, true), (11, true), (12, true), (13, true), (14, true), (15, true), (16, true), (17, true), (18, true), (19, true), (20, true), (21, false), (22, true), (23, true), (24, true), (25, true), (26, true), (27, true), (28, true)])], []⟩) (c := Try.f62.body.getD .skip) (by kernel_rfl) Try.func62 (by kernel_rfl) (by kernel_rfl) (Eq.mp (by kernel_rfl) h) hR
/-- (*cartularyref05.Stream).put -/
def vc_cartularyref05_Stream_put (x0 : Nat) (x1 : Int) (w : World) (R : Value → World → Prop) : Prop :=
  ∃ I1 : World → Prop, ((∃ n2 : Int, (World.cell? w (Addr.mk x0 4 none) = some (Value.int IntKind.i64 n2) ∧
    ((((n2 == 0) = true →
       ∃ l3 : Sl, (World.cell? w (Addr.mk x0 2 none) = some (Value.slice l3.1 l3.2 l3.3) ∧
        ∃ n4 : Int, (World.cell? w (Addr.mk x0 3 none) = some (Value.int IntKind.i64 n4) ∧
         ∀ w5 : World,
         (Drew w w5 →
           (((decide ((↑l3.2 : Int) ≥ n4) = true →
              Calls Try.prog (30 : Nat) (Array.mk [Value.pointer (some (Addr.mk x0 0 none)), Value.int IntKind.i64 2]) (w5) (fun e6 w7 =>
                (e6 = Ending.returned (Value.tuple (Array.mk [])) ∧
                 I1 w7)))) ∧
            (decide ((↑l3.2 : Int) ≥ n4) = false →
              I1 w5))))))) ∧
     ((n2 == 0) = false →
       ∀ w8 : World,
       (Drew w w8 →
         I1 w8))))) ∧
   ∀ w9 : World,
   (I1 w9 →
     ∃ n10 : Int, (World.cell? w9 (Addr.mk x0 4 none) = some (Value.int IntKind.i64 n10) ∧
      ((((n10 == 0) = true →
         ∃ l11 : Sl, (World.cell? w9 (Addr.mk x0 2 none) = some (Value.slice l11.1 l11.2 l11.3) ∧
          ∀ w12 : World,
          (w12 = World.alloc w9 (Obj.cells (Array.mk [Value.int IntKind.u8 x1]) 5) →
            ∃ w13 : World, ∃ l14 : Sl, (Sem.run Try.prog (Builtin.append_ (Array.mk [40, 40]) 40 (Array.mk [Value.slice l11.1 l11.2 l11.3, Value.slice (some (Addr.mk (Array.size (World.heap w9)) 0 none)) 1 1])) w12 = Result.ok (Value.slice l14.1 l14.2 l14.3) w13 ∧
             (Wr w13 (Addr.mk x0 2 none) ∧
              ∀ w15 : World,
              (w15 = World.setCell w13 (Addr.mk x0 2 none) (Value.slice l14.1 l14.2 l14.3) →
                R (Value.tuple (Array.mk [])) w15))))))) ∧
       ((n10 == 0) = false →
         R (Value.tuple (Array.mk [])) w9)))))
theorem vc_cartularyref05_Stream_put_ok {x0 : Nat} {x1 : Int} {w : World} {R : Value → World → Prop} {R' : Ending → World → Prop} (h : vc_cartularyref05_Stream_put x0 x1 w R) (hR : ∀ v w', R v w' → R' (.returned v) w') :
    Calls Try.prog 59 #[.pointer (some ⟨x0, 0, none⟩), .int .u8 x1] w R' :=
  calls_of_body (vs := [(.pointer (some ⟨x0, 0, none⟩), true), (.int .u8 x1, false)]) (ty := ty) (ann := ⟨[(2, [])], [], [(0, .quiet)], []⟩) (c := Try.f59.body.getD .skip) (by kernel_rfl) Try.func59 (by kernel_rfl) (by kernel_rfl) (Eq.mp (by kernel_rfl) h) hR
/-- (*cartularyref05.Stream).stored -/
def vc_cartularyref05_Stream_stored (x0 : Nat) (w : World) (R : Value → World → Prop) : Prop :=
  ∃ n1 : Int, (World.cell? w (Addr.mk x0 1 none) = some (Value.int IntKind.i64 n1) ∧
   Calls Try.prog (36 : Nat) (Array.mk [Value.int IntKind.i64 n1]) (w) (fun e2 w3 =>
     ∃ n4 : Int, (e2 = Ending.returned (Value.int IntKind.i64 n4) ∧
      (Wr w3 (Addr.mk x0 1 none) ∧
       ∀ w5 : World,
       (w5 = World.setCell w3 (Addr.mk x0 1 none) (Value.int IntKind.i64 n4) →
         Calls Try.prog (31 : Nat) (Array.mk [Value.pointer (some (Addr.mk x0 0 none)), Value.int IntKind.i64 16]) (w5) (fun e6 w7 =>
           ∃ n8 : Int, (e6 = Ending.returned (Value.int IntKind.i64 n8) ∧
            Calls Try.prog (31 : Nat) (Array.mk [Value.pointer (some (Addr.mk x0 0 none)), Value.int IntKind.i64 16]) (w7) (fun e9 w10 =>
              ∃ n11 : Int, (e9 = Ending.returned (Value.int IntKind.i64 n11) ∧
               ∃ I12 : World → Prop, ((∃ n13 : Int, (World.cell? w10 (Addr.mk x0 4 none) = some (Value.int IntKind.i64 n13) ∧
                 ((((n13 == 0) = true →
                    ((((IntKind.wrap IntKind.i64 (n8 + n11) != 65535) = true →
                       Calls Try.prog (30 : Nat) (Array.mk [Value.pointer (some (Addr.mk x0 0 none)), Value.int IntKind.i64 3]) (w10) (fun e14 w15 =>
                         (e14 = Ending.returned (Value.tuple (Array.mk [])) ∧
                          I12 w15)))) ∧
                     ((IntKind.wrap IntKind.i64 (n8 + n11) != 65535) = false →
                       I12 w10)))) ∧
                  ((n13 == 0) = false →
                    I12 w10)))) ∧
                ∀ w16 : World,
                (I12 w16 →
                  ∃ I17 : Int → World → Prop, ∃ I18 : Int → World → Nat, (I17 0 w16 ∧
                   ∀ n19 : Int,
                   ∀ w20 : World,
                   (I17 n19 w20 →
                     (((decide (n19 < n8) = true →
                        ∃ n21 : Int, (World.cell? w20 (Addr.mk x0 4 none) = some (Value.int IntKind.i64 n21) ∧
                         ((((n21 == 0) = true →
                            Calls Try.prog (31 : Nat) (Array.mk [Value.pointer (some (Addr.mk x0 0 none)), Value.int IntKind.i64 8]) (w20) (fun e22 w23 =>
                              ∃ n24 : Int, (e22 = Ending.returned (Value.int IntKind.i64 n24) ∧
                               Calls Try.prog (59 : Nat) (Array.mk [Value.pointer (some (Addr.mk x0 0 none)), Value.int IntKind.u8 (IntKind.wrap IntKind.u8 n24)]) (w23) (fun e25 w26 =>
                                 (e25 = Ending.returned (Value.tuple (Array.mk [])) ∧
                                  (I17 (IntKind.wrap IntKind.i64 (n19 + 1)) w26 ∧
                                   I18 (IntKind.wrap IntKind.i64 (n19 + 1)) w26 < I18 n19 w20))))))) ∧
                          ((n21 == 0) = false →
                            R (Value.tuple (Array.mk [])) w20))))) ∧
                      (decide (n19 < n8) = false →
                        R (Value.tuple (Array.mk [])) w20)))))))))))))))
theorem vc_cartularyref05_Stream_stored_ok {x0 : Nat} {w : World} {R : Value → World → Prop} {R' : Ending → World → Prop} (h : vc_cartularyref05_Stream_stored x0 w R) (hR : ∀ v w', R v w' → R' (.returned v) w') :
    Calls Try.prog 32 #[.pointer (some ⟨x0, 0, none⟩)] w R' :=
  calls_of_body (vs := [(.pointer (some ⟨x0, 0, none⟩), true)]) (ty := ty) (ann := ⟨[(5, [])], [(6, [(4, .int .i64)])], [], []⟩) (c := Try.f32.body.getD .skip) (by kernel_rfl) Try.func32 (by kernel_rfl) (by kernel_rfl) (Eq.mp (by kernel_rfl) h) hR
/-- cartularyref05.Fixed -/
def vc_cartularyref05_Fixed (w : World) (R : Value → World → Prop) : Prop :=
  ∀ w1 : World,
  (w1 = World.alloc w (Obj.cells (Array.mk []) 3) →
    ∀ w2 : World,
    (w2 = World.alloc w1 (Obj.cells (Array.mk []) 3) →
      ∃ I3 : Sl → Int → World → Prop, ∃ I4 : Sl → Int → World → Nat, (I3 (Sl.mk (some (Addr.mk (Array.size (World.heap w)) 0 none)) 0 0) 0 w2 ∧
       ∀ l5 : Sl,
       ∀ n6 : Int,
       ∀ w7 : World,
       (I3 l5 n6 w7 →
         (((decide (n6 < 288) = true →
            (((decide (n6 ≥ 144) = true →
               (((decide (n6 < 256) = true →
                  (((decide (n6 ≥ 256) = true →
                     (((decide (n6 < 280) = true →
                        ∀ w8 : World,
                        (w8 = World.alloc w7 (Obj.cells (Array.mk [Value.int IntKind.i64 7]) 3) →
                          ∃ w9 : World, ∃ l10 : Sl, (Sem.run Try.prog (Builtin.append_ (Array.mk [58, 58]) 58 (Array.mk [Value.slice l5.1 l5.2 l5.3, Value.slice (some (Addr.mk (Array.size (World.heap w7)) 0 none)) 1 1])) w8 = Result.ok (Value.slice l10.1 l10.2 l10.3) w9 ∧
                           (I3 (Sl.mk l10.1 l10.2 l10.3) (IntKind.wrap IntKind.i64 (n6 + 1)) w9 ∧
                            I4 (Sl.mk l10.1 l10.2 l10.3) (IntKind.wrap IntKind.i64 (n6 + 1)) w9 < I4 l5 n6 w7))))) ∧
                      (decide (n6 < 280) = false →
                        ∀ w11 : World,
                        (w11 = World.alloc w7 (Obj.cells (Array.mk [Value.int IntKind.i64 9]) 3) →
                          ∃ w12 : World, ∃ l13 : Sl, (Sem.run Try.prog (Builtin.append_ (Array.mk [58, 58]) 58 (Array.mk [Value.slice l5.1 l5.2 l5.3, Value.slice (some (Addr.mk (Array.size (World.heap w7)) 0 none)) 1 1])) w11 = Result.ok (Value.slice l13.1 l13.2 l13.3) w12 ∧
                           (I3 (Sl.mk l13.1 l13.2 l13.3) (IntKind.wrap IntKind.i64 (n6 + 1)) w12 ∧
                            I4 (Sl.mk l13.1 l13.2 l13.3) (IntKind.wrap IntKind.i64 (n6 + 1)) w12 < I4 l5 n6 w7))))))) ∧
                   (decide (n6 ≥ 256) = false →
                     ∀ w14 : World,
                     (w14 = World.alloc w7 (Obj.cells (Array.mk [Value.int IntKind.i64 9]) 3) →
                       ∃ w15 : World, ∃ l16 : Sl, (Sem.run Try.prog (Builtin.append_ (Array.mk [58, 58]) 58 (Array.mk [Value.slice l5.1 l5.2 l5.3, Value.slice (some (Addr.mk (Array.size (World.heap w7)) 0 none)) 1 1])) w14 = Result.ok (Value.slice l16.1 l16.2 l16.3) w15 ∧
                        (I3 (Sl.mk l16.1 l16.2 l16.3) (IntKind.wrap IntKind.i64 (n6 + 1)) w15 ∧
                         I4 (Sl.mk l16.1 l16.2 l16.3) (IntKind.wrap IntKind.i64 (n6 + 1)) w15 < I4 l5 n6 w7))))))) ∧
                (decide (n6 < 256) = false →
                  (((decide (n6 ≥ 256) = true →
                     (((decide (n6 < 280) = true →
                        ∀ w17 : World,
                        (w17 = World.alloc w7 (Obj.cells (Array.mk [Value.int IntKind.i64 7]) 3) →
                          ∃ w18 : World, ∃ l19 : Sl, (Sem.run Try.prog (Builtin.append_ (Array.mk [58, 58]) 58 (Array.mk [Value.slice l5.1 l5.2 l5.3, Value.slice (some (Addr.mk (Array.size (World.heap w7)) 0 none)) 1 1])) w17 = Result.ok (Value.slice l19.1 l19.2 l19.3) w18 ∧
                           (I3 (Sl.mk l19.1 l19.2 l19.3) (IntKind.wrap IntKind.i64 (n6 + 1)) w18 ∧
                            I4 (Sl.mk l19.1 l19.2 l19.3) (IntKind.wrap IntKind.i64 (n6 + 1)) w18 < I4 l5 n6 w7))))) ∧
                      (decide (n6 < 280) = false →
                        ∀ w20 : World,
                        (w20 = World.alloc w7 (Obj.cells (Array.mk [Value.int IntKind.i64 8]) 3) →
                          ∃ w21 : World, ∃ l22 : Sl, (Sem.run Try.prog (Builtin.append_ (Array.mk [58, 58]) 58 (Array.mk [Value.slice l5.1 l5.2 l5.3, Value.slice (some (Addr.mk (Array.size (World.heap w7)) 0 none)) 1 1])) w20 = Result.ok (Value.slice l22.1 l22.2 l22.3) w21 ∧
                           (I3 (Sl.mk l22.1 l22.2 l22.3) (IntKind.wrap IntKind.i64 (n6 + 1)) w21 ∧
                            I4 (Sl.mk l22.1 l22.2 l22.3) (IntKind.wrap IntKind.i64 (n6 + 1)) w21 < I4 l5 n6 w7))))))) ∧
                   (decide (n6 ≥ 256) = false →
                     ∀ w23 : World,
                     (w23 = World.alloc w7 (Obj.cells (Array.mk [Value.int IntKind.i64 8]) 3) →
                       ∃ w24 : World, ∃ l25 : Sl, (Sem.run Try.prog (Builtin.append_ (Array.mk [58, 58]) 58 (Array.mk [Value.slice l5.1 l5.2 l5.3, Value.slice (some (Addr.mk (Array.size (World.heap w7)) 0 none)) 1 1])) w23 = Result.ok (Value.slice l25.1 l25.2 l25.3) w24 ∧
                        (I3 (Sl.mk l25.1 l25.2 l25.3) (IntKind.wrap IntKind.i64 (n6 + 1)) w24 ∧
                         I4 (Sl.mk l25.1 l25.2 l25.3) (IntKind.wrap IntKind.i64 (n6 + 1)) w24 < I4 l5 n6 w7))))))))) ∧
             (decide (n6 ≥ 144) = false →
               (((decide (n6 ≥ 256) = true →
                  (((decide (n6 < 280) = true →
                     ∀ w26 : World,
                     (w26 = World.alloc w7 (Obj.cells (Array.mk [Value.int IntKind.i64 7]) 3) →
                       ∃ w27 : World, ∃ l28 : Sl, (Sem.run Try.prog (Builtin.append_ (Array.mk [58, 58]) 58 (Array.mk [Value.slice l5.1 l5.2 l5.3, Value.slice (some (Addr.mk (Array.size (World.heap w7)) 0 none)) 1 1])) w26 = Result.ok (Value.slice l28.1 l28.2 l28.3) w27 ∧
                        (I3 (Sl.mk l28.1 l28.2 l28.3) (IntKind.wrap IntKind.i64 (n6 + 1)) w27 ∧
                         I4 (Sl.mk l28.1 l28.2 l28.3) (IntKind.wrap IntKind.i64 (n6 + 1)) w27 < I4 l5 n6 w7))))) ∧
                   (decide (n6 < 280) = false →
                     ∀ w29 : World,
                     (w29 = World.alloc w7 (Obj.cells (Array.mk [Value.int IntKind.i64 8]) 3) →
                       ∃ w30 : World, ∃ l31 : Sl, (Sem.run Try.prog (Builtin.append_ (Array.mk [58, 58]) 58 (Array.mk [Value.slice l5.1 l5.2 l5.3, Value.slice (some (Addr.mk (Array.size (World.heap w7)) 0 none)) 1 1])) w29 = Result.ok (Value.slice l31.1 l31.2 l31.3) w30 ∧
                        (I3 (Sl.mk l31.1 l31.2 l31.3) (IntKind.wrap IntKind.i64 (n6 + 1)) w30 ∧
                         I4 (Sl.mk l31.1 l31.2 l31.3) (IntKind.wrap IntKind.i64 (n6 + 1)) w30 < I4 l5 n6 w7))))))) ∧
                (decide (n6 ≥ 256) = false →
                  ∀ w32 : World,
                  (w32 = World.alloc w7 (Obj.cells (Array.mk [Value.int IntKind.i64 8]) 3) →
                    ∃ w33 : World, ∃ l34 : Sl, (Sem.run Try.prog (Builtin.append_ (Array.mk [58, 58]) 58 (Array.mk [Value.slice l5.1 l5.2 l5.3, Value.slice (some (Addr.mk (Array.size (World.heap w7)) 0 none)) 1 1])) w32 = Result.ok (Value.slice l34.1 l34.2 l34.3) w33 ∧
                     (I3 (Sl.mk l34.1 l34.2 l34.3) (IntKind.wrap IntKind.i64 (n6 + 1)) w33 ∧
                      I4 (Sl.mk l34.1 l34.2 l34.3) (IntKind.wrap IntKind.i64 (n6 + 1)) w33 < I4 l5 n6 w7))))))))) ∧
          (decide (n6 < 288) = false →
            ∃ I35 : Sl → Int → World → Prop, ∃ I36 : Sl → Int → World → Nat, (I35 (Sl.mk (some (Addr.mk (Array.size (World.heap w1)) 0 none)) 0 0) 0 w7 ∧
             ∀ l37 : Sl,
             ∀ n38 : Int,
             ∀ w39 : World,
             (I35 l37 n38 w39 →
               (((decide (n38 < 32) = true →
                  ∀ w40 : World,
                  (w40 = World.alloc w39 (Obj.cells (Array.mk [Value.int IntKind.i64 5]) 3) →
                    ∃ w41 : World, ∃ l42 : Sl, (Sem.run Try.prog (Builtin.append_ (Array.mk [58, 58]) 58 (Array.mk [Value.slice l37.1 l37.2 l37.3, Value.slice (some (Addr.mk (Array.size (World.heap w39)) 0 none)) 1 1])) w40 = Result.ok (Value.slice l42.1 l42.2 l42.3) w41 ∧
                     (I35 (Sl.mk l42.1 l42.2 l42.3) (IntKind.wrap IntKind.i64 (n38 + 1)) w41 ∧
                      I36 (Sl.mk l42.1 l42.2 l42.3) (IntKind.wrap IntKind.i64 (n38 + 1)) w41 < I36 l37 n38 w39))))) ∧
                (decide (n38 < 32) = false →
                  R (Value.tuple (Array.mk [Value.slice l5.1 l5.2 l5.3, Value.slice l37.1 l37.2 l37.3])) w39))))))))))
theorem vc_cartularyref05_Fixed_ok {w : World} {R : Value → World → Prop} {R' : Ending → World → Prop} (h : vc_cartularyref05_Fixed w R) (hR : ∀ v w', R v w' → R' (.returned v) w') :
    Calls Try.prog 33 #[] w R' :=
  calls_of_body (vs := []) (ty := ty) (ann := ⟨[], [(3, [(2, .slice), (4, .int .i64)]), (12, [(3, .slice), (6, .int .i64)])], [], []⟩) (c := Try.f33.body.getD .skip) (by kernel_rfl) Try.func33 (by kernel_rfl) (by kernel_rfl) (Eq.mp (by kernel_rfl) h) hR
/-- (*cartularyref05.Stream).dynamic -/
def vc_cartularyref05_Stream_dynamic (x0 : Nat) (w : World) (R : Value → World → Prop) : Prop :=
  ∃ I1 : World → Prop, ((∃ n2 : Int, (World.cell? w (Addr.mk x0 4 none) = some (Value.int IntKind.i64 n2) ∧
    ((((n2 == 0) = true →
       ∃ l3 : Sl, (World.cell? w (Addr.mk x0 0 none) = some (Value.slice l3.1 l3.2 l3.3) ∧
        ∃ n4 : Int, (World.cell? w (Addr.mk x0 1 none) = some (Value.int IntKind.i64 n4) ∧
         ∀ w5 : World,
         (Drew w w5 →
           (((decide (IntKind.wrap IntKind.i64 ((↑l3.2 : Int) - n4) < 14) = true →
              Calls Try.prog (30 : Nat) (Array.mk [Value.pointer (some (Addr.mk x0 0 none)), Value.int IntKind.i64 6]) (w5) (fun e6 w7 =>
                (e6 = Ending.returned (Value.tuple (Array.mk [])) ∧
                 I1 w7)))) ∧
            (decide (IntKind.wrap IntKind.i64 ((↑l3.2 : Int) - n4) < 14) = false →
              I1 w5))))))) ∧
     ((n2 == 0) = false →
       ∀ w8 : World,
       (Drew w w8 →
         I1 w8))))) ∧
   ∀ w9 : World,
   (I1 w9 →
     Calls Try.prog (31 : Nat) (Array.mk [Value.pointer (some (Addr.mk x0 0 none)), Value.int IntKind.i64 5]) (w9) (fun e10 w11 =>
       ∃ n12 : Int, (e10 = Ending.returned (Value.int IntKind.i64 n12) ∧
        Calls Try.prog (31 : Nat) (Array.mk [Value.pointer (some (Addr.mk x0 0 none)), Value.int IntKind.i64 5]) (w11) (fun e13 w14 =>
          ∃ n15 : Int, (e13 = Ending.returned (Value.int IntKind.i64 n15) ∧
           Calls Try.prog (31 : Nat) (Array.mk [Value.pointer (some (Addr.mk x0 0 none)), Value.int IntKind.i64 4]) (w14) (fun e16 w17 =>
             ∃ n18 : Int, (e16 = Ending.returned (Value.int IntKind.i64 n18) ∧
              ∃ I19 : World → Prop, ((((decide (IntKind.wrap IntKind.i64 (n12 + 257) > 286) = true →
                  Calls Try.prog (30 : Nat) (Array.mk [Value.pointer (some (Addr.mk x0 0 none)), Value.int IntKind.i64 3]) (w17) (fun e20 w21 =>
                    (e20 = Ending.returned (Value.tuple (Array.mk [])) ∧
                     I19 w21)))) ∧
                (decide (IntKind.wrap IntKind.i64 (n12 + 257) > 286) = false →
                  (((decide (IntKind.wrap IntKind.i64 (n15 + 1) > 30) = true →
                     Calls Try.prog (30 : Nat) (Array.mk [Value.pointer (some (Addr.mk x0 0 none)), Value.int IntKind.i64 3]) (w17) (fun e22 w23 =>
                       (e22 = Ending.returned (Value.tuple (Array.mk [])) ∧
                        I19 w23)))) ∧
                   (decide (IntKind.wrap IntKind.i64 (n15 + 1) > 30) = false →
                     I19 w17)))) ∧
               ∀ w24 : World,
               (I19 w24 →
                 ∃ w25 : World, ∃ l26 : Sl, (Sem.run Try.prog (Instr.makeSlice 58 (Value.int IntKind.i64 19) (Value.int IntKind.i64 19)) w24 = Result.ok (Value.slice l26.1 l26.2 l26.3) w25 ∧
                  ∀ w27 : World,
                  (w27 = World.alloc w25 (Obj.cells (Array.mk [Value.int IntKind.i64 16, Value.int IntKind.i64 17, Value.int IntKind.i64 18, Value.int IntKind.i64 0, Value.int IntKind.i64 8, Value.int IntKind.i64 7, Value.int IntKind.i64 9, Value.int IntKind.i64 6, Value.int IntKind.i64 10, Value.int IntKind.i64 5, Value.int IntKind.i64 11, Value.int IntKind.i64 4, Value.int IntKind.i64 12, Value.int IntKind.i64 3, Value.int IntKind.i64 13, Value.int IntKind.i64 2, Value.int IntKind.i64 14, Value.int IntKind.i64 1, Value.int IntKind.i64 15]) 3) →
                    ∃ I28 : World → Prop, ((∃ I29 : Int → World → Prop, ∃ I30 : Int → World → Nat, (I29 0 w27 ∧
                      ∀ n31 : Int,
                      ∀ w32 : World,
                      (I29 n31 w32 →
                        (((decide (n31 < IntKind.wrap IntKind.i64 (n18 + 4)) = true →
                           ∃ n33 : Int, (World.cell? w32 (Addr.mk x0 4 none) = some (Value.int IntKind.i64 n33) ∧
                            ((((n33 == 0) = true →
                               ∀ w34 : World,
                               (Drew w32 w34 →
                                 ∃ I35 : World → Prop, (I35 w34 ∧
                                  ((0 ≤ n31 ∧
                                    n31 < (↑19 : Int)) ∧
                                   ∃ a36 : Addr, (some (Addr.mk (Array.size (World.heap w25)) 0 none) = some a36 ∧
                                    ∃ n37 : Int, ((∀ w38 : World,
                                     (I35 w38 →
                                       World.cell? w38 (Addr.add a36 (Int.toNat n31 * 1)) = some (Value.int IntKind.i64 n37))) ∧
                                     Calls Try.prog (31 : Nat) (Array.mk [Value.pointer (some (Addr.mk x0 0 none)), Value.int IntKind.i64 3]) (w34) (fun e39 w40 =>
                                       ∃ n41 : Int, (e39 = Ending.returned (Value.int IntKind.i64 n41) ∧
                                        (I35 w40 ∧
                                         ((0 ≤ n37 ∧
                                           n37 < (↑l26.2 : Int)) ∧
                                          ∃ a42 : Addr, (l26.1 = some a42 ∧
                                           (Wr w40 (Addr.add a42 (Int.toNat n37 * 1)) ∧
                                            ∀ w43 : World,
                                            (w43 = World.setCell w40 (Addr.add a42 (Int.toNat n37 * 1)) (Value.int IntKind.i64 n41) →
                                              (I29 (IntKind.wrap IntKind.i64 (n31 + 1)) w43 ∧
                                               I30 (IntKind.wrap IntKind.i64 (n31 + 1)) w43 < I30 n31 w32))))))))))))))) ∧
                             ((n33 == 0) = false →
                               I28 w32))))) ∧
                         (decide (n31 < IntKind.wrap IntKind.i64 (n18 + 4)) = false →
                           I28 w32))))) ∧
                     ∀ w44 : World,
                     (I28 w44 →
                       ∃ I45 : World → Prop, ((∃ n46 : Int, (World.cell? w44 (Addr.mk x0 4 none) = some (Value.int IntKind.i64 n46) ∧
                         ((((n46 == 0) = true →
                            Calls Try.prog (63 : Nat) (Array.mk [Value.slice l26.1 l26.2 l26.3]) (w44) (fun e47 w48 =>
                              ∃ n49 : Int, (e47 = Ending.returned (Value.int IntKind.i64 n49) ∧
                               ((((n49 != 0) = true →
                                  Calls Try.prog (30 : Nat) (Array.mk [Value.pointer (some (Addr.mk x0 0 none)), Value.int IntKind.i64 3]) (w48) (fun e50 w51 =>
                                    (e50 = Ending.returned (Value.tuple (Array.mk [])) ∧
                                     I45 w51)))) ∧
                                ((n49 != 0) = false →
                                  I45 w48)))))) ∧
                          ((n46 == 0) = false →
                            I45 w44)))) ∧
                        ∀ w52 : World,
                        (I45 w52 →
                          ∃ n53 : Int, (World.cell? w52 (Addr.mk x0 4 none) = some (Value.int IntKind.i64 n53) ∧
                           ((((n53 != 0) = true →
                              R (Value.tuple (Array.mk [Value.slice none 0 0, Value.slice none 0 0])) w52)) ∧
                            ((n53 != 0) = false →
                              Calls Try.prog (60 : Nat) (Array.mk [Value.slice l26.1 l26.2 l26.3]) (w52) (fun e54 w55 =>
                                ∃ l56 : Sl, (e54 = Ending.returned (Value.slice l56.1 l56.2 l56.3) ∧
                                 ∀ w57 : World,
                                 (w57 = World.alloc w55 (Obj.cells (Array.mk []) 3) →
                                   ∃ I58 : Sl → World → Prop, ((∃ I59 : Sl → World → Prop, ∃ I60 : Sl → World → Nat, (I59 (Sl.mk (some (Addr.mk (Array.size (World.heap w55)) 0 none)) 0 0) w57 ∧
                                     ∀ l61 : Sl,
                                     ∀ w62 : World,
                                     (I59 l61 w62 →
                                       (((decide ((↑l61.2 : Int) < IntKind.wrap IntKind.i64 (IntKind.wrap IntKind.i64 (n12 + 257) + IntKind.wrap IntKind.i64 (n15 + 1))) = true →
                                          ∃ n63 : Int, (World.cell? w62 (Addr.mk x0 4 none) = some (Value.int IntKind.i64 n63) ∧
                                           ((((n63 == 0) = true →
                                              Calls Try.prog (62 : Nat) (Array.mk [Value.pointer (some (Addr.mk x0 0 none)), Value.slice l56.1 l56.2 l56.3]) (w62) (fun e64 w65 =>
                                                ∃ n66 : Int, (e64 = Ending.returned (Value.int IntKind.i64 n66) ∧
                                                 ∃ I67 : Int → Int → World → Prop, (((((n66 == 16) = true →
                                                     (((((↑l61.2 : Int) == 0) = true →
                                                        Calls Try.prog (30 : Nat) (Array.mk [Value.pointer (some (Addr.mk x0 0 none)), Value.int IntKind.i64 3]) (w65) (fun e68 w69 =>
                                                          (e68 = Ending.returned (Value.tuple (Array.mk [])) ∧
                                                           R (Value.tuple (Array.mk [Value.slice none 0 0, Value.slice none 0 0])) w69)))) ∧
                                                      (((↑l61.2 : Int) == 0) = false →
                                                        ((0 ≤ IntKind.wrap IntKind.i64 ((↑l61.2 : Int) - 1) ∧
                                                          IntKind.wrap IntKind.i64 ((↑l61.2 : Int) - 1) < (↑l61.2 : Int)) ∧
                                                         ∃ a70 : Addr, (l61.1 = some a70 ∧
                                                          ∃ n71 : Int, (World.cell? w65 (Addr.add a70 (Int.toNat (IntKind.wrap IntKind.i64 ((↑l61.2 : Int) - 1)) * 1)) = some (Value.int IntKind.i64 n71) ∧
                                                           Calls Try.prog (31 : Nat) (Array.mk [Value.pointer (some (Addr.mk x0 0 none)), Value.int IntKind.i64 2]) (w65) (fun e72 w73 =>
                                                             ∃ n74 : Int, (e72 = Ending.returned (Value.int IntKind.i64 n74) ∧
                                                              I67 (IntKind.wrap IntKind.i64 (3 + n74)) n71 w73))))))))) ∧
                                                   ((n66 == 16) = false →
                                                     ((((n66 == 17) = true →
                                                        Calls Try.prog (31 : Nat) (Array.mk [Value.pointer (some (Addr.mk x0 0 none)), Value.int IntKind.i64 3]) (w65) (fun e75 w76 =>
                                                          ∃ n77 : Int, (e75 = Ending.returned (Value.int IntKind.i64 n77) ∧
                                                           I67 (IntKind.wrap IntKind.i64 (3 + n77)) 0 w76)))) ∧
                                                      ((n66 == 17) = false →
                                                        ((((n66 == 18) = true →
                                                           Calls Try.prog (31 : Nat) (Array.mk [Value.pointer (some (Addr.mk x0 0 none)), Value.int IntKind.i64 7]) (w65) (fun e78 w79 =>
                                                             ∃ n80 : Int, (e78 = Ending.returned (Value.int IntKind.i64 n80) ∧
                                                              I67 (IntKind.wrap IntKind.i64 (11 + n80)) 0 w79)))) ∧
                                                         ((n66 == 18) = false →
                                                           I67 1 n66 w65)))))) ∧
                                                  ∀ n81 : Int,
                                                  ∀ n82 : Int,
                                                  ∀ w83 : World,
                                                  (I67 n81 n82 w83 →
                                                    ∃ I84 : World → Prop, ((∃ n85 : Int, (World.cell? w83 (Addr.mk x0 4 none) = some (Value.int IntKind.i64 n85) ∧
                                                      ((((n85 == 0) = true →
                                                         (((decide (IntKind.wrap IntKind.i64 ((↑l61.2 : Int) + n81) > IntKind.wrap IntKind.i64 (IntKind.wrap IntKind.i64 (n12 + 257) + IntKind.wrap IntKind.i64 (n15 + 1))) = true →
                                                            Calls Try.prog (30 : Nat) (Array.mk [Value.pointer (some (Addr.mk x0 0 none)), Value.int IntKind.i64 3]) (w83) (fun e86 w87 =>
                                                              (e86 = Ending.returned (Value.tuple (Array.mk [])) ∧
                                                               I84 w87)))) ∧
                                                          (decide (IntKind.wrap IntKind.i64 ((↑l61.2 : Int) + n81) > IntKind.wrap IntKind.i64 (IntKind.wrap IntKind.i64 (n12 + 257) + IntKind.wrap IntKind.i64 (n15 + 1))) = false →
                                                            I84 w83)))) ∧
                                                       ((n85 == 0) = false →
                                                         I84 w83)))) ∧
                                                     ∀ w88 : World,
                                                     (I84 w88 →
                                                       ∃ I89 : Sl → Int → World → Prop, ∃ I90 : Sl → Int → World → Nat, (I89 (Sl.mk l61.1 l61.2 l61.3) 0 w88 ∧
                                                        ∀ l91 : Sl,
                                                        ∀ n92 : Int,
                                                        ∀ w93 : World,
                                                        (I89 l91 n92 w93 →
                                                          (((decide (n92 < n81) = true →
                                                             ∃ n94 : Int, (World.cell? w93 (Addr.mk x0 4 none) = some (Value.int IntKind.i64 n94) ∧
                                                              ((((n94 == 0) = true →
                                                                 ∀ w95 : World,
                                                                 (w95 = World.alloc w93 (Obj.cells (Array.mk [Value.int IntKind.i64 n82]) 3) →
                                                                   ∃ w96 : World, ∃ l97 : Sl, (Sem.run Try.prog (Builtin.append_ (Array.mk [58, 58]) 58 (Array.mk [Value.slice l91.1 l91.2 l91.3, Value.slice (some (Addr.mk (Array.size (World.heap w93)) 0 none)) 1 1])) w95 = Result.ok (Value.slice l97.1 l97.2 l97.3) w96 ∧
                                                                    (I89 (Sl.mk l97.1 l97.2 l97.3) (IntKind.wrap IntKind.i64 (n92 + 1)) w96 ∧
                                                                     I90 (Sl.mk l97.1 l97.2 l97.3) (IntKind.wrap IntKind.i64 (n92 + 1)) w96 < I90 l91 n92 w93))))) ∧
                                                               ((n94 == 0) = false →
                                                                 (I59 (Sl.mk l91.1 l91.2 l91.3) w93 ∧
                                                                  I60 (Sl.mk l91.1 l91.2 l91.3) w93 < I60 l61 w62)))))) ∧
                                                           (decide (n92 < n81) = false →
                                                             (I59 (Sl.mk l91.1 l91.2 l91.3) w93 ∧
                                                              I60 (Sl.mk l91.1 l91.2 l91.3) w93 < I60 l61 w62))))))))))))) ∧
                                            ((n63 == 0) = false →
                                              I58 (Sl.mk l61.1 l61.2 l61.3) w62))))) ∧
                                        (decide ((↑l61.2 : Int) < IntKind.wrap IntKind.i64 (IntKind.wrap IntKind.i64 (n12 + 257) + IntKind.wrap IntKind.i64 (n15 + 1))) = false →
                                          I58 (Sl.mk l61.1 l61.2 l61.3) w62))))) ∧
                                    ∀ l98 : Sl,
                                    ∀ w99 : World,
                                    (I58 l98 w99 →
                                      ∃ n100 : Int, (World.cell? w99 (Addr.mk x0 4 none) = some (Value.int IntKind.i64 n100) ∧
                                       ((((n100 != 0) = true →
                                          R (Value.tuple (Array.mk [Value.slice none 0 0, Value.slice none 0 0])) w99)) ∧
                                        ((n100 != 0) = false →
                                          (((0 : Int) ≤ (256 : Int) ∧
                                            256 < (↑l98.2 : Int)) ∧
                                           ∃ a101 : Addr, (l98.1 = some a101 ∧
                                            ∃ n102 : Int, (World.cell? w99 (Addr.add a101 (Int.toNat 256 * 1)) = some (Value.int IntKind.i64 n102) ∧
                                             ((((n102 == 0) = true →
                                                Calls Try.prog (30 : Nat) (Array.mk [Value.pointer (some (Addr.mk x0 0 none)), Value.int IntKind.i64 3]) (w99) (fun e103 w104 =>
                                                  (e103 = Ending.returned (Value.tuple (Array.mk [])) ∧
                                                   R (Value.tuple (Array.mk [Value.slice none 0 0, Value.slice none 0 0])) w104)))) ∧
                                              ((n102 == 0) = false →
                                                ((0 ≤ IntKind.wrap IntKind.i64 (n12 + 257) ∧
                                                  IntKind.wrap IntKind.i64 (n12 + 257) ≤ (↑l98.3 : Int)) ∧
                                                 Calls Try.prog (63 : Nat) (Array.mk [Value.slice (subA l98.1 l98.3 0 1) (Int.toNat (IntKind.wrap IntKind.i64 (n12 + 257))) l98.3]) (w99) (fun e105 w106 =>
                                                   ∃ n107 : Int, (e105 = Ending.returned (Value.int IntKind.i64 n107) ∧
                                                    ((((n107 != 0) = true →
                                                       Calls Try.prog (30 : Nat) (Array.mk [Value.pointer (some (Addr.mk x0 0 none)), Value.int IntKind.i64 3]) (w106) (fun e108 w109 =>
                                                         (e108 = Ending.returned (Value.tuple (Array.mk [])) ∧
                                                          R (Value.tuple (Array.mk [Value.slice none 0 0, Value.slice none 0 0])) w109)))) ∧
                                                     ((n107 != 0) = false →
                                                       ((0 ≤ IntKind.wrap IntKind.i64 (n12 + 257) ∧
                                                         IntKind.wrap IntKind.i64 (n12 + 257) ≤ (↑l98.2 : Int)) ∧
                                                        Calls Try.prog (63 : Nat) (Array.mk [Value.slice (subA l98.1 l98.3 (Int.toNat (IntKind.wrap IntKind.i64 (n12 + 257))) 1) (l98.2 - Int.toNat (IntKind.wrap IntKind.i64 (n12 + 257))) (l98.3 - Int.toNat (IntKind.wrap IntKind.i64 (n12 + 257)))]) (w106) (fun e110 w111 =>
                                                          ∃ n112 : Int, (e110 = Ending.returned (Value.int IntKind.i64 n112) ∧
                                                           ((((n112 != 0) = true →
                                                              Calls Try.prog (30 : Nat) (Array.mk [Value.pointer (some (Addr.mk x0 0 none)), Value.int IntKind.i64 3]) (w111) (fun e113 w114 =>
                                                                (e113 = Ending.returned (Value.tuple (Array.mk [])) ∧
                                                                 R (Value.tuple (Array.mk [Value.slice none 0 0, Value.slice none 0 0])) w114)))) ∧
                                                            ((n112 != 0) = false →
                                                              ((0 ≤ IntKind.wrap IntKind.i64 (n12 + 257) ∧
                                                                IntKind.wrap IntKind.i64 (n12 + 257) ≤ (↑l98.3 : Int)) ∧
                                                               ((0 ≤ IntKind.wrap IntKind.i64 (n12 + 257) ∧
                                                                 IntKind.wrap IntKind.i64 (n12 + 257) ≤ (↑l98.2 : Int)) ∧
                                                                ∀ w115 : World,
                                                                (Drew w111 w115 →
                                                                  R (Value.tuple (Array.mk [Value.slice (subA l98.1 l98.3 0 1) (Int.toNat (IntKind.wrap IntKind.i64 (n12 + 257))) l98.3, Value.slice (subA l98.1 l98.3 (Int.toNat (IntKind.wrap IntKind.i64 (n12 + 257))) 1) (l98.2 - Int.toNat (IntKind.wrap IntKind.i64 (n12 + 257))) (l98.3 - Int.toNat (IntKind.wrap IntKind.i64 (n12 + 257)))])) w115)))))))))))))))))))))))))))))))))))))))))))))
theorem vc_cartularyref05_Stream_dynamic_ok {x0 : Nat} {w : World} {R : Value → World → Prop} {R' : Ending → World → Prop} (h : vc_cartularyref05_Stream_dynamic x0 w R) (hR : ∀ v w', R v w' → R' (.returned v) w') :
    Calls Try.prog 35 #[.pointer (some ⟨x0, 0, none⟩)] w R' :=
  calls_of_body (vs := [(.pointer (some ⟨x0, 0, none⟩), true)]) (ty := ty) (ann := ⟨[(3, []), (6, []), (12, []), (14, []), (34, [(13, .int .i64), (14, .int .i64)]), (36, []), (40, [(11, .slice)])], [(9, [(9, .int .i64)]), (18, [(11, .slice)]), (37, [(11, .slice), (15, .int .i64)])], [(1, .quiet), (11, .held [(0, true), (1, true), (2, true), (3, true), (4, true), (5, true), (6, false), (7, true), (8, false)]), (45, .quiet)], []⟩) (c := Try.f35.body.getD .skip) (by kernel_rfl) Try.func35 (by kernel_rfl) (by kernel_rfl) (Eq.mp (by kernel_rfl) h) hR
/-- cartularyref05.Lengths -/
def vc_cartularyref05_Lengths (w : World) (R : Value → World → Prop) : Prop :=
  ∀ w1 : World,
  (w1 = World.alloc w (Obj.cells (Array.mk []) 3) →
    ∀ w2 : World,
    (w2 = World.alloc w1 (Obj.cells (Array.mk []) 3) →
      ∃ I3 : Sl → Sl → Int → Int → World → Prop, ∃ I4 : Sl → Sl → Int → Int → World → Nat, (I3 (Sl.mk (some (Addr.mk (Array.size (World.heap w)) 0 none)) 0 0) (Sl.mk (some (Addr.mk (Array.size (World.heap w1)) 0 none)) 0 0) 3 0 w2 ∧
       ∀ l5 : Sl,
       ∀ l6 : Sl,
       ∀ n7 : Int,
       ∀ n8 : Int,
       ∀ w9 : World,
       (I3 l5 l6 n7 n8 w9 →
         (((decide (n8 < 28) = true →
            ∃ I10 : Int → World → Prop, ((((decide (n8 ≥ 8) = true →
                ((4 : Int) ≠ (0 : Int) ∧
                 I10 (IntKind.wrap IntKind.i64 (IntKind.wrap IntKind.i64 (Int.tdiv n8 4) - 1)) w9))) ∧
              (decide (n8 ≥ 8) = false →
                I10 0 w9)) ∧
             ∀ n11 : Int,
             ∀ w12 : World,
             (I10 n11 w12 →
               ∀ w13 : World,
               (w13 = World.alloc w12 (Obj.cells (Array.mk [Value.int IntKind.i64 n7]) 3) →
                 ∃ w14 : World, ∃ l15 : Sl, (Sem.run Try.prog (Builtin.append_ (Array.mk [58, 58]) 58 (Array.mk [Value.slice l5.1 l5.2 l5.3, Value.slice (some (Addr.mk (Array.size (World.heap w12)) 0 none)) 1 1])) w13 = Result.ok (Value.slice l15.1 l15.2 l15.3) w14 ∧
                  ∀ w16 : World,
                  (w16 = World.alloc w14 (Obj.cells (Array.mk [Value.int IntKind.i64 n11]) 3) →
                    ∃ w17 : World, ∃ l18 : Sl, (Sem.run Try.prog (Builtin.append_ (Array.mk [58, 58]) 58 (Array.mk [Value.slice l6.1 l6.2 l6.3, Value.slice (some (Addr.mk (Array.size (World.heap w14)) 0 none)) 1 1])) w16 = Result.ok (Value.slice l18.1 l18.2 l18.3) w17 ∧
                     (0 ≤ n11 ∧
                      (I3 (Sl.mk l15.1 l15.2 l15.3) (Sl.mk l18.1 l18.2 l18.3) (IntKind.wrap IntKind.i64 (n7 + IntKind.wrap IntKind.i64 (1 * 2 ^ min (Int.toNat n11) 64))) (IntKind.wrap IntKind.i64 (n8 + 1)) w17 ∧
                       I4 (Sl.mk l15.1 l15.2 l15.3) (Sl.mk l18.1 l18.2 l18.3) (IntKind.wrap IntKind.i64 (n7 + IntKind.wrap IntKind.i64 (1 * 2 ^ min (Int.toNat n11) 64))) (IntKind.wrap IntKind.i64 (n8 + 1)) w17 < I4 l5 l6 n7 n8 w9)))))))))) ∧
          (decide (n8 < 28) = false →
            ∀ w19 : World,
            (w19 = World.alloc w9 (Obj.cells (Array.mk [Value.int IntKind.i64 258]) 3) →
              ∃ w20 : World, ∃ l21 : Sl, (Sem.run Try.prog (Builtin.append_ (Array.mk [58, 58]) 58 (Array.mk [Value.slice l5.1 l5.2 l5.3, Value.slice (some (Addr.mk (Array.size (World.heap w9)) 0 none)) 1 1])) w19 = Result.ok (Value.slice l21.1 l21.2 l21.3) w20 ∧
               ∀ w22 : World,
               (w22 = World.alloc w20 (Obj.cells (Array.mk [Value.int IntKind.i64 0]) 3) →
                 ∃ w23 : World, ∃ l24 : Sl, (Sem.run Try.prog (Builtin.append_ (Array.mk [58, 58]) 58 (Array.mk [Value.slice l6.1 l6.2 l6.3, Value.slice (some (Addr.mk (Array.size (World.heap w20)) 0 none)) 1 1])) w22 = Result.ok (Value.slice l24.1 l24.2 l24.3) w23 ∧
                  ∀ w25 : World,
                  (w25 = World.alloc w23 (Obj.cells (Array.mk []) 3) →
                    ∀ w26 : World,
                    (w26 = World.alloc w25 (Obj.cells (Array.mk []) 3) →
                      ∃ I27 : Int → Sl → Sl → Int → World → Prop, ∃ I28 : Int → Sl → Sl → Int → World → Nat, (I27 1 (Sl.mk (some (Addr.mk (Array.size (World.heap w23)) 0 none)) 0 0) (Sl.mk (some (Addr.mk (Array.size (World.heap w25)) 0 none)) 0 0) 0 w26 ∧
                       ∀ n29 : Int,
                       ∀ l30 : Sl,
                       ∀ l31 : Sl,
                       ∀ n32 : Int,
                       ∀ w33 : World,
                       (I27 n29 l30 l31 n32 w33 →
                         (((decide (n32 < 30) = true →
                            ∃ I34 : Int → World → Prop, ((((decide (n32 ≥ 4) = true →
                                ((2 : Int) ≠ (0 : Int) ∧
                                 I34 (IntKind.wrap IntKind.i64 (IntKind.wrap IntKind.i64 (Int.tdiv n32 2) - 1)) w33))) ∧
                              (decide (n32 ≥ 4) = false →
                                I34 0 w33)) ∧
                             ∀ n35 : Int,
                             ∀ w36 : World,
                             (I34 n35 w36 →
                               ∀ w37 : World,
                               (w37 = World.alloc w36 (Obj.cells (Array.mk [Value.int IntKind.i64 n29]) 3) →
                                 ∃ w38 : World, ∃ l39 : Sl, (Sem.run Try.prog (Builtin.append_ (Array.mk [58, 58]) 58 (Array.mk [Value.slice l30.1 l30.2 l30.3, Value.slice (some (Addr.mk (Array.size (World.heap w36)) 0 none)) 1 1])) w37 = Result.ok (Value.slice l39.1 l39.2 l39.3) w38 ∧
                                  ∀ w40 : World,
                                  (w40 = World.alloc w38 (Obj.cells (Array.mk [Value.int IntKind.i64 n35]) 3) →
                                    ∃ w41 : World, ∃ l42 : Sl, (Sem.run Try.prog (Builtin.append_ (Array.mk [58, 58]) 58 (Array.mk [Value.slice l31.1 l31.2 l31.3, Value.slice (some (Addr.mk (Array.size (World.heap w38)) 0 none)) 1 1])) w40 = Result.ok (Value.slice l42.1 l42.2 l42.3) w41 ∧
                                     (0 ≤ n35 ∧
                                      (I27 (IntKind.wrap IntKind.i64 (n29 + IntKind.wrap IntKind.i64 (1 * 2 ^ min (Int.toNat n35) 64))) (Sl.mk l39.1 l39.2 l39.3) (Sl.mk l42.1 l42.2 l42.3) (IntKind.wrap IntKind.i64 (n32 + 1)) w41 ∧
                                       I28 (IntKind.wrap IntKind.i64 (n29 + IntKind.wrap IntKind.i64 (1 * 2 ^ min (Int.toNat n35) 64))) (Sl.mk l39.1 l39.2 l39.3) (Sl.mk l42.1 l42.2 l42.3) (IntKind.wrap IntKind.i64 (n32 + 1)) w41 < I28 n29 l30 l31 n32 w33)))))))))) ∧
                          (decide (n32 < 30) = false →
                            R (Value.tuple (Array.mk [Value.slice l21.1 l21.2 l21.3, Value.slice l24.1 l24.2 l24.3, Value.slice l30.1 l30.2 l30.3, Value.slice l31.1 l31.2 l31.3])) w33))))))))))))))))
theorem vc_cartularyref05_Lengths_ok {w : World} {R : Value → World → Prop} {R' : Ending → World → Prop} (h : vc_cartularyref05_Lengths w R) (hR : ∀ v w', R v w' → R' (.returned v) w') :
    Calls Try.prog 61 #[] w R' :=
  calls_of_body (vs := []) (ty := ty) (ann := ⟨[(9, [(8, .int .i64)]), (22, [(12, .int .i64)])], [(4, [(4, .slice), (5, .slice), (6, .int .i64), (7, .int .i64)]), (17, [(6, .int .i64), (9, .slice), (10, .slice), (11, .int .i64)])], [], []⟩) (c := Try.f61.body.getD .skip) (by kernel_rfl) Try.func61 (by kernel_rfl) (by kernel_rfl) (Eq.mp (by kernel_rfl) h) hR
/-- (*cartularyref05.Stream).packed -/
def vc_cartularyref05_Stream_packed (x0 : Nat) (x1a : Option Addr) (x1n : Nat) (x1c : Nat) (x2a : Option Addr) (x2n : Nat) (x2c : Nat) (w : World) (R : Value → World → Prop) : Prop :=
  Calls Try.prog (60 : Nat) (Array.mk [Value.slice x1a x1n x1c]) (w) (fun e1 w2 =>
    ∃ l3 : Sl, (e1 = Ending.returned (Value.slice l3.1 l3.2 l3.3) ∧
     Calls Try.prog (60 : Nat) (Array.mk [Value.slice x2a x2n x2c]) (w2) (fun e4 w5 =>
       ∃ l6 : Sl, (e4 = Ending.returned (Value.slice l6.1 l6.2 l6.3) ∧
        Calls Try.prog (61 : Nat) (Array.mk []) (w5) (fun e7 w8 =>
          ∃ l9 : Sl, ∃ l10 : Sl, ∃ l11 : Sl, ∃ l12 : Sl, (e7 = Ending.returned (Value.tuple (Array.mk [Value.slice l9.1 l9.2 l9.3, Value.slice l10.1 l10.2 l10.3, Value.slice l11.1 l11.2 l11.3, Value.slice l12.1 l12.2 l12.3])) ∧
           ∃ I13 : World → Prop, ∃ I14 : World → Nat, (I13 w8 ∧
            ∀ w15 : World,
            (I13 w15 →
              ∃ n16 : Int, (World.cell? w15 (Addr.mk x0 4 none) = some (Value.int IntKind.i64 n16) ∧
               ((((n16 == 0) = true →
                  Calls Try.prog (62 : Nat) (Array.mk [Value.pointer (some (Addr.mk x0 0 none)), Value.slice l3.1 l3.2 l3.3]) (w15) (fun e17 w18 =>
                    ∃ n19 : Int, (e17 = Ending.returned (Value.int IntKind.i64 n19) ∧
                     ∃ n20 : Int, (World.cell? w18 (Addr.mk x0 4 none) = some (Value.int IntKind.i64 n20) ∧
                      ((((n20 != 0) = true →
                         R (Value.tuple (Array.mk [])) w18)) ∧
                       ((n20 != 0) = false →
                         ((((n19 == 256) = true →
                            R (Value.tuple (Array.mk [])) w18)) ∧
                          ((n19 == 256) = false →
                            (((decide (n19 < 256) = true →
                               Calls Try.prog (59 : Nat) (Array.mk [Value.pointer (some (Addr.mk x0 0 none)), Value.int IntKind.u8 (IntKind.wrap IntKind.u8 n19)]) (w18) (fun e21 w22 =>
                                 (e21 = Ending.returned (Value.tuple (Array.mk [])) ∧
                                  (I13 w22 ∧
                                   I14 w22 < I14 w15))))) ∧
                             (decide (n19 < 256) = false →
                               (((decide (n19 > 285) = true →
                                  Calls Try.prog (30 : Nat) (Array.mk [Value.pointer (some (Addr.mk x0 0 none)), Value.int IntKind.i64 3]) (w18) (fun e23 w24 =>
                                    (e23 = Ending.returned (Value.tuple (Array.mk [])) ∧
                                     R (Value.tuple (Array.mk [])) w24)))) ∧
                                (decide (n19 > 285) = false →
                                  ∀ w25 : World,
                                  (Drew w18 w25 →
                                    ∃ I26 : World → Prop, (I26 w25 ∧
                                     ((0 ≤ IntKind.wrap IntKind.i64 (n19 - 257) ∧
                                       IntKind.wrap IntKind.i64 (n19 - 257) < (↑l9.2 : Int)) ∧
                                      ∃ a27 : Addr, (l9.1 = some a27 ∧
                                       ∃ n28 : Int, ((∀ w29 : World,
                                        (I26 w29 →
                                          World.cell? w29 (Addr.add a27 (Int.toNat (IntKind.wrap IntKind.i64 (n19 - 257)) * 1)) = some (Value.int IntKind.i64 n28))) ∧
                                        ((0 ≤ IntKind.wrap IntKind.i64 (n19 - 257) ∧
                                          IntKind.wrap IntKind.i64 (n19 - 257) < (↑l10.2 : Int)) ∧
                                         ∃ a30 : Addr, (l10.1 = some a30 ∧
                                          ∃ n31 : Int, ((∀ w32 : World,
                                           (I26 w32 →
                                             World.cell? w32 (Addr.add a30 (Int.toNat (IntKind.wrap IntKind.i64 (n19 - 257)) * 1)) = some (Value.int IntKind.i64 n31))) ∧
                                           Calls Try.prog (31 : Nat) (Array.mk [Value.pointer (some (Addr.mk x0 0 none)), Value.int IntKind.i64 n31]) (w25) (fun e33 w34 =>
                                             ∃ n35 : Int, (e33 = Ending.returned (Value.int IntKind.i64 n35) ∧
                                              (I26 w34 ∧
                                               Calls Try.prog (62 : Nat) (Array.mk [Value.pointer (some (Addr.mk x0 0 none)), Value.slice l6.1 l6.2 l6.3]) (w34) (fun e36 w37 =>
                                                 ∃ n38 : Int, (e36 = Ending.returned (Value.int IntKind.i64 n38) ∧
                                                  ∃ I39 : World → Prop, ((∃ n40 : Int, (World.cell? w37 (Addr.mk x0 4 none) = some (Value.int IntKind.i64 n40) ∧
                                                    ((((n40 == 0) = true →
                                                       (((decide (n38 > 29) = true →
                                                          Calls Try.prog (30 : Nat) (Array.mk [Value.pointer (some (Addr.mk x0 0 none)), Value.int IntKind.i64 3]) (w37) (fun e41 w42 =>
                                                            (e41 = Ending.returned (Value.tuple (Array.mk [])) ∧
                                                             I39 w42)))) ∧
                                                        (decide (n38 > 29) = false →
                                                          I39 w37)))) ∧
                                                     ((n40 == 0) = false →
                                                       I39 w37)))) ∧
                                                   ∀ w43 : World,
                                                   (I39 w43 →
                                                     ∃ n44 : Int, (World.cell? w43 (Addr.mk x0 4 none) = some (Value.int IntKind.i64 n44) ∧
                                                      ((((n44 != 0) = true →
                                                         R (Value.tuple (Array.mk [])) w43)) ∧
                                                       ((n44 != 0) = false →
                                                         ∀ w45 : World,
                                                         (Drew w43 w45 →
                                                           ∃ I46 : World → Prop, (I46 w45 ∧
                                                            ((0 ≤ n38 ∧
                                                              n38 < (↑l11.2 : Int)) ∧
                                                             ∃ a47 : Addr, (l11.1 = some a47 ∧
                                                              ∃ n48 : Int, ((∀ w49 : World,
                                                               (I46 w49 →
                                                                 World.cell? w49 (Addr.add a47 (Int.toNat n38 * 1)) = some (Value.int IntKind.i64 n48))) ∧
                                                               ((0 ≤ n38 ∧
                                                                 n38 < (↑l12.2 : Int)) ∧
                                                                ∃ a50 : Addr, (l12.1 = some a50 ∧
                                                                 ∃ n51 : Int, ((∀ w52 : World,
                                                                  (I46 w52 →
                                                                    World.cell? w52 (Addr.add a50 (Int.toNat n38 * 1)) = some (Value.int IntKind.i64 n51))) ∧
                                                                  Calls Try.prog (31 : Nat) (Array.mk [Value.pointer (some (Addr.mk x0 0 none)), Value.int IntKind.i64 n51]) (w45) (fun e53 w54 =>
                                                                    ∃ n55 : Int, (e53 = Ending.returned (Value.int IntKind.i64 n55) ∧
                                                                     (I46 w54 ∧
                                                                      ∃ I56 : World → Prop, ((∃ n57 : Int, (World.cell? w54 (Addr.mk x0 4 none) = some (Value.int IntKind.i64 n57) ∧
                                                                        ((((n57 == 0) = true →
                                                                           ∃ l58 : Sl, (World.cell? w54 (Addr.mk x0 2 none) = some (Value.slice l58.1 l58.2 l58.3) ∧
                                                                            (((decide (IntKind.wrap IntKind.i64 (n48 + n55) > (↑l58.2 : Int)) = true →
                                                                               Calls Try.prog (30 : Nat) (Array.mk [Value.pointer (some (Addr.mk x0 0 none)), Value.int IntKind.i64 3]) (w54) (fun e59 w60 =>
                                                                                 (e59 = Ending.returned (Value.tuple (Array.mk [])) ∧
                                                                                  I56 w60)))) ∧
                                                                             (decide (IntKind.wrap IntKind.i64 (n48 + n55) > (↑l58.2 : Int)) = false →
                                                                               I56 w54))))) ∧
                                                                         ((n57 == 0) = false →
                                                                           I56 w54)))) ∧
                                                                       ∀ w61 : World,
                                                                       (I56 w61 →
                                                                         ∃ I62 : Int → World → Prop, ∃ I63 : Int → World → Nat, (I62 0 w61 ∧
                                                                          ∀ n64 : Int,
                                                                          ∀ w65 : World,
                                                                          (I62 n64 w65 →
                                                                            (((decide (n64 < IntKind.wrap IntKind.i64 (n28 + n35)) = true →
                                                                               ∃ n66 : Int, (World.cell? w65 (Addr.mk x0 4 none) = some (Value.int IntKind.i64 n66) ∧
                                                                                ((((n66 == 0) = true →
                                                                                   ∀ w67 : World,
                                                                                   (Drew w65 w67 →
                                                                                     ∃ I68 : World → Prop, (I68 w67 ∧
                                                                                      ∃ l69 : Sl, ((∀ w70 : World,
                                                                                       (I68 w70 →
                                                                                         World.cell? w70 (Addr.mk x0 2 none) = some (Value.slice l69.1 l69.2 l69.3))) ∧
                                                                                       ∃ l71 : Sl, ((∀ w72 : World,
                                                                                        (I68 w72 →
                                                                                          World.cell? w72 (Addr.mk x0 2 none) = some (Value.slice l71.1 l71.2 l71.3))) ∧
                                                                                        ((0 ≤ IntKind.wrap IntKind.i64 ((↑l71.2 : Int) - IntKind.wrap IntKind.i64 (n48 + n55)) ∧
                                                                                          IntKind.wrap IntKind.i64 ((↑l71.2 : Int) - IntKind.wrap IntKind.i64 (n48 + n55)) < (↑l69.2 : Int)) ∧
                                                                                         ∃ a73 : Addr, (l69.1 = some a73 ∧
                                                                                          ∃ n74 : Int, ((∀ w75 : World,
                                                                                           (I68 w75 →
                                                                                             World.cell? w75 (Addr.add a73 (Int.toNat (IntKind.wrap IntKind.i64 ((↑l71.2 : Int) - IntKind.wrap IntKind.i64 (n48 + n55))) * 1)) = some (Value.int IntKind.u8 n74))) ∧
                                                                                           Calls Try.prog (59 : Nat) (Array.mk [Value.pointer (some (Addr.mk x0 0 none)), Value.int IntKind.u8 n74]) (w67) (fun e76 w77 =>
                                                                                             (e76 = Ending.returned (Value.tuple (Array.mk [])) ∧
                                                                                              (I62 (IntKind.wrap IntKind.i64 (n64 + 1)) w77 ∧
                                                                                               I63 (IntKind.wrap IntKind.i64 (n64 + 1)) w77 < I63 n64 w65)))))))))))) ∧
                                                                                 ((n66 == 0) = false →
                                                                                   (I13 w65 ∧
                                                                                    I14 w65 < I14 w15)))))) ∧
                                                                             (decide (n64 < IntKind.wrap IntKind.i64 (n28 + n35)) = false →
                                                                               (I13 w65 ∧
                                                                                I14 w65 < I14 w15))))))))))))))))))))))))))))))))))))))))))))))))) ∧
                ((n16 == 0) = false →
                  R (Value.tuple (Array.mk [])) w15)))))))))))
theorem vc_cartularyref05_Stream_packed_ok {x0 : Nat} {x1a : Option Addr} {x1n : Nat} {x1c : Nat} {x2a : Option Addr} {x2n : Nat} {x2c : Nat} {w : World} {R : Value → World → Prop} {R' : Ending → World → Prop} (h : vc_cartularyref05_Stream_packed x0 x1a x1n x1c x2a x2n x2c w R) (hR : ∀ v w', R v w' → R' (.returned v) w') :
    Calls Try.prog 34 #[.pointer (some ⟨x0, 0, none⟩), .slice x1a x1n x1c, .slice x2a x2n x2c] w R' :=
  calls_of_body (vs := [(.pointer (some ⟨x0, 0, none⟩), true), (.slice x1a x1n x1c, false), (.slice x2a x2n x2c, false)]) (ty := ty) (ann := ⟨[(13, []), (17, [])], [(2, []), (18, [(16, .int .i64)])], [(9, .held [(0, true), (1, true), (2, true), (3, true), (4, true), (5, true), (6, true), (7, true), (8, true), (9, true), (10, true), (11, false), (12, true), (13, true)]), (14, .held [(0, true), (1, true), (2, true), (3, true), (4, true), (5, true), (6, true), (7, true), (8, true), (9, false), (10, true), (11, true)]), (20, .held [(0, true), (1, true), (2, true), (3, true), (4, true), (5, true), (6, true), (7, true), (8, true), (9, true), (10, true), (11, true), (12, true), (13, true), (14, false)])], []⟩) (c := Try.f34.body.getD .skip) (by kernel_rfl) Try.func34 (by kernel_rfl) (by kernel_rfl) (Eq.mp (by kernel_rfl) h) hR
/-- cartularyref05.Inflate -/
def vc_cartularyref05_Inflate (x0 : ByteArray) (x1 : Int) (x2 : Int) (w : World) (R : Value → World → Prop) : Prop :=
  (((decide (x1 < 0) = true →
     R (Value.tuple (Array.mk [Value.string (ByteArray.mk (Array.mk [])), Value.int IntKind.i64 0, Value.int IntKind.i64 1])) w)) ∧
   (decide (x1 < 0) = false →
     (((decide (x1 > (↑(ByteArray.size x0) : Int)) = true →
        R (Value.tuple (Array.mk [Value.string (ByteArray.mk (Array.mk [])), Value.int IntKind.i64 0, Value.int IntKind.i64 1])) w)) ∧
      (decide (x1 > (↑(ByteArray.size x0) : Int)) = false →
        (((decide (x2 < 0) = true →
           R (Value.tuple (Array.mk [Value.string (ByteArray.mk (Array.mk [])), Value.int IntKind.i64 0, Value.int IntKind.i64 1])) w)) ∧
         (decide (x2 < 0) = false →
           (((decide (x2 > 65536) = true →
              R (Value.tuple (Array.mk [Value.string (ByteArray.mk (Array.mk [])), Value.int IntKind.i64 0, Value.int IntKind.i64 1])) w)) ∧
            (decide (x2 > 65536) = false →
              ((0 ≤ x1 ∧
                x1 ≤ (↑(ByteArray.size x0) : Int)) ∧
               Calls Try.prog (29 : Nat) (Array.mk [Value.string (ByteArray.extract x0 (Int.toNat x1) (ByteArray.size x0))]) (w) (fun e1 w2 =>
                 ∃ l3 : Sl, (e1 = Ending.returned (Value.slice l3.1 l3.2 l3.3) ∧
                  ∀ w4 : World,
                  (w4 = World.alloc w2 (Obj.cells (Array.mk [Value.slice l3.1 l3.2 l3.3, Value.int IntKind.i64 0, Value.slice none 0 0, Value.int IntKind.i64 x2, Value.int IntKind.i64 0]) 55) →
                    ∃ I5 : World → Prop, ∃ I6 : World → Nat, (I5 w4 ∧
                     ∀ w7 : World,
                     (I5 w7 →
                       ∃ n8 : Int, (World.cell? w7 (Addr.mk (Array.size (World.heap w2)) 4 none) = some (Value.int IntKind.i64 n8) ∧
                        ((((n8 == 0) = true →
                           ∃ I9 : World → Prop, ((∃ l10 : Sl, (World.cell? w7 (Addr.mk (Array.size (World.heap w2)) 0 none) = some (Value.slice l10.1 l10.2 l10.3) ∧
                             ∃ n11 : Int, (World.cell? w7 (Addr.mk (Array.size (World.heap w2)) 1 none) = some (Value.int IntKind.i64 n11) ∧
                              ∀ w12 : World,
                              (Drew w7 w12 →
                                (((decide (IntKind.wrap IntKind.i64 ((↑l10.2 : Int) - n11) < 3) = true →
                                   Calls Try.prog (30 : Nat) (Array.mk [Value.pointer (some (Addr.mk (Array.size (World.heap w2)) 0 none)), Value.int IntKind.i64 6]) (w12) (fun e13 w14 =>
                                     (e13 = Ending.returned (Value.tuple (Array.mk [])) ∧
                                      I9 w14)))) ∧
                                 (decide (IntKind.wrap IntKind.i64 ((↑l10.2 : Int) - n11) < 3) = false →
                                   I9 w12)))))) ∧
                            ∀ w15 : World,
                            (I9 w15 →
                              Calls Try.prog (31 : Nat) (Array.mk [Value.pointer (some (Addr.mk (Array.size (World.heap w2)) 0 none)), Value.int IntKind.i64 1]) (w15) (fun e16 w17 =>
                                ∃ n18 : Int, (e16 = Ending.returned (Value.int IntKind.i64 n18) ∧
                                 Calls Try.prog (31 : Nat) (Array.mk [Value.pointer (some (Addr.mk (Array.size (World.heap w2)) 0 none)), Value.int IntKind.i64 2]) (w17) (fun e19 w20 =>
                                   ∃ n21 : Int, (e19 = Ending.returned (Value.int IntKind.i64 n21) ∧
                                    ∃ I22 : World → Prop, ((∃ n23 : Int, (World.cell? w20 (Addr.mk (Array.size (World.heap w2)) 4 none) = some (Value.int IntKind.i64 n23) ∧
                                      ((((n23 == 0) = true →
                                         ((((n21 == 0) = true →
                                            Calls Try.prog (32 : Nat) (Array.mk [Value.pointer (some (Addr.mk (Array.size (World.heap w2)) 0 none))]) (w20) (fun e24 w25 =>
                                              (e24 = Ending.returned (Value.tuple (Array.mk [])) ∧
                                               I22 w25)))) ∧
                                          ((n21 == 0) = false →
                                            ((((n21 == 1) = true →
                                               Calls Try.prog (33 : Nat) (Array.mk []) (w20) (fun e26 w27 =>
                                                 ∃ l28 : Sl, ∃ l29 : Sl, (e26 = Ending.returned (Value.tuple (Array.mk [Value.slice l28.1 l28.2 l28.3, Value.slice l29.1 l29.2 l29.3])) ∧
                                                  Calls Try.prog (34 : Nat) (Array.mk [Value.pointer (some (Addr.mk (Array.size (World.heap w2)) 0 none)), Value.slice l28.1 l28.2 l28.3, Value.slice l29.1 l29.2 l29.3]) (w27) (fun e30 w31 =>
                                                    (e30 = Ending.returned (Value.tuple (Array.mk [])) ∧
                                                     I22 w31)))))) ∧
                                             ((n21 == 1) = false →
                                               ((((n21 == 2) = true →
                                                  Calls Try.prog (35 : Nat) (Array.mk [Value.pointer (some (Addr.mk (Array.size (World.heap w2)) 0 none))]) (w20) (fun e32 w33 =>
                                                    ∃ l34 : Sl, ∃ l35 : Sl, (e32 = Ending.returned (Value.tuple (Array.mk [Value.slice l34.1 l34.2 l34.3, Value.slice l35.1 l35.2 l35.3])) ∧
                                                     ∃ n36 : Int, (World.cell? w33 (Addr.mk (Array.size (World.heap w2)) 4 none) = some (Value.int IntKind.i64 n36) ∧
                                                      ((((n36 == 0) = true →
                                                         Calls Try.prog (34 : Nat) (Array.mk [Value.pointer (some (Addr.mk (Array.size (World.heap w2)) 0 none)), Value.slice l34.1 l34.2 l34.3, Value.slice l35.1 l35.2 l35.3]) (w33) (fun e37 w38 =>
                                                           (e37 = Ending.returned (Value.tuple (Array.mk [])) ∧
                                                            I22 w38)))) ∧
                                                       ((n36 == 0) = false →
                                                         I22 w33))))))) ∧
                                                ((n21 == 2) = false →
                                                  ((((n21 == 3) = true →
                                                     Calls Try.prog (30 : Nat) (Array.mk [Value.pointer (some (Addr.mk (Array.size (World.heap w2)) 0 none)), Value.int IntKind.i64 3]) (w20) (fun e39 w40 =>
                                                       (e39 = Ending.returned (Value.tuple (Array.mk [])) ∧
                                                        I22 w40)))) ∧
                                                   ((n21 == 3) = false →
                                                     I22 w20)))))))))) ∧
                                       ((n23 == 0) = false →
                                         I22 w20)))) ∧
                                     ∀ w41 : World,
                                     (I22 w41 →
                                       ∃ n42 : Int, (World.cell? w41 (Addr.mk (Array.size (World.heap w2)) 4 none) = some (Value.int IntKind.i64 n42) ∧
                                        ((((n42 == 0) = true →
                                           ((((n18 == 1) = true →
                                              ∀ w43 : World,
                                              (Drew w41 w43 →
                                                ∃ I44 : World → Prop, (I44 w43 ∧
                                                 ∃ l45 : Sl, ((∀ w46 : World,
                                                  (I44 w46 →
                                                    World.cell? w46 (Addr.mk (Array.size (World.heap w2)) 2 none) = some (Value.slice l45.1 l45.2 l45.3))) ∧
                                                  ∃ n47 : Int, ((∀ w48 : World,
                                                   (I44 w48 →
                                                     World.cell? w48 (Addr.mk (Array.size (World.heap w2)) 1 none) = some (Value.int IntKind.i64 n47))) ∧
                                                   ∃ s49 : ByteArray, ((∀ w50 : World,
                                                    (I44 w50 →
                                                      Sem.run Try.prog (convert 40 9 (Value.slice l45.1 l45.2 l45.3)) w50 = Result.ok (Value.string s49) w50)) ∧
                                                    Calls Try.prog (36 : Nat) (Array.mk [Value.int IntKind.i64 n47]) (w43) (fun e51 w52 =>
                                                      ∃ n53 : Int, (e51 = Ending.returned (Value.int IntKind.i64 n53) ∧
                                                       (I44 w52 ∧
                                                        ((8 : Int) ≠ (0 : Int) ∧
                                                         R (Value.tuple (Array.mk [Value.string s49, Value.int IntKind.i64 (IntKind.wrap IntKind.i64 (Int.tdiv n53 8)), Value.int IntKind.i64 0])) w52))))))))))) ∧
                                            ((n18 == 1) = false →
                                              (I5 w41 ∧
                                               I6 w41 < I6 w7))))) ∧
                                         ((n42 == 0) = false →
                                           (I5 w41 ∧
                                            I6 w41 < I6 w7)))))))))))))) ∧
                         ((n8 == 0) = false →
                           ∃ n54 : Int, (World.cell? w7 (Addr.mk (Array.size (World.heap w2)) 4 none) = some (Value.int IntKind.i64 n54) ∧
                            ∀ w55 : World,
                            (Drew w7 w55 →
                              R (Value.tuple (Array.mk [Value.string (ByteArray.mk (Array.mk [])), Value.int IntKind.i64 0, Value.int IntKind.i64 n54])) w55)))))))))))))))))))
theorem vc_cartularyref05_Inflate_ok {x0 : ByteArray} {x1 : Int} {x2 : Int} {w : World} {R : Value → World → Prop} {R' : Ending → World → Prop} (h : vc_cartularyref05_Inflate x0 x1 x2 w R) (hR : ∀ v w', R v w' → R' (.returned v) w') :
    Calls Try.prog 13 #[.string x0, .int .i64 x1, .int .i64 x2] w R' :=
  calls_of_body (vs := [(.string x0, false), (.int .i64 x1, false), (.int .i64 x2, false)]) (ty := ty) (ann := ⟨[(7, []), (21, [])], [(4, [])], [(5, .quiet), (22, .held [(0, true), (1, true), (2, true), (3, true), (5, true), (6, true), (7, true), (8, true), (4, true), (9, false), (10, true), (11, true), (12, true), (13, true)]), (23, .quiet)], []⟩) (c := Try.f13.body.getD .skip) (by kernel_rfl) Try.func13 (by kernel_rfl) (by kernel_rfl) (Eq.mp (by kernel_rfl) h) hR
end Go.Proofs.Ytofejgaanpaieaa

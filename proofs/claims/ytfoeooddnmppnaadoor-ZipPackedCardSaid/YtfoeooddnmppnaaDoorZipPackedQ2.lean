/- Texts of this seat in one: made by a program of ours. -/
import Derived.Test.YtfoeooddnmppnaaDoorZipPackedQ0
import Derived.Test.YtfoeooddnmppnaaDoorZipPackedQ1
import Derived.Test.YtfoeooddnmppnaaDoorProg
import Derived.Defers
import Derived.Recover
/- Little. Conditions: the numbers are within their kinds. -/
set_option linter.unusedVariables false
namespace Go.Proofs.YtfoeooddnmppnaaDoor
open Go Vc SumM Go.Proofs

/-- 'Little'. -/
theorem littleS_spec (x n : Nat) (hx : x < 18446744073709551616) (hn : n ≤ 1000) (w : World) :
    Calls Tryd.prog F_sums_Little #[.int .u64 (x : Int), .int .i64 (n : Int)] w fun e w' => e = .returned (.string ⟨(littleB n x).toArray⟩) ∧ Fr (fun _ => False) w w' := by
  refine vc_sums_Little_ok (R := fun v w' => v = .string ⟨(littleB n x).toArray⟩ ∧ Fr (fun _ => False) w w') ?_ (fun v w' h => ⟨by rw [h.1], h.2⟩)
  have hlim : (if (0 : Int) > (n : Int) then 0 else (n : Int)) = (n : Int) := by rw [if_neg (by omega)]
  refine ⟨fun l i w' => ∃ k : Nat, i = (k : Int) ∧ k ≤ n ∧ Vc.Own w' w.heap.size T_uint8 l (byteV ((littleB n x).take k)) ∧ Fr (fun _ => False) w w', fun l i w' => n - i.toNat, ⟨0, rfl, Nat.zero_le _, .nil _ _ _, .refl _ _⟩, ?_⟩
  rintro l3 i w5 ⟨k, rfl, hk, ho, hf⟩
  rw [hlim]
  have e3 : IntKind.i64.wrap ((k : Int) + 1) = ((k + 1 : Nat) : Int) := by rw [wrap_i64 (by omega) (by omega)]; omega
  rw [e3]
  have hln : (byteV ((littleB n x).take k)).length = k := by simp [byteV, littleB_length]; omega
  refine ⟨fun hlt => ?_, fun hge => ?_⟩
  · have hlt := of_decide_eq_true hlt
    have step : ∀ z : Int, byteV ((littleB n x).take k) ++ [.int .u8 z] = byteV ((littleB n x).take (k + 1)) → ∀ w6, w6 = w5.alloc (.cells #[.int .u8 z] T_uint8) → ∃ w7 l8, (Builtin.append_ #[T_S_uint8, T_S_uint8] T_S_uint8 #[.slice l3.a l3.len l3.cap, .slice (some ⟨w5.heap.size, 0, none⟩) 1 1]).run Tryd.prog w6 = .ok (.slice l8.a l8.len l8.cap) w7 ∧
        ((∃ j : Nat, ((k + 1 : Nat) : Int) = (j : Int) ∧ j ≤ n ∧ Vc.Own w7 w.heap.size T_uint8 l8 (byteV ((littleB n x).take j)) ∧ Fr (fun _ => False) w w7) ∧ n - ((k + 1 : Nat) : Int).toNat < n - ((k : Int)).toNat) := fun z hz w6 h6 => by
      obtain ⟨w7, l8, hr, ho7, hf7, _⟩ := append_one' elByte ho (v := .int .u8 z) rfl (by rw [hln]; unfold maxLen; omega) (by rw [hln]; omega) hf.size h6
      rw [hz] at ho7
      exact ⟨w7, l8, hr, ⟨k + 1, rfl, by omega, ho7, hf.trans hf7 fun q hq ⟨y, hy, e⟩ => by have := (ho.blk hy).1; omega⟩, by omega⟩
    refine ⟨fun h8 => step 0 ?_, fun h8 => ?_⟩
    · have h8 := of_decide_eq_true h8
      rw [littleB_get (by omega), pow_big hx (by omega)]
      exact byteV_snoc _ 0 (by decide)
    · have h8 := of_decide_eq_false h8
      have e4 : IntKind.i64.wrap (8 * (k : Int)) = ((8 * k : Nat) : Int) := by rw [wrap_i64 (by omega) (by omega)]; omega
      rw [e4, shift_byte, if_pos (by omega)]
      refine ⟨by omega, step _ ?_⟩
      rw [byteV_wrap _ _ (Int.natCast_nonneg _), Int.toNat_natCast, littleB_get (by omega)]
  · have hge := of_decide_eq_false hge
    have : k = n := by omega
    subst this
    rw [List.take_of_length_le (by rw [littleB_length]; omega)] at ho
    exact ⟨_, _, bytes_str (e := T_uint8) (by kernel_rfl) (by kernel_rfl) (by kernel_rfl) l3.cap ho.reads (by rw [ho.len]; simp [byteV]), rfl, hf⟩
end Go.Proofs.YtfoeooddnmppnaaDoor

/- Formulas of 5 Go functions of this seat (written by a program of the author's, vcgen.py), and that each is enough for the call. No condition. -/
set_option linter.unusedVariables false
namespace Go.Proofs.YtfoeooddnmppnaaDoor
open Go Vc Go.Proofs
set_option maxRecDepth 100000
/-- zip.Check -/
def vc_zip_Check (x0a : Option Addr) (x0n : Nat) (x0c : Nat) (w : World) (R : Value → World → Prop) : Prop :=
  ∃ I1 : Int → Int → World → Prop, ∃ I2 : Int → Int → World → Nat, (I1 0 0 w ∧
   ∀ n3 : Int,
   ∀ n4 : Int,
   ∀ w5 : World,
   (I1 n3 n4 w5 →
     (((decide (n4 < (↑x0n : Int)) = true →
        ((0 ≤ n4 ∧
          n4 < (↑x0n : Int)) ∧
         ∃ a6 : Addr, (x0a = some a6 ∧
          ∃ s7 : ByteArray, ∃ s8 : ByteArray, (Sem.run Tryd.prog (loadVar 37 (Addr.add a6 (Int.toNat n4 * 2))) w5 = Result.ok (Value.agg (Array.mk [Value.string s7, Value.string s8])) w5 ∧
           ∀ w9 : World,
           (w9 = World.alloc w5 (Obj.cells (Array.mk [Value.string (ByteArray.mk (Array.mk [])), Value.string (ByteArray.mk (Array.mk []))]) 37) →
             ∃ w10 : World, (Sem.run Tryd.prog (storeVar 37 (Addr.mk (Array.size (World.heap w5)) 0 none) (Value.agg (Array.mk [Value.string s7, Value.string s8]))) w9 = Result.ok PUnit.unit w10 ∧
              ∃ s11 : ByteArray, (World.cell? w10 (Addr.mk (Array.size (World.heap w5)) 1 none) = some (Value.string s11) ∧
               (I1 (IntKind.wrap IntKind.i64 (n3 + (↑(ByteArray.size s11) : Int))) (IntKind.wrap IntKind.i64 (n4 + 1)) w10 ∧
                I2 (IntKind.wrap IntKind.i64 (n3 + (↑(ByteArray.size s11) : Int))) (IntKind.wrap IntKind.i64 (n4 + 1)) w10 < I2 n3 n4 w5))))))))) ∧
      (decide (n4 < (↑x0n : Int)) = false →
        (((decide ((↑x0n : Int) > 600) = true →
           R (Value.int IntKind.i64 2) w5)) ∧
         (decide ((↑x0n : Int) > 600) = false →
           (((decide (n3 > 1048576) = true →
              R (Value.int IntKind.i64 2) w5)) ∧
            (decide (n3 > 1048576) = false →
              ∃ I12 : Int → World → Prop, ∃ I13 : Int → World → Nat, (I12 0 w5 ∧
               ∀ n14 : Int,
               ∀ w15 : World,
               (I12 n14 w15 →
                 (((decide (n14 < (↑x0n : Int)) = true →
                    ((0 ≤ n14 ∧
                      n14 < (↑x0n : Int)) ∧
                     ∃ a16 : Addr, (x0a = some a16 ∧
                      ∃ s17 : ByteArray, ∃ s18 : ByteArray, (Sem.run Tryd.prog (loadVar 37 (Addr.add a16 (Int.toNat n14 * 2))) w15 = Result.ok (Value.agg (Array.mk [Value.string s17, Value.string s18])) w15 ∧
                       ∀ w19 : World,
                       (w19 = World.alloc w15 (Obj.cells (Array.mk [Value.string (ByteArray.mk (Array.mk [])), Value.string (ByteArray.mk (Array.mk []))]) 37) →
                         ∃ w20 : World, (Sem.run Tryd.prog (storeVar 37 (Addr.mk (Array.size (World.heap w15)) 0 none) (Value.agg (Array.mk [Value.string s17, Value.string s18]))) w19 = Result.ok PUnit.unit w20 ∧
                          ∀ w21 : World,
                          (Drew w20 w21 →
                            ∃ I22 : World → Prop, (I22 w21 ∧
                             ∃ s23 : ByteArray, ((∀ w24 : World,
                              (I22 w24 →
                                World.cell? w24 (Addr.mk (Array.size (World.heap w15)) 0 none) = some (Value.string s23))) ∧
                              Calls Tryd.prog (37 : Nat) (Array.mk [Value.string s23]) (w21) (fun e25 w26 =>
                                ∃ b27 : Bool, (e25 = Ending.returned (Value.bool b27) ∧
                                 (I22 w26 ∧
                                  ((((!b27) = true →
                                     R (Value.int IntKind.i64 4) w26)) ∧
                                   ((!b27) = false →
                                     (((decide (n14 > 0) = true →
                                        ((0 ≤ IntKind.wrap IntKind.i64 (n14 - 1) ∧
                                          IntKind.wrap IntKind.i64 (n14 - 1) < (↑x0n : Int)) ∧
                                         ∃ a28 : Addr, (x0a = some a28 ∧
                                          ∃ s29 : ByteArray, ((∀ w30 : World,
                                           (I22 w30 →
                                             World.cell? w30 (Addr.add a28 (Int.toNat (IntKind.wrap IntKind.i64 (n14 - 1)) * 2)) = some (Value.string s29))) ∧
                                           ∃ s31 : ByteArray, ((∀ w32 : World,
                                            (I22 w32 →
                                              World.cell? w32 (Addr.mk (Array.size (World.heap w15)) 0 none) = some (Value.string s31))) ∧
                                            ((((!Op.bytesLess (ByteArray.toList s29) (ByteArray.toList s31)) = true →
                                               R (Value.int IntKind.i64 4) w26)) ∧
                                             ((!Op.bytesLess (ByteArray.toList s29) (ByteArray.toList s31)) = false →
                                               (I12 (IntKind.wrap IntKind.i64 (n14 + 1)) w26 ∧
                                                I13 (IntKind.wrap IntKind.i64 (n14 + 1)) w26 < I13 n14 w15))))))))) ∧
                                      (decide (n14 > 0) = false →
                                        (I12 (IntKind.wrap IntKind.i64 (n14 + 1)) w26 ∧
                                         I13 (IntKind.wrap IntKind.i64 (n14 + 1)) w26 < I13 n14 w15)))))))))))))))))) ∧
                  (decide (n14 < (↑x0n : Int)) = false →
                    R (Value.int IntKind.i64 0) w15))))))))))))
theorem vc_zip_Check_ok {x0a : Option Addr} {x0n : Nat} {x0c : Nat} {w : World} {R : Value → World → Prop} {R' : Ending → World → Prop} (h : vc_zip_Check x0a x0n x0c w R) (hR : ∀ v w', R v w' → R' (.returned v) w') :
    Calls Tryd.prog 16 #[.slice x0a x0n x0c] w R' :=
  calls_of_body (vs := [(.slice x0a x0n x0c, false)]) (ty := ty) (ann := ⟨[], [(3, [(3, .int .i64), (10, .int .i64)]), (10, [(29, .int .i64)])], [(12, .held [(0, true), (1, true), (2, false), (3, true), (4, true), (5, true), (6, true), (7, true), (8, true), (9, true), (10, true), (11, true), (12, true), (13, true), (14, true), (15, true), (16, true), (17, true), (18, true)])], []⟩) (c := Tryd.f16.body.getD .skip) (by kernel_rfl) Tryd.func16 (by kernel_rfl) (by kernel_rfl) (Eq.mp (by kernel_rfl) h) hR
/-- zip.two -/
def vc_zip_two (x0 : Int) (w : World) (R : Value → World → Prop) : Prop :=
  Calls Tryd.prog (88 : Nat) (Array.mk [Value.int IntKind.u64 (IntKind.wrap IntKind.u64 x0), Value.int IntKind.i64 2]) (w) (fun e1 w2 =>
    ∃ s3 : ByteArray, (e1 = Ending.returned (Value.string s3) ∧
     R (Value.string s3) w2))
theorem vc_zip_two_ok {x0 : Int} {w : World} {R : Value → World → Prop} {R' : Ending → World → Prop} (h : vc_zip_two x0 w R) (hR : ∀ v w', R v w' → R' (.returned v) w') :
    Calls Tryd.prog 34 #[.int .i64 x0] w R' :=
  calls_of_body (vs := [(.int .i64 x0, false)]) (ty := ty) (ann := ⟨[], [], [], []⟩) (c := Tryd.f34.body.getD .skip) (by kernel_rfl) Tryd.func34 (by kernel_rfl) (by kernel_rfl) (Eq.mp (by kernel_rfl) h) hR
/-- zip.four -/
def vc_zip_four (x0 : Int) (w : World) (R : Value → World → Prop) : Prop :=
  Calls Tryd.prog (88 : Nat) (Array.mk [Value.int IntKind.u64 (IntKind.wrap IntKind.u64 x0), Value.int IntKind.i64 4]) (w) (fun e1 w2 =>
    ∃ s3 : ByteArray, (e1 = Ending.returned (Value.string s3) ∧
     R (Value.string s3) w2))
theorem vc_zip_four_ok {x0 : Int} {w : World} {R : Value → World → Prop} {R' : Ending → World → Prop} (h : vc_zip_four x0 w R) (hR : ∀ v w', R v w' → R' (.returned v) w') :
    Calls Tryd.prog 35 #[.int .i64 x0] w R' :=
  calls_of_body (vs := [(.int .i64 x0, false)]) (ty := ty) (ann := ⟨[], [], [], []⟩) (c := Tryd.f35.body.getD .skip) (by kernel_rfl) Tryd.func35 (by kernel_rfl) (by kernel_rfl) (Eq.mp (by kernel_rfl) h) hR
/-- zip.facts -/
def vc_zip_facts (x0 : Int) (x1 : Int) (x2 : Int) (x3 : Int) (x4 : ByteArray) (w : World) (R : Value → World → Prop) : Prop :=
  Calls Tryd.prog (34 : Nat) (Array.mk [Value.int IntKind.i64 (20 : Int)]) (w) (fun e1 w2 =>
    ∃ s3 : ByteArray, (e1 = Ending.returned (Value.string s3) ∧
     Calls Tryd.prog (34 : Nat) (Array.mk [Value.int IntKind.i64 (0 : Int)]) (w2) (fun e4 w5 =>
       ∃ s6 : ByteArray, (e4 = Ending.returned (Value.string s6) ∧
        (ByteArray.size s3 + ByteArray.size s6 ≤ 9223372036854775807 ∧
         Calls Tryd.prog (34 : Nat) (Array.mk [Value.int IntKind.i64 x0]) (w5) (fun e7 w8 =>
           ∃ s9 : ByteArray, (e7 = Ending.returned (Value.string s9) ∧
            (ByteArray.size (s3 ++ s6) + ByteArray.size s9 ≤ 9223372036854775807 ∧
             Calls Tryd.prog (34 : Nat) (Array.mk [Value.int IntKind.i64 (0 : Int)]) (w8) (fun e10 w11 =>
               ∃ s12 : ByteArray, (e10 = Ending.returned (Value.string s12) ∧
                (ByteArray.size (s3 ++ s6 ++ s9) + ByteArray.size s12 ≤ 9223372036854775807 ∧
                 Calls Tryd.prog (34 : Nat) (Array.mk [Value.int IntKind.i64 (0 : Int)]) (w11) (fun e13 w14 =>
                   ∃ s15 : ByteArray, (e13 = Ending.returned (Value.string s15) ∧
                    (ByteArray.size (s3 ++ s6 ++ s9 ++ s12) + ByteArray.size s15 ≤ 9223372036854775807 ∧
                     Calls Tryd.prog (35 : Nat) (Array.mk [Value.int IntKind.i64 (IntKind.wrap IntKind.i64 x1)]) (w14) (fun e16 w17 =>
                       ∃ s18 : ByteArray, (e16 = Ending.returned (Value.string s18) ∧
                        (ByteArray.size (s3 ++ s6 ++ s9 ++ s12 ++ s15) + ByteArray.size s18 ≤ 9223372036854775807 ∧
                         Calls Tryd.prog (35 : Nat) (Array.mk [Value.int IntKind.i64 x2]) (w17) (fun e19 w20 =>
                           ∃ s21 : ByteArray, (e19 = Ending.returned (Value.string s21) ∧
                            (ByteArray.size (s3 ++ s6 ++ s9 ++ s12 ++ s15 ++ s18) + ByteArray.size s21 ≤ 9223372036854775807 ∧
                             Calls Tryd.prog (35 : Nat) (Array.mk [Value.int IntKind.i64 x3]) (w20) (fun e22 w23 =>
                               ∃ s24 : ByteArray, (e22 = Ending.returned (Value.string s24) ∧
                                (ByteArray.size (s3 ++ s6 ++ s9 ++ s12 ++ s15 ++ s18 ++ s21) + ByteArray.size s24 ≤ 9223372036854775807 ∧
                                 Calls Tryd.prog (34 : Nat) (Array.mk [Value.int IntKind.i64 (↑(ByteArray.size x4) : Int)]) (w23) (fun e25 w26 =>
                                   ∃ s27 : ByteArray, (e25 = Ending.returned (Value.string s27) ∧
                                    (ByteArray.size (s3 ++ s6 ++ s9 ++ s12 ++ s15 ++ s18 ++ s21 ++ s24) + ByteArray.size s27 ≤ 9223372036854775807 ∧
                                     Calls Tryd.prog (34 : Nat) (Array.mk [Value.int IntKind.i64 (0 : Int)]) (w26) (fun e28 w29 =>
                                       ∃ s30 : ByteArray, (e28 = Ending.returned (Value.string s30) ∧
                                        (ByteArray.size (s3 ++ s6 ++ s9 ++ s12 ++ s15 ++ s18 ++ s21 ++ s24 ++ s27) + ByteArray.size s30 ≤ 9223372036854775807 ∧
                                         R (Value.string (s3 ++ s6 ++ s9 ++ s12 ++ s15 ++ s18 ++ s21 ++ s24 ++ s27 ++ s30)) w29)))))))))))))))))))))))))))))
theorem vc_zip_facts_ok {x0 : Int} {x1 : Int} {x2 : Int} {x3 : Int} {x4 : ByteArray} {w : World} {R : Value → World → Prop} {R' : Ending → World → Prop} (h : vc_zip_facts x0 x1 x2 x3 x4 w R) (hR : ∀ v w', R v w' → R' (.returned v) w') :
    Calls Tryd.prog 32 #[.int .i64 x0, .int .u32 x1, .int .i64 x2, .int .i64 x3, .string x4] w R' :=
  calls_of_body (vs := [(.int .i64 x0, false), (.int .u32 x1, false), (.int .i64 x2, false), (.int .i64 x3, false), (.string x4, false)]) (ty := ty) (ann := ⟨[], [], [], []⟩) (c := Tryd.f32.body.getD .skip) (by kernel_rfl) Tryd.func32 (by kernel_rfl) (by kernel_rfl) (Eq.mp (by kernel_rfl) h) hR
/-- zip.Write -/
def vc_zip_Write (x0a : Option Addr) (x0n : Nat) (x0c : Nat) (w : World) (R : Value → World → Prop) : Prop :=
  Calls Tryd.prog (16 : Nat) (Array.mk [Value.slice x0a x0n x0c]) (w) (fun e1 w2 =>
    ∃ n3 : Int, (e1 = Ending.returned (Value.int IntKind.i64 n3) ∧
     ((((n3 != 0) = true →
        R (Value.tuple (Array.mk [Value.string (ByteArray.mk (Array.mk [])), Value.int IntKind.i64 n3])) w2)) ∧
      ((n3 != 0) = false →
        ∀ w4 : World,
        (w4 = World.alloc w2 (Obj.cells (Array.mk []) 5) →
          ∀ w5 : World,
          (w5 = World.alloc w4 (Obj.cells (Array.mk []) 5) →
            ∃ I6 : Sl → Sl → Int → World → Prop, ∃ I7 : Sl → Sl → Int → World → Nat, (I6 (Sl.mk (some (Addr.mk (Array.size (World.heap w2)) 0 none)) 0 0) (Sl.mk (some (Addr.mk (Array.size (World.heap w4)) 0 none)) 0 0) 0 w5 ∧
             ∀ l8 : Sl,
             ∀ l9 : Sl,
             ∀ n10 : Int,
             ∀ w11 : World,
             (I6 l8 l9 n10 w11 →
               (((decide (n10 < (↑x0n : Int)) = true →
                  ((0 ≤ n10 ∧
                    n10 < (↑x0n : Int)) ∧
                   ∃ a12 : Addr, (x0a = some a12 ∧
                    ∃ s13 : ByteArray, ∃ s14 : ByteArray, (Sem.run Tryd.prog (loadVar 37 (Addr.add a12 (Int.toNat n10 * 2))) w11 = Result.ok (Value.agg (Array.mk [Value.string s13, Value.string s14])) w11 ∧
                     ∀ w15 : World,
                     (w15 = World.alloc w11 (Obj.cells (Array.mk [Value.string (ByteArray.mk (Array.mk [])), Value.string (ByteArray.mk (Array.mk []))]) 37) →
                       ∃ w16 : World, (Sem.run Tryd.prog (storeVar 37 (Addr.mk (Array.size (World.heap w11)) 0 none) (Value.agg (Array.mk [Value.string s13, Value.string s14]))) w15 = Result.ok PUnit.unit w16 ∧
                        ∀ w17 : World,
                        (Drew w16 w17 →
                          ∃ I18 : World → Prop, (I18 w17 ∧
                           ∃ s19 : ByteArray, ((∀ w20 : World,
                            (I18 w20 →
                              World.cell? w20 (Addr.mk (Array.size (World.heap w11)) 1 none) = some (Value.string s19))) ∧
                            ∃ s21 : ByteArray, ((∀ w22 : World,
                             (I18 w22 →
                               World.cell? w22 (Addr.mk (Array.size (World.heap w11)) 1 none) = some (Value.string s21))) ∧
                             ∃ s23 : ByteArray, ((∀ w24 : World,
                              (I18 w24 →
                                World.cell? w24 (Addr.mk (Array.size (World.heap w11)) 1 none) = some (Value.string s23))) ∧
                              ∃ s25 : ByteArray, ((∀ w26 : World,
                               (I18 w26 →
                                 World.cell? w26 (Addr.mk (Array.size (World.heap w11)) 0 none) = some (Value.string s25))) ∧
                               Calls Tryd.prog (33 : Nat) (Array.mk [Value.string s19]) (w17) (fun e27 w28 =>
                                 ∃ n29 : Int, (e27 = Ending.returned (Value.int IntKind.u32 n29) ∧
                                  (I18 w28 ∧
                                   Calls Tryd.prog (32 : Nat) (Array.mk [Value.int IntKind.i64 0, Value.int IntKind.u32 n29, Value.int IntKind.i64 (↑(ByteArray.size s21) : Int), Value.int IntKind.i64 (↑(ByteArray.size s23) : Int), Value.string s25]) (w28) (fun e30 w31 =>
                                     ∃ s32 : ByteArray, (e30 = Ending.returned (Value.string s32) ∧
                                      (I18 w31 ∧
                                       ∀ w33 : World,
                                       (Drew w31 w33 →
                                         ∃ I34 : World → Prop, (I34 w33 ∧
                                          ∃ s35 : ByteArray, ((∀ w36 : World,
                                           (I34 w36 →
                                             World.cell? w36 (Addr.mk (Array.size (World.heap w11)) 0 none) = some (Value.string s35))) ∧
                                           Calls Tryd.prog (34 : Nat) (Array.mk [Value.int IntKind.i64 (20 : Int)]) (w33) (fun e37 w38 =>
                                             ∃ s39 : ByteArray, (e37 = Ending.returned (Value.string s39) ∧
                                              (I34 w38 ∧
                                               (ByteArray.size (ByteArray.mk (Array.mk [80, 75, 1, 2])) + ByteArray.size s39 ≤ 9223372036854775807 ∧
                                                (ByteArray.size (ByteArray.mk (Array.mk [80, 75, 1, 2]) ++ s39) + ByteArray.size s32 ≤ 9223372036854775807 ∧
                                                 Calls Tryd.prog (34 : Nat) (Array.mk [Value.int IntKind.i64 (0 : Int)]) (w38) (fun e40 w41 =>
                                                   ∃ s42 : ByteArray, (e40 = Ending.returned (Value.string s42) ∧
                                                    (I34 w41 ∧
                                                     (ByteArray.size (ByteArray.mk (Array.mk [80, 75, 1, 2]) ++ s39 ++ s32) + ByteArray.size s42 ≤ 9223372036854775807 ∧
                                                      Calls Tryd.prog (34 : Nat) (Array.mk [Value.int IntKind.i64 (0 : Int)]) (w41) (fun e43 w44 =>
                                                        ∃ s45 : ByteArray, (e43 = Ending.returned (Value.string s45) ∧
                                                         (I34 w44 ∧
                                                          (ByteArray.size (ByteArray.mk (Array.mk [80, 75, 1, 2]) ++ s39 ++ s32 ++ s42) + ByteArray.size s45 ≤ 9223372036854775807 ∧
                                                           Calls Tryd.prog (34 : Nat) (Array.mk [Value.int IntKind.i64 (0 : Int)]) (w44) (fun e46 w47 =>
                                                             ∃ s48 : ByteArray, (e46 = Ending.returned (Value.string s48) ∧
                                                              (I34 w47 ∧
                                                               (ByteArray.size (ByteArray.mk (Array.mk [80, 75, 1, 2]) ++ s39 ++ s32 ++ s42 ++ s45) + ByteArray.size s48 ≤ 9223372036854775807 ∧
                                                                Calls Tryd.prog (35 : Nat) (Array.mk [Value.int IntKind.i64 (0 : Int)]) (w47) (fun e49 w50 =>
                                                                  ∃ s51 : ByteArray, (e49 = Ending.returned (Value.string s51) ∧
                                                                   (I34 w50 ∧
                                                                    (ByteArray.size (ByteArray.mk (Array.mk [80, 75, 1, 2]) ++ s39 ++ s32 ++ s42 ++ s45 ++ s48) + ByteArray.size s51 ≤ 9223372036854775807 ∧
                                                                     Calls Tryd.prog (35 : Nat) (Array.mk [Value.int IntKind.i64 (↑l8.2 : Int)]) (w50) (fun e52 w53 =>
                                                                       ∃ s54 : ByteArray, (e52 = Ending.returned (Value.string s54) ∧
                                                                        (I34 w53 ∧
                                                                         (ByteArray.size (ByteArray.mk (Array.mk [80, 75, 1, 2]) ++ s39 ++ s32 ++ s42 ++ s45 ++ s48 ++ s51) + ByteArray.size s54 ≤ 9223372036854775807 ∧
                                                                          (ByteArray.size (ByteArray.mk (Array.mk [80, 75, 1, 2]) ++ s39 ++ s32 ++ s42 ++ s45 ++ s48 ++ s51 ++ s54) + ByteArray.size s35 ≤ 9223372036854775807 ∧
                                                                           ∃ w55 : World, ∃ l56 : Sl, (Sem.run Tryd.prog (Builtin.append_ (Array.mk [35, 9]) 35 (Array.mk [Value.slice l9.1 l9.2 l9.3, Value.string (ByteArray.mk (Array.mk [80, 75, 1, 2]) ++ s39 ++ s32 ++ s42 ++ s45 ++ s48 ++ s51 ++ s54 ++ s35)])) w53 = Result.ok (Value.slice l56.1 l56.2 l56.3) w55 ∧
                                                                            (I34 w55 ∧
                                                                             (ByteArray.size (ByteArray.mk (Array.mk [80, 75, 3, 4])) + ByteArray.size s32 ≤ 9223372036854775807 ∧
                                                                              ∃ s57 : ByteArray, (World.cell? w55 (Addr.mk (Array.size (World.heap w11)) 0 none) = some (Value.string s57) ∧
                                                                               (ByteArray.size (ByteArray.mk (Array.mk [80, 75, 3, 4]) ++ s32) + ByteArray.size s57 ≤ 9223372036854775807 ∧
                                                                                ∃ s58 : ByteArray, (World.cell? w55 (Addr.mk (Array.size (World.heap w11)) 1 none) = some (Value.string s58) ∧
                                                                                 (ByteArray.size (ByteArray.mk (Array.mk [80, 75, 3, 4]) ++ s32 ++ s57) + ByteArray.size s58 ≤ 9223372036854775807 ∧
                                                                                  ∃ w59 : World, ∃ l60 : Sl, (Sem.run Tryd.prog (Builtin.append_ (Array.mk [35, 9]) 35 (Array.mk [Value.slice l8.1 l8.2 l8.3, Value.string (ByteArray.mk (Array.mk [80, 75, 3, 4]) ++ s32 ++ s57 ++ s58)])) w55 = Result.ok (Value.slice l60.1 l60.2 l60.3) w59 ∧
                                                                                   (I6 (Sl.mk l60.1 l60.2 l60.3) (Sl.mk l56.1 l56.2 l56.3) (IntKind.wrap IntKind.i64 (n10 + 1)) w59 ∧
                                                                                    I7 (Sl.mk l60.1 l60.2 l60.3) (Sl.mk l56.1 l56.2 l56.3) (IntKind.wrap IntKind.i64 (n10 + 1)) w59 < I7 l8 l9 n10 w11))))))))))))))))))))))))))))))))))))))))))))))))))))))))) ∧
                (decide (n10 < (↑x0n : Int)) = false →
                  Calls Tryd.prog (34 : Nat) (Array.mk [Value.int IntKind.i64 (↑x0n : Int)]) (w11) (fun e61 w62 =>
                    ∃ s63 : ByteArray, (e61 = Ending.returned (Value.string s63) ∧
                     Calls Tryd.prog (34 : Nat) (Array.mk [Value.int IntKind.i64 (0 : Int)]) (w62) (fun e64 w65 =>
                       ∃ s66 : ByteArray, (e64 = Ending.returned (Value.string s66) ∧
                        (ByteArray.size (ByteArray.mk (Array.mk [80, 75, 5, 6])) + ByteArray.size s66 ≤ 9223372036854775807 ∧
                         Calls Tryd.prog (34 : Nat) (Array.mk [Value.int IntKind.i64 (0 : Int)]) (w65) (fun e67 w68 =>
                           ∃ s69 : ByteArray, (e67 = Ending.returned (Value.string s69) ∧
                            (ByteArray.size (ByteArray.mk (Array.mk [80, 75, 5, 6]) ++ s66) + ByteArray.size s69 ≤ 9223372036854775807 ∧
                             (ByteArray.size (ByteArray.mk (Array.mk [80, 75, 5, 6]) ++ s66 ++ s69) + ByteArray.size s63 ≤ 9223372036854775807 ∧
                              (ByteArray.size (ByteArray.mk (Array.mk [80, 75, 5, 6]) ++ s66 ++ s69 ++ s63) + ByteArray.size s63 ≤ 9223372036854775807 ∧
                               Calls Tryd.prog (35 : Nat) (Array.mk [Value.int IntKind.i64 (↑l9.2 : Int)]) (w68) (fun e70 w71 =>
                                 ∃ s72 : ByteArray, (e70 = Ending.returned (Value.string s72) ∧
                                  (ByteArray.size (ByteArray.mk (Array.mk [80, 75, 5, 6]) ++ s66 ++ s69 ++ s63 ++ s63) + ByteArray.size s72 ≤ 9223372036854775807 ∧
                                   Calls Tryd.prog (35 : Nat) (Array.mk [Value.int IntKind.i64 (↑l8.2 : Int)]) (w71) (fun e73 w74 =>
                                     ∃ s75 : ByteArray, (e73 = Ending.returned (Value.string s75) ∧
                                      (ByteArray.size (ByteArray.mk (Array.mk [80, 75, 5, 6]) ++ s66 ++ s69 ++ s63 ++ s63 ++ s72) + ByteArray.size s75 ≤ 9223372036854775807 ∧
                                       Calls Tryd.prog (34 : Nat) (Array.mk [Value.int IntKind.i64 (0 : Int)]) (w74) (fun e76 w77 =>
                                         ∃ s78 : ByteArray, (e76 = Ending.returned (Value.string s78) ∧
                                          (ByteArray.size (ByteArray.mk (Array.mk [80, 75, 5, 6]) ++ s66 ++ s69 ++ s63 ++ s63 ++ s72 ++ s75) + ByteArray.size s78 ≤ 9223372036854775807 ∧
                                           ∃ w79 : World, ∃ l80 : Sl, (Sem.run Tryd.prog (Builtin.append_ (Array.mk [35, 35]) 35 (Array.mk [Value.slice l8.1 l8.2 l8.3, Value.slice l9.1 l9.2 l9.3])) w77 = Result.ok (Value.slice l80.1 l80.2 l80.3) w79 ∧
                                            ∃ w81 : World, ∃ l82 : Sl, (Sem.run Tryd.prog (Builtin.append_ (Array.mk [35, 9]) 35 (Array.mk [Value.slice l80.1 l80.2 l80.3, Value.string (ByteArray.mk (Array.mk [80, 75, 5, 6]) ++ s66 ++ s69 ++ s63 ++ s63 ++ s72 ++ s75 ++ s78)])) w79 = Result.ok (Value.slice l82.1 l82.2 l82.3) w81 ∧
                                             ∃ w83 : World, ∃ s84 : ByteArray, (Sem.run Tryd.prog (convert 35 9 (Value.slice l82.1 l82.2 l82.3)) w81 = Result.ok (Value.string s84) w83 ∧
                                              R (Value.tuple (Array.mk [Value.string s84, Value.int IntKind.i64 0])) w83))))))))))))))))))))))))))))))))
theorem vc_zip_Write_ok {x0a : Option Addr} {x0n : Nat} {x0c : Nat} {w : World} {R : Value → World → Prop} {R' : Ending → World → Prop} (h : vc_zip_Write x0a x0n x0c w R) (hR : ∀ v w', R v w' → R' (.returned v) w') :
    Calls Tryd.prog 13 #[.slice x0a x0n x0c] w R' :=
  calls_of_body (vs := [(.slice x0a x0n x0c, false)]) (ty := ty) (ann := ⟨[], [(6, [(5, .slice), (6, .slice), (21, .int .i64)])], [(8, .held [(0, true), (1, true), (3, true), (4, true), (5, true), (6, true), (7, true), (8, true), (9, true), (10, true), (2, false), (11, false), (12, true)]), (9, .held [(0, true), (3, true), (13, true), (14, true), (17, true), (18, true), (1, false), (2, true), (4, true), (5, false), (6, true), (7, false), (8, true), (9, false), (10, true), (11, false), (12, true), (15, false), (16, true), (19, true), (20, false), (21, true)])], []⟩) (c := Tryd.f13.body.getD .skip) (by kernel_rfl) Tryd.func13 (by kernel_rfl) (by kernel_rfl) (Eq.mp (by kernel_rfl) h) hR
end Go.Proofs.YtfoeooddnmppnaaDoor

/- The package zip's writer: Check, two, four, facts, Write. Conditions: at most a hundred thousand files, texts no longer than memory. -/
set_option linter.unusedVariables false
namespace Go.Proofs.YtfoeooddnmppnaaDoor
open Go Vc SumM Go.Proofs

theorem zcheck_spec {w : World} {a : Option Addr} {n c : Nat} {ys : List FileE} (hr : ReadsK encF 2 w a ys) (hn : ys.length = n) (hl : n ≤ 100000) (hp : ∀ y ∈ ys, y.path.size ≤ 140737488355328) (ht : totalF ys ≤ 4611686018427387904) :
    Calls Tryd.prog F_zip_Check #[.slice a n c] w fun e w' => e = .returned (.int .i64 (zchk ys)) ∧ Fr (fun _ => False) w w' := by
  refine vc_zip_Check_ok (R := fun v w' => v = .int .i64 (zchk ys) ∧ Fr (fun _ => False) w w') ?_ (fun v w' h => ⟨by rw [h.1], h.2⟩)
  refine ⟨fun z i w' => ∃ k : Nat, i = k ∧ k ≤ ys.length ∧ z = (totalF (ys.take k) : Int) ∧ Fr (fun _ => False) w w', fun z i _ => ys.length - i.toNat, ⟨0, rfl, Nat.zero_le _, rfl, .refl _ _⟩, ?_⟩
  rintro z i w5 ⟨k, rfl, hk, rfl, hf⟩
  have hT := totalF_le ys k
  refine ⟨fun hlt => ?_, fun hge => ?_⟩
  · have hlt := of_decide_eq_true hlt
    have hkl : k < ys.length := by omega
    have hx : ys[k]? = some ys[k] := List.getElem?_eq_getElem hkl
    generalize ys[k] = x at hx
    obtain ⟨ad, had, hld⟩ := ((hr.keep hf (by simp)).load elF hx)
    refine ⟨⟨by omega, by omega⟩, ad, had, x.path, x.data, by rw [Int.toNat_natCast]; exact hld, fun w10 h10 => ?_⟩
    subst h10
    have hT2 := totalF_take hx
    have hT3 := totalF_le ys (k + 1)
    have e1 : IntKind.i64.wrap ((k : Int) + 1) = ((k + 1 : Nat) : Int) := by rw [wrap_i64 (by omega) (by omega)]; omega
    have e2 : IntKind.i64.wrap ((totalF (ys.take k) : Int) + (x.data.size : Int)) = (totalF (ys.take (k + 1)) : Int) := by rw [wrap_i64 (by omega) (by omega)]; omega
    refine ⟨_, boxF_run w5 x, x.data, boxF_cell w5 x (X := fun _ => False) (.refl _ _) (by simp) (j := 1) rfl, ?_⟩
    rw [e1, e2]
    exact ⟨⟨k + 1, rfl, by omega, rfl, hf.trans' (.alloc _ _ _)⟩, by dsimp only; omega⟩
  · have hge := of_decide_eq_false hge
    have hk' : k = ys.length := by omega
    subst hk'
    rw [List.take_length]
    refine ⟨fun h => ⟨?_, hf⟩, fun h1 => ⟨fun h => ⟨?_, hf⟩, fun h2 => ?_⟩⟩
    · have h := of_decide_eq_true h
      unfold zchk; rw [if_pos (.inl (by omega))]
    · have h := of_decide_eq_true h
      unfold zchk; rw [if_pos (.inr (by omega))]
    have h1 := of_decide_eq_false h1
    have h2 := of_decide_eq_false h2
    have hc2 : ¬ (600 < ys.length ∨ 1048576 < totalF ys) := by omega
    refine ⟨fun i w' => ∃ k : Nat, i = k ∧ k ≤ ys.length ∧ (∀ j, j < k → okZ ys j = true) ∧ Fr (fun _ => False) w w', fun i _ => ys.length - i.toNat, ⟨0, rfl, Nat.zero_le _, fun j hj => by omega, hf⟩, ?_⟩
    clear hf
    rintro i w15 ⟨k, rfl, hk, hok, hf⟩
    refine ⟨fun hlt => ?_, fun hge => ⟨?_, hf⟩⟩
    · have hlt := of_decide_eq_true hlt
      have hkl : k < ys.length := by omega
      have hx : ys[k]? = some ys[k] := List.getElem?_eq_getElem hkl
      generalize ys[k] = x at hx
      have hxm := List.mem_of_getElem? hx
      obtain ⟨ad, had, hld⟩ := ((hr.keep hf (by simp)).load elF hx)
      refine ⟨⟨by omega, by omega⟩, ad, had, x.path, x.data, by rw [Int.toNat_natCast]; exact hld, fun w19 h19 => ?_⟩
      subst h19
      obtain ⟨w20, hw20⟩ : ∃ w20, w15.alloc (.cells (encF x).toArray T_api_File) = w20 := ⟨_, rfl⟩
      have hfb : Fr (fun _ => False) w15 w20 := by rw [← hw20]; exact .alloc _ _ _
      have hcell : ∀ w', Fr (fun _ => False) w20 w' → w'.cell? ⟨w15.heap.size, 0, none⟩ = some (.string x.path) := fun w' hw' => by
        rw [← hw20] at hw'; exact boxF_cell w15 x hw' (by simp) (j := 0) rfl
      refine ⟨w20, by rw [← hw20]; exact boxF_run w15 x, fun w21 d21 => ⟨fun w' => Fr (fun _ => False) w21 w', .refl _ _, x.path, fun w' hw' => hcell w' (.trans' (.drew _ d21) hw'), (clean_spec x.path (hp x hxm) w21).mono ?_⟩⟩
      rintro e w26 ⟨rfl, hf26⟩
      have hfw : Fr (fun _ => False) w w26 := ((hf.trans' hfb).trans' (.drew _ d21)).trans' hf26
      have hbad : okZ ys k = false → zchk ys = 4 := fun h => by
        unfold zchk
        rw [if_neg hc2, if_neg]
        intro ha
        rw [List.all_eq_true.1 ha k (List.mem_range.2 hkl)] at h
        cases h
      have e1 : IntKind.i64.wrap ((k : Int) + 1) = ((k + 1 : Nat) : Int) := by rw [wrap_i64 (by omega) (by omega)]; omega
      rw [e1]
      have hnext : okZ ys k = true → (∃ k' : Nat, ((k + 1 : Nat) : Int) = k' ∧ k' ≤ ys.length ∧ (∀ j, j < k' → okZ ys j = true) ∧ Fr (fun _ => False) w w26) ∧ ys.length - ((k + 1 : Nat) : Int).toNat < ys.length - ((k : Int)).toNat := fun h => by
        refine ⟨⟨k + 1, rfl, by omega, fun j hj => ?_, hfw⟩, by omega⟩
        by_cases hjk : j = k
        · rw [hjk]; exact h
        · exact hok j (by omega)
      refine ⟨_, rfl, hf26, fun h => ⟨?_, hfw⟩, fun h => ⟨fun hpos => ?_, fun hpos => hnext ?_⟩⟩
      · have h : cleanB x.path = false := by simpa using h
        rw [hbad (by unfold okZ; rw [hx]; simp only [h, Bool.false_and])]
      · have h : cleanB x.path = true := by simpa using h
        have hpos := of_decide_eq_true hpos
        have hx1 : ys[k - 1]? = some ys[k - 1] := List.getElem?_eq_getElem (by omega)
        generalize ys[k - 1] = y at hx1
        have e2 : IntKind.i64.wrap ((k : Int) - 1) = ((k - 1 : Nat) : Int) := by rw [wrap_i64 (by omega) (by omega)]; omega
        rw [e2]
        have hk0 : decide (k = 0) = false := decide_eq_false (by omega)
        have hrd : ∀ w', Fr (fun _ => False) w21 w' → ∃ ad', a = some ad' ∧ w'.cell? (ad'.add ((k - 1) * 2)) = some (.string y.path) := fun w' hw' => by
          obtain ⟨ad', had', hrd⟩ := (hr.keep (((hf.trans' hfb).trans' (.drew _ d21)).trans' hw') (by simp)) (k - 1) y hx1
          have hz0 : ∀ q : Addr, q.add 0 = q := fun q => by cases q; rfl
          have h0 := hrd 0 (.string y.path) rfl
          rw [hz0] at h0
          exact ⟨ad', had', h0⟩
        refine ⟨⟨by omega, by omega⟩, ad, had, y.path, fun w' hw' => ?_, x.path, fun w' hw' => hcell w' (.trans' (.drew _ d21) hw'), fun hl => ⟨?_, hfw⟩, fun hl => hnext ?_⟩
        · obtain ⟨ad', had', h0⟩ := hrd w' hw'
          rw [had] at had'; cases had'
          rw [Int.toNat_natCast]; exact h0
        · rw [ByteArray.toList_eq, ByteArray.toList_eq, Proofs.bytesLess_eq] at hl
          have hl : decide (y.path.data.toList < x.path.data.toList) = false := by simpa using hl
          rw [hbad (by unfold okZ; rw [hx, hx1]; simp only [hl, hk0, Bool.false_or, Bool.and_false])]
        · rw [ByteArray.toList_eq, ByteArray.toList_eq, Proofs.bytesLess_eq] at hl
          have hl : decide (y.path.data.toList < x.path.data.toList) = true := by simpa using hl
          unfold okZ; rw [hx, hx1]; simp only [hl, h, Bool.or_true, Bool.and_true]
      · have h : cleanB x.path = true := by simpa using h
        have hpos := of_decide_eq_false hpos
        have hk0 : k = 0 := by omega
        unfold okZ; rw [hx]; simp only [h, decide_eq_true hk0, Bool.true_or, Bool.and_true]
    · have hge := of_decide_eq_false hge
      have hk' : k = ys.length := by omega
      unfold zchk
      rw [if_neg hc2, if_pos]
      exact List.all_eq_true.2 fun j hj => hok j (by rw [hk']; exact List.mem_range.1 hj)
theorem two_spec (n : Nat) (hn : n < 9223372036854775808) (w : World) : Calls Tryd.prog F_zip_two #[.int .i64 (n : Int)] w fun e w' => e = .returned (.string ⟨(littleB 2 n).toArray⟩) ∧ Fr (fun _ => False) w w' := by
  refine vc_zip_two_ok (R := fun v w' => v = .string ⟨(littleB 2 n).toArray⟩ ∧ Fr (fun _ => False) w w') ?_ (fun v w' h => ⟨by rw [h.1], h.2⟩)
  unfold vc_zip_two
  rw [wrap_u64 (by omega) (by omega)]
  refine (littleS_spec n 2 (by omega) (by decide) w).mono ?_
  rintro e w2 ⟨rfl, hf⟩
  exact ⟨_, rfl, rfl, hf⟩
theorem four_spec (n : Nat) (hn : n < 9223372036854775808) (w : World) : Calls Tryd.prog F_zip_four #[.int .i64 (n : Int)] w fun e w' => e = .returned (.string ⟨(littleB 4 n).toArray⟩) ∧ Fr (fun _ => False) w w' := by
  refine vc_zip_four_ok (R := fun v w' => v = .string ⟨(littleB 4 n).toArray⟩ ∧ Fr (fun _ => False) w w') ?_ (fun v w' h => ⟨by rw [h.1], h.2⟩)
  unfold vc_zip_four
  rw [wrap_u64 (by omega) (by omega)]
  refine (littleS_spec n 4 (by omega) (by decide) w).mono ?_
  rintro e w2 ⟨rfl, hf⟩
  exact ⟨_, rfl, rfl, hf⟩
theorem le_size (n x : Nat) : (ByteArray.mk (littleB n x).toArray).size = n := by rw [bs_mksize, littleB_length]
theorem facts_spec (m crc p sz : Nat) (hm : m < 65536) (hc : crc < 4294967296) (hp : p < 4294967296) (hs : sz < 4294967296) (name : ByteArray) (hn : name.size < 9223372036854775808) (w : World) :
    Calls Tryd.prog F_zip_facts #[.int .i64 (m : Int), .int .u32 (crc : Int), .int .i64 (p : Int), .int .i64 (sz : Int), .string name] w fun e w' => e = .returned (.string ⟨(factsL m crc p sz name.size).toArray⟩) ∧ Fr (fun _ => False) w w' := by
  refine vc_zip_facts_ok (R := fun v w' => v = .string ⟨(factsL m crc p sz name.size).toArray⟩ ∧ Fr (fun _ => False) w w') ?_ (fun v w' h => ⟨by rw [h.1], h.2⟩)
  unfold vc_zip_facts
  rw [wrap_i64 (x := (crc : Int)) (by omega) (by omega)]
  refine (two_spec 20 (by decide) w).mono ?_
  rintro e w2 ⟨rfl, f2⟩
  refine ⟨_, rfl, (two_spec 0 (by decide) w2).mono ?_⟩
  rintro e w5 ⟨rfl, f5⟩
  refine ⟨_, rfl, by simp only [le_size]; omega, (two_spec m (by omega) w5).mono ?_⟩
  rintro e w8 ⟨rfl, f8⟩
  refine ⟨_, rfl, by simp only [ByteArray.size_append, le_size]; omega, (two_spec 0 (by decide) w8).mono ?_⟩
  rintro e w11 ⟨rfl, f11⟩
  refine ⟨_, rfl, by simp only [ByteArray.size_append, le_size]; omega, (two_spec 0 (by decide) w11).mono ?_⟩
  rintro e w14 ⟨rfl, f14⟩
  refine ⟨_, rfl, by simp only [ByteArray.size_append, le_size]; omega, (four_spec crc (by omega) w14).mono ?_⟩
  rintro e w17 ⟨rfl, f17⟩
  refine ⟨_, rfl, by simp only [ByteArray.size_append, le_size]; omega, (four_spec p (by omega) w17).mono ?_⟩
  rintro e w20 ⟨rfl, f20⟩
  refine ⟨_, rfl, by simp only [ByteArray.size_append, le_size]; omega, (four_spec sz (by omega) w20).mono ?_⟩
  rintro e w23 ⟨rfl, f23⟩
  refine ⟨_, rfl, by simp only [ByteArray.size_append, le_size]; omega, (two_spec name.size hn w23).mono ?_⟩
  rintro e w26 ⟨rfl, f26⟩
  refine ⟨_, rfl, by simp only [ByteArray.size_append, le_size]; omega, (two_spec 0 (by decide) w26).mono ?_⟩
  rintro e w29 ⟨rfl, f29⟩
  refine ⟨_, rfl, by simp only [ByteArray.size_append, le_size]; omega, ?_, (((((((((f2.trans' f5).trans' f8).trans' f11).trans' f14).trans' f17).trans' f20).trans' f23).trans' f26).trans' f29)⟩
  congr 1
end Go.Proofs.YtfoeooddnmppnaaDoor

/- The reference's zip: Same, Check, little, Facts. Conditions: texts no longer than memory. -/
set_option linter.unusedVariables false
namespace Go.Proofs.YtfoeooddnmppnaaDoor
open Go Vc SumM Go.Proofs

theorem rlittle_spec (x n : Nat) (hx : x < 18446744073709551616) (hn : n ≤ 1000) (w : World) :
    Calls Tryd.prog F_cartularyref01_Little #[.int .u64 (x : Int), .int .i64 (n : Int)] w fun e w' => e = .returned (.string ⟨(littleB n x).toArray⟩) ∧ Fr (fun _ => False) w w' := by
  refine vc_cartularyref01_Little_ok (R := fun v w' => v = .string ⟨(littleB n x).toArray⟩ ∧ Fr (fun _ => False) w w') ?_ (fun v w' h => ⟨by rw [h.1], h.2⟩)
  intro w1 h1
  have hf1 : Fr (fun _ => False) w w1 := h1 ▸ Fr.alloc _ _ _
  have ho1 : Vc.Own w1 w.heap.size T_uint8 ⟨some ⟨w.heap.size, 0, none⟩, 0, 0⟩ (byteV []) := h1 ▸ own_empty w T_uint8
  refine ⟨fun y l i w' => ∃ k : Nat, i = (k : Int) ∧ k ≤ n ∧ y = ((x / 256 ^ k : Nat) : Int) ∧ Vc.Own w' w.heap.size T_uint8 l (byteV (littleB k x)) ∧ Fr (fun _ => False) w w', fun _ _ i _ => n - i.toNat, ⟨0, rfl, Nat.zero_le _, by simp, ho1, hf1⟩, ?_⟩
  rintro y l i w7 ⟨k, rfl, hk, rfl, ho, hf⟩
  have e3 : IntKind.i64.wrap ((k : Int) + 1) = ((k + 1 : Nat) : Int) := by rw [wrap_i64 (by omega) (by omega)]; omega
  rw [e3]
  refine ⟨fun hlt => ⟨by decide, fun w8 h8 => ?_⟩, fun hge => ?_⟩
  · have hlt := of_decide_eq_true hlt
    have hx2 : x / 256 ^ k ≤ x := Nat.div_le_self _ _
    have hsu := littleB_succ k x
    have hdd : x / 256 ^ (k + 1) = x / 256 ^ k / 256 := by rw [Nat.pow_succ, Nat.div_div_eq_div_mul]
    generalize x / 256 ^ k = z at h8 hx2 hsu hdd ⊢
    have e1 : IntKind.u8.wrap (Int.tmod (z : Int) 256) = ((z % 256 : Nat) : Int) := by rw [Int.tmod_eq_emod_of_nonneg (by omega), wrap_u8 (by omega) (by omega)]; omega
    have e2 : IntKind.u64.wrap (Int.tdiv (z : Int) 256) = ((z / 256 : Nat) : Int) := by rw [Int.tdiv_eq_ediv_of_nonneg (by omega), wrap_u64 (by omega) (by omega)]; omega
    rw [e1] at h8
    have hln : (byteV (littleB k x)).length = k := by simp [byteV, littleB_length]
    obtain ⟨w9, l10, hr, ho9, hf9, _⟩ := append_one' elByte ho (v := .int .u8 ((z % 256 : Nat) : Int)) rfl (by rw [hln]; unfold maxLen; omega) (by rw [hln]; omega) hf.size h8
    rw [byteV_snoc _ _ (Nat.mod_lt _ (by decide)), ofNat_eq (Nat.mod_mod _ _), ← hsu] at ho9
    rw [e2]
    exact ⟨w9, l10, hr, by decide, ⟨k + 1, rfl, by omega, by rw [hdd], ho9, hf.trans hf9 fun q hq ⟨y, hy, e⟩ => by have := (ho.blk hy).1; omega⟩, by dsimp only; omega⟩
  · have hge := of_decide_eq_false hge
    have : k = n := by omega
    subst this
    exact ⟨_, _, bytes_str (e := T_uint8) (by kernel_rfl) (by kernel_rfl) (by kernel_rfl) l.cap ho.reads (by rw [ho.len]; simp [byteV]), rfl, hf⟩
theorem rcheck_spec {w : World} {a : Option Addr} {n c : Nat} {ys : List FileE} (hr : ReadsK encF 2 w a ys) (hn : ys.length = n) (hl : n ≤ 100000) (hp : ∀ y ∈ ys, y.path.size ≤ 140737488355328) (ht : totalF ys ≤ 4611686018427387904) :
    Calls Tryd.prog F_cartularyref23_Check #[.slice a n c] w fun e w' => e = .returned (.int .i64 (zchk ys)) ∧ Fr (fun _ => False) w w' := by
  refine vc_cartularyref23_Check_ok (R := fun v w' => v = .int .i64 (zchk ys) ∧ Fr (fun _ => False) w w') ?_ (fun v w' h => ⟨by rw [h.1], h.2⟩)
  refine ⟨fun z i w' => ∃ k : Nat, i = k ∧ k ≤ ys.length ∧ z = (totalF (ys.take k) : Int) ∧ Fr (fun _ => False) w w', fun z i _ => ys.length - i.toNat, ⟨0, rfl, Nat.zero_le _, rfl, .refl _ _⟩, ?_⟩
  rintro z i w5 ⟨k, rfl, hk, rfl, hf⟩
  have hT := totalF_le ys k
  refine ⟨fun hlt => ?_, fun hge => ?_⟩
  · have hlt := of_decide_eq_true hlt
    have hkl : k < ys.length := by omega
    have hx : ys[k]? = some ys[k] := List.getElem?_eq_getElem hkl
    generalize ys[k] = x at hx
    obtain ⟨ad, had, hld⟩ := ((hr.keep hf (by simp)).load elF hx)
    refine ⟨⟨by omega, by omega⟩, ad, had, x.path, x.data, by rw [Int.toNat_natCast]; exact hld, fun w10 h10 => ?_⟩
    subst h10
    have hT2 := totalF_take hx
    have hT3 := totalF_le ys (k + 1)
    have e1 : IntKind.i64.wrap ((k : Int) + 1) = ((k + 1 : Nat) : Int) := by rw [wrap_i64 (by omega) (by omega)]; omega
    have e2 : IntKind.i64.wrap ((totalF (ys.take k) : Int) + (x.data.size : Int)) = (totalF (ys.take (k + 1)) : Int) := by rw [wrap_i64 (by omega) (by omega)]; omega
    refine ⟨_, boxF_run w5 x, x.data, boxF_cell w5 x (X := fun _ => False) (.refl _ _) (by simp) (j := 1) rfl, ?_⟩
    rw [e1, e2]
    exact ⟨⟨k + 1, rfl, by omega, rfl, hf.trans' (.alloc _ _ _)⟩, by dsimp only; omega⟩
  · have hge := of_decide_eq_false hge
    have hk' : k = ys.length := by omega
    subst hk'
    rw [List.take_length]
    refine ⟨fun h => ⟨?_, hf⟩, fun h1 => ⟨fun h => ⟨?_, hf⟩, fun h2 => ?_⟩⟩
    · have h := of_decide_eq_true h
      unfold zchk; rw [if_pos (.inl (by omega))]
    · have h := of_decide_eq_true h
      unfold zchk; rw [if_pos (.inr (by omega))]
    have h1 := of_decide_eq_false h1
    have h2 := of_decide_eq_false h2
    have hc2 : ¬ (600 < ys.length ∨ 1048576 < totalF ys) := by omega
    refine ⟨fun i w' => ∃ k : Nat, i = k ∧ k ≤ ys.length ∧ (∀ j, j < k → okZ ys j = true) ∧ Fr (fun _ => False) w w', fun i _ => ys.length - i.toNat, ⟨0, rfl, Nat.zero_le _, fun j hj => by omega, hf⟩, ?_⟩
    clear hf
    rintro i w15 ⟨k, rfl, hk, hok, hf⟩
    refine ⟨fun hlt => ?_, fun hge => ⟨?_, hf⟩⟩
    · have hlt := of_decide_eq_true hlt
      have hkl : k < ys.length := by omega
      have hx : ys[k]? = some ys[k] := List.getElem?_eq_getElem hkl
      generalize ys[k] = x at hx
      have hxm := List.mem_of_getElem? hx
      obtain ⟨ad, had, hld⟩ := ((hr.keep hf (by simp)).load elF hx)
      refine ⟨⟨by omega, by omega⟩, ad, had, x.path, x.data, by rw [Int.toNat_natCast]; exact hld, fun w19 h19 => ?_⟩
      subst h19
      obtain ⟨w20, hw20⟩ : ∃ w20, w15.alloc (.cells (encF x).toArray T_api_File) = w20 := ⟨_, rfl⟩
      have hfb : Fr (fun _ => False) w15 w20 := by rw [← hw20]; exact .alloc _ _ _
      have hcell : ∀ w', Fr (fun _ => False) w20 w' → w'.cell? ⟨w15.heap.size, 0, none⟩ = some (.string x.path) := fun w' hw' => by
        rw [← hw20] at hw'; exact boxF_cell w15 x hw' (by simp) (j := 0) rfl
      refine ⟨w20, by rw [← hw20]; exact boxF_run w15 x, fun w21 d21 => ⟨fun w' => Fr (fun _ => False) w21 w', .refl _ _, x.path, fun w' hw' => hcell w' (.trans' (.drew _ d21) hw'), (rclean_spec x.path (hp x hxm) w21).mono ?_⟩⟩
      rintro e w26 ⟨rfl, hf26⟩
      have hfw : Fr (fun _ => False) w w26 := ((hf.trans' hfb).trans' (.drew _ d21)).trans' hf26
      have hbad : okZ ys k = false → zchk ys = 4 := fun h => by
        unfold zchk
        rw [if_neg hc2, if_neg]
        intro ha
        rw [List.all_eq_true.1 ha k (List.mem_range.2 hkl)] at h
        cases h
      have e1 : IntKind.i64.wrap ((k : Int) + 1) = ((k + 1 : Nat) : Int) := by rw [wrap_i64 (by omega) (by omega)]; omega
      rw [e1]
      have hnext : okZ ys k = true → (∃ k' : Nat, ((k + 1 : Nat) : Int) = k' ∧ k' ≤ ys.length ∧ (∀ j, j < k' → okZ ys j = true) ∧ Fr (fun _ => False) w w26) ∧ ys.length - ((k + 1 : Nat) : Int).toNat < ys.length - ((k : Int)).toNat := fun h => by
        refine ⟨⟨k + 1, rfl, by omega, fun j hj => ?_, hfw⟩, by omega⟩
        by_cases hjk : j = k
        · rw [hjk]; exact h
        · exact hok j (by omega)
      refine ⟨_, rfl, hf26, fun h => ⟨?_, hfw⟩, fun h => ⟨fun hpos => ?_, fun hpos => hnext ?_⟩⟩
      · have h : cleanB x.path = false := by simpa using h
        rw [hbad (by unfold okZ; rw [hx]; simp only [h, Bool.false_and])]
      · have h : cleanB x.path = true := by simpa using h
        have hpos := of_decide_eq_true hpos
        have hx1 : ys[k - 1]? = some ys[k - 1] := List.getElem?_eq_getElem (by omega)
        generalize ys[k - 1] = y at hx1
        have e2 : IntKind.i64.wrap ((k : Int) - 1) = ((k - 1 : Nat) : Int) := by rw [wrap_i64 (by omega) (by omega)]; omega
        rw [e2]
        have hk0 : decide (k = 0) = false := decide_eq_false (by omega)
        have hrd : ∀ w', Fr (fun _ => False) w21 w' → ∃ ad', a = some ad' ∧ w'.cell? (ad'.add ((k - 1) * 2)) = some (.string y.path) := fun w' hw' => by
          obtain ⟨ad', had', hrd⟩ := (hr.keep (((hf.trans' hfb).trans' (.drew _ d21)).trans' hw') (by simp)) (k - 1) y hx1
          have hz0 : ∀ q : Addr, q.add 0 = q := fun q => by cases q; rfl
          have h0 := hrd 0 (.string y.path) rfl
          rw [hz0] at h0
          exact ⟨ad', had', h0⟩
        refine ⟨⟨by omega, by omega⟩, ad, had, y.path, fun w' hw' => ?_, x.path, fun w' hw' => hcell w' (.trans' (.drew _ d21) hw'), fun hl => ⟨?_, hfw⟩, fun hl => hnext ?_⟩
        · obtain ⟨ad', had', h0⟩ := hrd w' hw'
          rw [had] at had'; cases had'
          rw [Int.toNat_natCast]; exact h0
        · rw [ByteArray.toList_eq, ByteArray.toList_eq, Proofs.bytesLess_eq] at hl
          have hl : decide (y.path.data.toList < x.path.data.toList) = false := by simpa using hl
          rw [hbad (by unfold okZ; rw [hx, hx1]; simp only [hl, hk0, Bool.false_or, Bool.and_false])]
        · rw [ByteArray.toList_eq, ByteArray.toList_eq, Proofs.bytesLess_eq] at hl
          have hl : decide (y.path.data.toList < x.path.data.toList) = true := by simpa using hl
          unfold okZ; rw [hx, hx1]; simp only [hl, h, Bool.or_true, Bool.and_true]
      · have h : cleanB x.path = true := by simpa using h
        have hpos := of_decide_eq_false hpos
        have hk0 : k = 0 := by omega
        unfold okZ; rw [hx]; simp only [h, decide_eq_true hk0, Bool.true_or, Bool.and_true]
    · have hge := of_decide_eq_false hge
      have hk' : k = ys.length := by omega
      unfold zchk
      rw [if_neg hc2, if_pos]
      exact List.all_eq_true.2 fun j hj => hok j (by rw [hk']; exact List.mem_range.1 hj)
theorem rsame_spec {w : World} {a b : Option Addr} {n m c d : Nat} {xs ys : List FileE} (hx : ReadsK encF 2 w a xs) (hy : ReadsK encF 2 w b ys) (hn : xs.length = n) (hm : ys.length = m) (hl : n ≤ 1000000) : Calls Tryd.prog F_cartularyref23_Same #[.slice a n c, .slice b m d] w fun e w' => (∃ r : Bool, e = .returned (.bool r) ∧ (r = true ↔ xs = ys)) ∧ Drew w w' := by
  refine vc_cartularyref23_Same_ok (R := fun v w' => (∃ r : Bool, v = .bool r ∧ (r = true ↔ xs = ys)) ∧ Drew w w') ?_ (fun v w' ⟨⟨r, h1, h2⟩, h3⟩ => ⟨⟨r, by rw [h1], h2⟩, h3⟩)
  refine ⟨fun h => ⟨⟨false, rfl, fun h => (by cases h), fun e => ?_⟩, .refl _⟩, fun h => ?_⟩
  · rw [← hn, ← hm, e] at h; simp at h
  have hnm : n = m := by
    have : (n : Int) = m := by simpa using h
    omega
  refine ⟨fun i w' => ∃ k : Nat, i = k ∧ k ≤ n ∧ xs.take k = ys.take k ∧ Drew w w', fun i _ => n - i.toNat, ⟨0, rfl, Nat.zero_le _, rfl, .refl _⟩, ?_⟩
  rintro i w4 ⟨k, rfl, hk, heq, d4⟩
  have e1 : IntKind.i64.wrap ((k : Int) + 1) = ((k + 1 : Nat) : Int) := by rw [wrap_i64 (by omega) (by omega)]; omega
  rw [e1]
  refine ⟨fun hlt w5 d5 => ?_, fun hge => ⟨⟨true, rfl, fun _ => ?_, fun _ => rfl⟩, d4⟩⟩
  · have hlt := of_decide_eq_true hlt
    have h1 : xs[k]? = some xs[k] := List.getElem?_eq_getElem (by omega)
    have h2 : ys[k]? = some ys[k] := List.getElem?_eq_getElem (by omega)
    generalize xs[k] = x at h1
    generalize ys[k] = y at h2
    have fd : Fr (fun _ => False) w w5 := .drew _ (d4.trans d5)
    obtain ⟨ad, had, hld⟩ := (hx.keep fd (by simp)).load elF h1
    obtain ⟨bd, hbd, hld'⟩ := (hy.keep fd (by simp)).load elF h2
    refine ⟨fun w' => w' = w5, rfl, ⟨by omega, by omega⟩, ad, had, ⟨by omega, by omega⟩, bd, hbd, x.path, x.data, fun w' e => by rw [e, Int.toNat_natCast]; exact hld, y.path, y.data, fun w' e => by rw [e, Int.toNat_natCast]; exact hld', fun h => ⟨⟨false, rfl, fun h => (by cases h), fun e => ?_⟩, d4.trans d5⟩, fun h => ⟨⟨k + 1, rfl, by omega, ?_, d4.trans d5⟩, by dsimp only; omega⟩⟩
    · rw [e, h2] at h1
      cases h1
      rw [bs_eq, bs_eq] at h; simp at h
    · rw [bs_eq, bs_eq] at h
      have h : x.path = y.path ∧ x.data = y.data := by simpa using h
      have hxy : x = y := by cases x; cases y; simp only at h; rw [h.1, h.2]
      rw [List.take_add_one, List.take_add_one, heq, h1, h2, hxy]
  · have hge := of_decide_eq_false hge
    have hk' : k = n := by omega
    rw [hk', List.take_of_length_le (by omega), List.take_of_length_le (by omega)] at heq
    exact heq
theorem rlit_spec (n m : Nat) (hn : n < 9223372036854775808) (hm : m ≤ 1000) (w : World) : Calls Tryd.prog F_cartularyref23_little #[.int .i64 (n : Int), .int .i64 (m : Int)] w fun e w' => e = .returned (.string ⟨(littleB m n).toArray⟩) ∧ Fr (fun _ => False) w w' := by
  refine vc_cartularyref23_little_ok (R := fun v w' => v = .string ⟨(littleB m n).toArray⟩ ∧ Fr (fun _ => False) w w') ?_ (fun v w' h => ⟨by rw [h.1], h.2⟩)
  unfold vc_cartularyref23_little
  rw [wrap_u64 (by omega) (by omega)]
  refine (rlittle_spec n m (by omega) hm w).mono ?_
  rintro e w2 ⟨rfl, hf⟩
  exact ⟨_, rfl, rfl, hf⟩
theorem little4_0 : littleB 4 0 = littleB 2 0 ++ littleB 2 0 := rfl
theorem rfacts_spec (m p : Nat) (x : FileE) (hm : m < 65536) (hp : p < 4294967296) (hd : x.data.size < 4294967296) (hn : x.path.size < 4294967296) (w : World) :
    Calls Tryd.prog F_cartularyref23_Facts #[.int .i64 (m : Int), .agg #[.string x.path, .string x.data], .int .i64 (p : Int)] w fun e w' => e = .returned (.string ⟨(factsL m (crcW x.data.data.toList).toNat p x.data.size x.path.size).toArray⟩) ∧ Fr (fun _ => False) w w' := by
  refine vc_cartularyref23_Facts_ok (R := fun v w' => v = .string ⟨(factsL m (crcW x.data.data.toList).toNat p x.data.size x.path.size).toArray⟩ ∧ Fr (fun _ => False) w w') ?_ (fun v w' h => ⟨by rw [h.1], h.2⟩)
  have hcr := (crcW x.data.data.toList).isLt
  intro w1 h1 w2 d2
  have f2 : Fr (fun _ => False) w w2 := (by rw [h1]; exact .alloc _ _ _ : Fr (fun _ => False) w w1).trans' (.drew _ d2)
  have hb2 : w2.heap[w.heap.size]? = some (.cells #[.string x.path, .string x.data] T_api_File (0, 0)) := (Fr.drew (fun _ => False) d2).keep (by rw [h1]; exact alloc_new _ _) (by simp)
  refine ⟨fun w' => Fr (fun _ => False) w2 w', .refl _ _, x.data, fun w' h => by rw [cell_blk (h.keep hb2 (by simp))]; rfl, x.data, fun w' h => by rw [cell_blk (h.keep hb2 (by simp))]; rfl, x.path, fun w' h => by rw [cell_blk (h.keep hb2 (by simp))]; rfl, (rlit_spec 20 2 (by decide) (by decide) w2).mono ?_⟩
  rintro e w11 ⟨rfl, g11⟩
  refine ⟨_, rfl, g11, (rlit_spec 0 2 (by decide) (by decide) w11).mono ?_⟩
  rintro e w14 ⟨rfl, f14⟩
  have g14 := g11.trans' f14
  refine ⟨_, rfl, g14, by simp only [le_size]; omega, (rlit_spec m 2 (by omega) (by decide) w14).mono ?_⟩
  rintro e w17 ⟨rfl, f17⟩
  have g17 := g14.trans' f17
  refine ⟨_, rfl, g17, by simp only [ByteArray.size_append, le_size]; omega, (rlit_spec 0 4 (by decide) (by decide) w17).mono ?_⟩
  rintro e w20 ⟨rfl, f20⟩
  have g20 := g17.trans' f20
  refine ⟨_, rfl, g20, by simp only [ByteArray.size_append, le_size]; omega, (rcrc_spec x.data (by omega) w20).mono ?_⟩
  rintro e w23 ⟨rfl, rfl⟩
  refine ⟨_, rfl, g20, ?_⟩
  rw [wrap_u64 (x := ((crcW x.data.data.toList).toNat : Int)) (by omega) (by omega)]
  refine (rlittle_spec (crcW x.data.data.toList).toNat 4 (by omega) (by decide) w23).mono ?_
  rintro e w26 ⟨rfl, f26⟩
  have g26 := g20.trans' f26
  refine ⟨_, rfl, g26, by simp only [ByteArray.size_append, le_size]; omega, (rlit_spec p 4 (by omega) (by decide) w26).mono ?_⟩
  rintro e w29 ⟨rfl, f29⟩
  have g29 := g26.trans' f29
  refine ⟨_, rfl, g29, by simp only [ByteArray.size_append, le_size]; omega, (rlit_spec x.data.size 4 (by omega) (by decide) w29).mono ?_⟩
  rintro e w32 ⟨rfl, f32⟩
  have g32 := g29.trans' f32
  refine ⟨_, rfl, g32, by simp only [ByteArray.size_append, le_size]; omega, (rlit_spec x.path.size 2 (by omega) (by decide) w32).mono ?_⟩
  rintro e w35 ⟨rfl, f35⟩
  have g35 := g32.trans' f35
  refine ⟨_, rfl, g35, by simp only [ByteArray.size_append, le_size]; omega, (rlit_spec 0 2 (by decide) (by decide) w35).mono ?_⟩
  rintro e w38 ⟨rfl, f38⟩
  refine ⟨_, rfl, g35.trans' f38, by simp only [ByteArray.size_append, le_size]; omega, ?_, (f2.trans' g35).trans' f38⟩
  congr 1
end Go.Proofs.YtfoeooddnmppnaaDoor

/- The reference's Archive and Text. Conditions: texts no longer than memory. -/
set_option linter.unusedVariables false
namespace Go.Proofs.YtfoeooddnmppnaaDoor
open Go Vc SumM Go.Proofs

theorem elIntZ : El Tryd.prog T_S_int T_int (.int .i64 0) 8 := ⟨by kernel_rfl, by kernel_rfl, rfl⟩
theorem elStrZ : El Tryd.prog T_S_string T_string (.string ⟨#[]⟩) 16 := ⟨by kernel_rfl, by kernel_rfl, rfl⟩
def metV (es : List EntZ) : List Value := es.map fun x => Value.int .i64 (x.method : Int)
def pakV (es : List EntZ) : List Value := es.map fun x => Value.string x.packed
theorem outZ_snoc (ys : List EntZ) (f : EntZ) : outZ (ys ++ [f]) = outZ ys ++ locZ f := by unfold outZ; rw [List.flatMap_append]; simp
theorem idxZ_snoc (f : EntZ) : ∀ (off : Nat) (ys : List EntZ), idxZ off (ys ++ [f]) = idxZ off ys ++ cenZ f (off + (outZ ys).length)
  | off, [] => by simp [idxZ, outZ]
  | off, y :: r => by
    rw [List.cons_append, idxZ, idxZ, idxZ_snoc f _ r]
    unfold outZ
    rw [List.flatMap_cons, List.length_append, ← List.append_assoc, Nat.add_assoc]
theorem little10_0 : littleB 10 0 = littleB 2 0 ++ (littleB 2 0 ++ (littleB 2 0 ++ littleB 4 0)) := rfl
theorem cenZ_len (x : EntZ) (off : Nat) : (cenZ x off).length = 46 + x.path.size := by
  unfold cenZ
  simp only [List.length_append, factZ_len, littleB_length, bs_len, List.length_cons, List.length_nil]; omega
theorem idxZ_take_le (es : List EntZ) (k : Nat) : (idxZ 0 (es.take k)).length ≤ (idxZ 0 es).length := by
  have key : ∀ (zs : List EntZ) (off : Nat) (k : Nat), (idxZ off (zs.take k)).length ≤ (idxZ off zs).length := by
    intro zs
    induction zs with
    | nil => intro off k; simp [idxZ]
    | cons z r ih =>
      intro off k
      cases k with
      | zero => simp [idxZ]
      | succ k =>
        rw [List.take_succ_cons, idxZ, idxZ, List.length_append, List.length_append]
        have := ih (off + (locZ z).length) k
        omega
  exact key es 0 k
theorem outZ_take_le (es : List EntZ) (k : Nat) : (outZ (es.take k)).length ≤ (outZ es).length := by
  have := congrArg List.length (outZ_drop es k)
  rw [List.length_append] at this
  omega
theorem box_loadF {w w' : World} {B : Nat} {x : FileE} (h : Fr (fun _ => False) w w') (hb : w.heap[B]? = some (.cells (encF x).toArray T_api_File (0, 0))) : (loadVar T_api_File ⟨B, 0, none⟩).run Tryd.prog w' = .ok (.agg #[.string x.path, .string x.data]) w' :=
  load_agg (vs := encF x) (agg_of (by kernel_rfl)) (by kernel_rfl) fun k v hv => by
    rw [show (⟨B, 0, none⟩ : Addr).add k = ⟨B, k, none⟩ by rw [add_lit, Nat.zero_add], cell_blk (h.keep hb (by simp))]
    simpa using hv
set_option maxHeartbeats 1600000 in
theorem rarchive_spec {w : World} {a b c : Option Addr} {n ca nb cb nc cc : Nat} {es : List EntZ} (hr : ReadsK encF 2 w a (es.map filZ)) (hp : Reads w b (pakV es)) (hm : Reads w c (metV es)) (hn : es.length = n) (hnb : es.length = nb) (hnc : es.length = nc)
    (hx : ∀ x ∈ es, x.method < 65536 ∧ x.packed.size < 4294967296 ∧ x.data.size < 4294967296 ∧ x.path.size < 4294967296) (ho : (outZ es).length ≤ 1099511627776) (hi : (idxZ 0 es).length ≤ 1099511627776) (hl : n ≤ 1000000) :
    Calls Tryd.prog F_cartularyref23_Archive #[.slice a n ca, .slice b nb cb, .slice c nc cc] w fun e w' => e = .returned (.string ⟨(arcZ es).toArray⟩) ∧ Fr (fun _ => False) w w' := by
  refine vc_cartularyref23_Archive_ok (R := fun v w' => v = .string ⟨(arcZ es).toArray⟩ ∧ Fr (fun _ => False) w w') ?_ (fun v w' h => ⟨by rw [h.1], h.2⟩)
  have c4 : ∀ u v p q : UInt8, (ByteArray.mk #[u, v, p, q]).size = 4 := fun _ _ _ _ => rfl
  refine ⟨fun s t i w' => ∃ k : Nat, i = k ∧ k ≤ es.length ∧ s = ⟨(outZ (es.take k)).toArray⟩ ∧ t = ⟨(idxZ 0 (es.take k)).toArray⟩ ∧ Fr (fun _ => False) w w', fun s t i _ => es.length - i.toNat, ⟨0, rfl, Nat.zero_le _, rfl, rfl, .refl _ _⟩, ?_⟩
  rintro s t i w6 ⟨k, rfl, hk, rfl, rfl, hf⟩
  have ho1 := outZ_take_le es k
  have hi1 := idxZ_take_le es k
  refine ⟨fun hlt => ?_, fun hge => ?_⟩
  · have hlt := of_decide_eq_true hlt
    have hkl : k < es.length := by omega
    have hxk : es[k]? = some es[k] := List.getElem?_eq_getElem hkl
    have htk : es.take (k + 1) = es.take k ++ [es[k]] := (List.take_append_getElem hkl).symm
    generalize es[k] = x at hxk htk
    obtain ⟨hx1, hx2, hx3, hx4⟩ := hx x (List.mem_of_getElem? hxk)
    have hyk : (es.map filZ)[k]? = some (filZ x) := by rw [List.getElem?_map, hxk]; rfl
    obtain ⟨ad, had, hld⟩ := (hr.keep hf (by simp)).load elF hyk
    rw [Int.toNat_natCast]
    refine ⟨⟨by omega, by omega⟩, ad, had, x.path, x.data, hld, fun w10 h10 => ?_⟩
    subst h10
    obtain ⟨w11, hw11⟩ : ∃ w11, w6.alloc (.cells (encF (filZ x)).toArray T_api_File) = w11 := ⟨_, rfl⟩
    have hfb : Fr (fun _ => False) w6 w11 := by rw [← hw11]; exact .alloc _ _ _
    have hbx : w11.heap[w6.heap.size]? = some (.cells (encF (filZ x)).toArray T_api_File (0, 0)) := by rw [← hw11]; exact alloc_new _ _
    have hp0 : ∀ {w' : World}, Fr (fun _ => False) w11 w' → w'.cell? ⟨w6.heap.size, 0, none⟩ = some (.string x.path) := fun h => by rw [cell_blk (h.keep hbx (by simp))]; rfl
    have hmc : ∀ {w' : World}, Fr (fun _ => False) w w' → ∃ q, c = some q ∧ w'.cell? (q.add (k * 1)) = some (.int .i64 (x.method : Int)) := fun h => by
      obtain ⟨q, hq, hc⟩ := hm k (.int .i64 (x.method : Int)) (by unfold metV; rw [List.getElem?_map, hxk]; rfl)
      exact ⟨q, hq, by rw [Nat.mul_one]; exact h.cell hc (by simp)⟩
    have hpc : ∀ {w' : World}, Fr (fun _ => False) w w' → ∃ q, b = some q ∧ w'.cell? (q.add (k * 1)) = some (.string x.packed) := fun h => by
      obtain ⟨q, hq, hc⟩ := hp k (.string x.packed) (by unfold pakV; rw [List.getElem?_map, hxk]; rfl)
      exact ⟨q, hq, by rw [Nat.mul_one]; exact h.cell hc (by simp)⟩
    refine ⟨w11, by rw [← hw11]; exact boxF_run w6 (filZ x), fun w12 d12 => ?_⟩
    have f12 : Fr (fun _ => False) w11 w12 := .drew _ d12
    have hfw : Fr (fun _ => False) w w11 := hf.trans' hfb
    obtain ⟨qm, hqm, _⟩ := hmc hfw
    obtain ⟨qp, hqp, _⟩ := hpc hfw
    refine ⟨fun w' => Fr (fun _ => False) w11 w', f12, ⟨by omega, by omega⟩, qm, hqm, x.method, fun w' h => by
        obtain ⟨q, hq, hc⟩ := hmc (hfw.trans' h); rw [hqm] at hq; cases hq; exact hc, ⟨by omega, by omega⟩, qp, hqp, x.packed, fun w' h => by
        obtain ⟨q, hq, hc⟩ := hpc (hfw.trans' h); rw [hqp] at hq; cases hq; exact hc, x.path, x.data, fun w' h => box_loadF h hbx, ?_⟩
    refine (rfacts_spec x.method x.packed.size (filZ x) hx1 hx2 hx3 hx4 w12).mono ?_
    rintro e w24 ⟨rfl, f24⟩
    have g24 := f12.trans' f24
    have hF : (ByteArray.mk (factsL x.method (crcW (filZ x).data.data.toList).toNat x.packed.size (filZ x).data.size (filZ x).path.size).toArray) = ⟨(factZ x).toArray⟩ := rfl
    have hFs : (ByteArray.mk (factZ x).toArray).size = 26 := by rw [bs_mksize]; exact factZ_len x
    refine ⟨_, rfl, g24, fun w26 d26 => ?_⟩
    rw [hF]
    have g26 := g24.trans' (.drew _ d26)
    have ho2 : (outZ (es.take k)).length + (locZ x).length ≤ 1099511627776 := by rw [← outZ_len_take hxk]; exact Nat.le_trans (outZ_take_le es (k + 1)) ho
    rw [locZ_len] at ho2
    refine ⟨fun w' => Fr (fun _ => False) w11 w', g26, x.path, fun w' h => hp0 h, (rlit_spec 20 2 (by decide) (by decide) w26).mono ?_⟩
    rintro e w31 ⟨rfl, f31⟩
    have g31 := g26.trans' f31
    refine ⟨_, rfl, g31, by simp only [le_size, c4]; omega, by simp only [ByteArray.size_append, le_size, c4, hFs]; omega, (rlit_spec 0 10 (by decide) (by decide) w31).mono ?_⟩
    rintro e w34 ⟨rfl, f34⟩
    have g34 := g31.trans' f34
    refine ⟨_, rfl, g34, by simp only [ByteArray.size_append, le_size, c4, hFs]; omega, (rlit_spec (ByteArray.mk (outZ (es.take k)).toArray).size 4 (by rw [bs_mksize]; omega) (by decide) w34).mono ?_⟩
    rintro e w37 ⟨rfl, f37⟩
    have g37 := g34.trans' f37
    obtain ⟨qp', hqp', hcp⟩ := hpc (hfw.trans' g37)
    refine ⟨_, rfl, g37, by simp only [ByteArray.size_append, le_size, c4, hFs]; omega, by simp only [ByteArray.size_append, le_size, c4, hFs]; omega, by simp only [ByteArray.size_append, c4, bs_mksize, factZ_len, littleB_length]; omega, by simp only [c4, hFs]; omega, x.path, hp0 g37, by simp only [ByteArray.size_append, c4, hFs]; omega, ⟨by omega, by omega⟩, qp', hqp', x.packed, hcp, by simp only [ByteArray.size_append, c4, hFs]; omega, by simp only [ByteArray.size_append, c4, bs_mksize, factZ_len]; omega, fun w42 d42 => ?_⟩
    have e1 : IntKind.i64.wrap ((k : Int) + 1) = ((k + 1 : Nat) : Int) := by rw [wrap_i64 (by omega) (by omega)]; omega
    rw [e1]
    refine ⟨⟨k + 1, rfl, by omega, ?_, ?_, (hfw.trans' g37).trans' (.drew _ d42)⟩, by dsimp only; omega⟩
    · refine bs_ext ?_
      rw [htk, outZ_snoc]
      simp only [bs_app, List.append_assoc]
      rfl
    · refine bs_ext ?_
      rw [htk, idxZ_snoc, Nat.zero_add, bs_mksize]
      unfold cenZ
      rw [little10_0]
      simp only [bs_app, List.append_assoc]
  · have hge := of_decide_eq_false hge
    have hk' : k = es.length := by omega
    subst hk'
    rw [List.take_length] at *
    refine (rlit_spec n 2 (by omega) (by decide) w6).mono ?_
    rintro e w44 ⟨rfl, f44⟩
    refine ⟨_, rfl, by simp only [bs_mksize]; omega, by simp only [ByteArray.size_append, bs_mksize, c4]; omega, (rlit_spec 0 4 (by decide) (by decide) w44).mono ?_⟩
    rintro e w47 ⟨rfl, f47⟩
    refine ⟨_, rfl, by simp only [ByteArray.size_append, bs_mksize, littleB_length, c4]; omega, by simp only [ByteArray.size_append, bs_mksize, littleB_length, c4]; omega, by simp only [ByteArray.size_append, bs_mksize, littleB_length, c4]; omega, (rlit_spec (ByteArray.mk (idxZ 0 es).toArray).size 4 (by rw [bs_mksize]; omega) (by decide) w47).mono ?_⟩
    rintro e w50 ⟨rfl, f50⟩
    refine ⟨_, rfl, by simp only [ByteArray.size_append, bs_mksize, littleB_length, c4]; omega, (rlit_spec (ByteArray.mk (outZ es).toArray).size 4 (by rw [bs_mksize]; omega) (by decide) w50).mono ?_⟩
    rintro e w53 ⟨rfl, f53⟩
    refine ⟨_, rfl, by simp only [ByteArray.size_append, bs_mksize, littleB_length, c4]; omega, (rlit_spec 0 2 (by decide) (by decide) w53).mono ?_⟩
    rintro e w56 ⟨rfl, f56⟩
    refine ⟨_, rfl, by simp only [ByteArray.size_append, bs_mksize, littleB_length, c4]; omega, ?_, ((((hf.trans' f44).trans' f47).trans' f50).trans' f53).trans' f56⟩
    congr 1
    refine bs_ext ?_
    unfold arcZ endL
    rw [little4_0, bs_mksize, bs_mksize, hn]
    simp only [bs_app, List.append_assoc]
end Go.Proofs.YtfoeooddnmppnaaDoor

/- Formulas of 1 Go functions of this seat (written by a program of the author's, vcgen.py), and that each is enough for the call. No condition. -/
set_option linter.unusedVariables false
namespace Go.Proofs.YtfoeooddnmppnaaDoor
open Go Vc Go.Proofs
set_option maxRecDepth 100000
/-- sums.FromLittle -/
def vc_sums_FromLittle (x0 : ByteArray) (w : World) (R : Value → World → Prop) : Prop :=
  ∃ I1 : Int → Int → World → Prop, ∃ I2 : Int → Int → World → Nat, (I1 0 0 w ∧
   ∀ n3 : Int,
   ∀ n4 : Int,
   ∀ w5 : World,
   (I1 n3 n4 w5 →
     ((((decide (n4 < if 8 < (↑(ByteArray.size x0) : Int) then 8 else (↑(ByteArray.size x0) : Int)) = true) →
        ((0 ≤ n4 ∧
          n4 < (↑(ByteArray.size x0) : Int)) ∧
         (0 ≤ IntKind.wrap IntKind.i64 (8 * n4) ∧
          (I1 (IntKind.wrap IntKind.u64 (↑(BitVec.toNat (BitVec.ofInt 64 n3 ||| BitVec.ofInt 64 (IntKind.wrap IntKind.u64 (IntKind.wrap IntKind.u64 (byteAt x0 n4) * 2 ^ min (Int.toNat (IntKind.wrap IntKind.i64 (8 * n4))) 64)))) : Int)) (IntKind.wrap IntKind.i64 (n4 + 1)) w5 ∧
           I2 (IntKind.wrap IntKind.u64 (↑(BitVec.toNat (BitVec.ofInt 64 n3 ||| BitVec.ofInt 64 (IntKind.wrap IntKind.u64 (IntKind.wrap IntKind.u64 (byteAt x0 n4) * 2 ^ min (Int.toNat (IntKind.wrap IntKind.i64 (8 * n4))) 64)))) : Int)) (IntKind.wrap IntKind.i64 (n4 + 1)) w5 < I2 n3 n4 w5))))) ∧
      ((decide (n4 < if 8 < (↑(ByteArray.size x0) : Int) then 8 else (↑(ByteArray.size x0) : Int)) = false) →
        R (Value.int IntKind.u64 n3) w5))))
theorem vc_sums_FromLittle_ok {x0 : ByteArray} {w : World} {R : Value → World → Prop} {R' : Ending → World → Prop} (h : vc_sums_FromLittle x0 w R) (hR : ∀ v w', R v w' → R' (.returned v) w') :
    Calls Tryd.prog 93 #[.string x0] w R' :=
  calls_of_body (vs := [(.string x0, false)]) (ty := ty) (ann := ⟨[], [(3, [(3, .int .u64), (8, .int .i64)])], [], []⟩) (c := Tryd.f93.body.getD .skip) (by kernel_rfl) Tryd.func93 (by kernel_rfl) (by kernel_rfl) (Eq.mp (by kernel_rfl) h) hR
end Go.Proofs.YtfoeooddnmppnaaDoor

/- sums.FromLittle. Condition: at most eight bytes. -/
set_option linter.unusedVariables false
namespace Go.Proofs.YtfoeooddnmppnaaDoor
open Go Vc SumM Go.Proofs

theorem fromlittle_spec (s : ByteArray) (hs : s.size ≤ 8) (w : World) :
    Calls Tryd.prog F_sums_FromLittle #[.string s] w fun e w' => e = .returned (.int .u64 ((numL s.data.toList : Nat) : Int)) ∧ w' = w := by
  refine vc_sums_FromLittle_ok (R := fun v w' => v = .int .u64 ((numL s.data.toList : Nat) : Int) ∧ w' = w) ?_ (fun v w' h => ⟨by rw [h.1], h.2⟩)
  have hif : (if 8 < (s.size : Int) then 8 else (s.size : Int)) = (s.size : Int) := if_neg (by omega)
  unfold vc_sums_FromLittle
  rw [hif]
  refine ⟨fun a i w5 => ∃ n : Nat, i = (n : Int) ∧ n ≤ s.size ∧ a = ((numL (s.data.toList.take n) : Nat) : Int) ∧ w5 = w, fun a i w5 => s.size - i.toNat, ⟨0, rfl, Nat.zero_le _, rfl, rfl⟩, ?_⟩
  rintro a i w5 ⟨n, rfl, hn, rfl, hw⟩
  replace hw := hw.symm
  subst hw
  refine ⟨fun hlt => ?_, fun hge => ?_⟩
  · have hlt := of_decide_eq_true hlt
    have hb := byt_lt s n
    have hl : (s.data.toList.take n).length = n := by rw [List.length_take]; simp; omega
    have hv := numL_lt (s.data.toList.take n)
    rw [hl] at hv
    have hsn := numL_snoc (s.data.toList.take n) (UInt8.ofNat (byt s n))
    rw [← take_byt s (by omega), toNat_byt, hl] at hsn
    have hp : (256 : Nat) ^ n = 2 ^ (8 * n) := by rw [Nat.pow_mul]
    rw [hp] at hv hsn
    have hor : numL (s.data.toList.take n) ||| byt s n * 2 ^ (8 * n) = byt s n * 2 ^ (8 * n) + numL (s.data.toList.take n) := by
      rw [Nat.or_comm, Nat.mul_comm, ← Nat.two_pow_add_eq_or_of_lt hv]
    generalize numL (s.data.toList.take n) = x at hsn hv hor ⊢
    have hp7 : 2 ^ (8 * n) ≤ 2 ^ 56 := Nat.pow_le_pow_right (by decide) (by omega)
    have hm : byt s n * 2 ^ (8 * n) ≤ 255 * 2 ^ 56 := Nat.mul_le_mul (by omega) hp7
    have e8 : IntKind.i64.wrap (8 * (n : Int)) = ((8 * n : Nat) : Int) := by rw [wrap_i64 (by omega) (by omega)]; omega
    have e1 : IntKind.u64.wrap (byteAt s (n : Int)) = ((byt s n : Nat) : Int) := by rw [byteAt_nat, wrap_u64 (by omega) (by omega)]
    have e0 : ((byt s n : Nat) : Int) * 2 ^ min (((8 * n : Nat) : Int)).toNat 64 = ((byt s n * 2 ^ (8 * n) : Nat) : Int) := by
      rw [Int.toNat_natCast, Nat.min_eq_left (by omega), Int.natCast_mul]
      congr 1
    generalize 2 ^ (8 * n) = p at *
    have e2 : IntKind.u64.wrap (((BitVec.ofInt 64 (x : Int) ||| BitVec.ofInt 64 (IntKind.u64.wrap (IntKind.u64.wrap (byteAt s (n : Int)) * 2 ^ min (IntKind.i64.wrap (8 * (n : Int))).toNat 64))).toNat : Nat) : Int) = ((numL (s.data.toList.take (n + 1)) : Nat) : Int) := by
      rw [e8, e1, e0, wrap_u64 (x := ((byt s n * p : Nat) : Int)) (by omega) (by omega), or_nat 64 _ _ (by omega) (by omega), hor, wrap_u64 (by omega) (by omega), hsn]
    have e3 : IntKind.i64.wrap ((n : Int) + 1) = ((n + 1 : Nat) : Int) := by rw [wrap_i64 (by omega) (by omega)]; omega
    refine ⟨⟨by omega, by omega⟩, by rw [e8]; omega, ?_⟩
    rw [e2, e3]
    exact ⟨⟨n + 1, rfl, by omega, rfl, rfl⟩, by dsimp only; omega⟩
  · have hge := of_decide_eq_false hge
    have : n = s.size := by omega
    subst this
    rw [take_size]
    exact ⟨rfl, rfl⟩
end Go.Proofs.YtfoeooddnmppnaaDoor

/- Formulas of 6 Go functions of this seat (written by a program of the author's, vcgen.py), and that each is enough for the call. No condition. -/
set_option linter.unusedVariables false
namespace Go.Proofs.YtfoeooddnmppnaaDoor
open Go Vc Go.Proofs
set_option maxRecDepth 100000
/-- zip.must -/
def vc_zip_must (x0 : Bool) (x1 : Int) (w : World) (R : Value → World → Prop) : Prop :=
  ((((!x0) = true →
     False)) ∧
   ((!x0) = false →
     R (Value.tuple (Array.mk [])) w))
theorem vc_zip_must_ok {x0 : Bool} {x1 : Int} {w : World} {R : Value → World → Prop} {R' : Ending → World → Prop} (h : vc_zip_must x0 x1 w R) (hR : ∀ v w', R v w' → R' (.returned v) w') :
    Calls Tryd.prog 41 #[.bool x0, .int .i64 x1] w R' :=
  calls_of_body (vs := [(.bool x0, false), (.int .i64 x1, false)]) (ty := ty) (ann := ⟨[], [], [], []⟩) (c := Tryd.f41.body.getD .skip) (by kernel_rfl) Tryd.func41 (by kernel_rfl) (by kernel_rfl) (Eq.mp (by kernel_rfl) h) hR
/-- (*zip.reader).take -/
def vc_zip_reader_take (x0 : Nat) (x1 : Int) (w : World) (R : Value → World → Prop) : Prop :=
  ∀ w1 : World,
  (Drew w w1 →
    ∃ I2 : World → Prop, (I2 w1 ∧
     ∃ s3 : ByteArray, ((∀ w4 : World,
      (I2 w4 →
        World.cell? w4 (Addr.mk x0 0 none) = some (Value.string s3))) ∧
      ∃ n5 : Int, ((∀ w6 : World,
       (I2 w6 →
         World.cell? w6 (Addr.mk x0 1 none) = some (Value.int IntKind.i64 n5))) ∧
       Calls Tryd.prog (41 : Nat) (Array.mk [Value.bool (decide (x1 ≤ IntKind.wrap IntKind.i64 ((↑(ByteArray.size s3) : Int) - n5))), Value.int IntKind.i64 6]) (w1) (fun e7 w8 =>
         (e7 = Ending.returned (Value.tuple (Array.mk [])) ∧
          ∃ n9 : Int, (World.cell? w8 (Addr.mk x0 1 none) = some (Value.int IntKind.i64 n9) ∧
           (Wr w8 (Addr.mk x0 1 none) ∧
            ∀ w10 : World,
            (w10 = World.setCell w8 (Addr.mk x0 1 none) (Value.int IntKind.i64 (IntKind.wrap IntKind.i64 (n9 + x1))) →
              ∃ s11 : ByteArray, (World.cell? w10 (Addr.mk x0 0 none) = some (Value.string s11) ∧
               ∃ n12 : Int, (World.cell? w10 (Addr.mk x0 1 none) = some (Value.int IntKind.i64 n12) ∧
                ∃ n13 : Int, (World.cell? w10 (Addr.mk x0 1 none) = some (Value.int IntKind.i64 n13) ∧
                 ((0 ≤ IntKind.wrap IntKind.i64 (n12 - x1) ∧
                   (IntKind.wrap IntKind.i64 (n12 - x1) ≤ n13 ∧
                    n13 ≤ (↑(ByteArray.size s11) : Int))) ∧
                  ∀ w14 : World,
                  (Drew w10 w14 →
                    R (Value.string (ByteArray.extract s11 (Int.toNat (IntKind.wrap IntKind.i64 (n12 - x1))) (Int.toNat n13))) w14))))))))))))))
theorem vc_zip_reader_take_ok {x0 : Nat} {x1 : Int} {w : World} {R : Value → World → Prop} {R' : Ending → World → Prop} (h : vc_zip_reader_take x0 x1 w R) (hR : ∀ v w', R v w' → R' (.returned v) w') :
    Calls Tryd.prog 43 #[.pointer (some ⟨x0, 0, none⟩), .int .i64 x1] w R' :=
  calls_of_body (vs := [(.pointer (some ⟨x0, 0, none⟩), true), (.int .i64 x1, false)]) (ty := ty) (ann := ⟨[], [], [(1, .held [(0, true), (1, true), (2, true), (3, true), (4, true), (5, true), (6, true), (7, true), (8, true), (9, true), (10, true), (11, true), (12, false)]), (3, .quiet)], []⟩) (c := Tryd.f43.body.getD .skip) (by kernel_rfl) Tryd.func43 (by kernel_rfl) (by kernel_rfl) (Eq.mp (by kernel_rfl) h) hR
/-- (*zip.reader).number -/
def vc_zip_reader_number (x0 : Nat) (x1 : Int) (w : World) (R : Value → World → Prop) : Prop :=
  Calls Tryd.prog (43 : Nat) (Array.mk [Value.pointer (some (Addr.mk x0 0 none)), Value.int IntKind.i64 x1]) (w) (fun e1 w2 =>
    ∃ s3 : ByteArray, (e1 = Ending.returned (Value.string s3) ∧
     Calls Tryd.prog (93 : Nat) (Array.mk [Value.string s3]) (w2) (fun e4 w5 =>
       ∃ n6 : Int, (e4 = Ending.returned (Value.int IntKind.u64 n6) ∧
        R (Value.int IntKind.i64 (IntKind.wrap IntKind.i64 n6)) w5))))
theorem vc_zip_reader_number_ok {x0 : Nat} {x1 : Int} {w : World} {R : Value → World → Prop} {R' : Ending → World → Prop} (h : vc_zip_reader_number x0 x1 w R) (hR : ∀ v w', R v w' → R' (.returned v) w') :
    Calls Tryd.prog 40 #[.pointer (some ⟨x0, 0, none⟩), .int .i64 x1] w R' :=
  calls_of_body (vs := [(.pointer (some ⟨x0, 0, none⟩), true), (.int .i64 x1, false)]) (ty := ty) (ann := ⟨[], [], [], []⟩) (c := Tryd.f40.body.getD .skip) (by kernel_rfl) Tryd.func40 (by kernel_rfl) (by kernel_rfl) (Eq.mp (by kernel_rfl) h) hR
/-- (*zip.reader).want -/
def vc_zip_reader_want (x0 : Nat) (x1 : ByteArray) (w : World) (R : Value → World → Prop) : Prop :=
  Calls Tryd.prog (43 : Nat) (Array.mk [Value.pointer (some (Addr.mk x0 0 none)), Value.int IntKind.i64 (↑(ByteArray.size x1) : Int)]) (w) (fun e1 w2 =>
    ∃ s3 : ByteArray, (e1 = Ending.returned (Value.string s3) ∧
     Calls Tryd.prog (41 : Nat) (Array.mk [Value.bool (ByteArray.toList s3 == ByteArray.toList x1), Value.int IntKind.i64 3]) (w2) (fun e4 w5 =>
       (e4 = Ending.returned (Value.tuple (Array.mk [])) ∧
        R (Value.tuple (Array.mk [])) w5))))
theorem vc_zip_reader_want_ok {x0 : Nat} {x1 : ByteArray} {w : World} {R : Value → World → Prop} {R' : Ending → World → Prop} (h : vc_zip_reader_want x0 x1 w R) (hR : ∀ v w', R v w' → R' (.returned v) w') :
    Calls Tryd.prog 39 #[.pointer (some ⟨x0, 0, none⟩), .string x1] w R' :=
  calls_of_body (vs := [(.pointer (some ⟨x0, 0, none⟩), true), (.string x1, false)]) (ty := ty) (ann := ⟨[], [], [], []⟩) (c := Tryd.f39.body.getD .skip) (by kernel_rfl) Tryd.func39 (by kernel_rfl) (by kernel_rfl) (Eq.mp (by kernel_rfl) h) hR
/-- (*zip.reader).head -/
def vc_zip_reader_head (x0 : Nat) (w : World) (R : Value → World → Prop) : Prop :=
  ∀ w1 : World,
  (w1 = World.alloc w (Obj.cells (Array.mk [Value.int IntKind.i64 0, Value.int IntKind.u32 0, Value.int IntKind.i64 0, Value.int IntKind.i64 0, Value.int IntKind.i64 0]) 76) →
    Calls Tryd.prog (34 : Nat) (Array.mk [Value.int IntKind.i64 (20 : Int)]) (w1) (fun e2 w3 =>
      ∃ s4 : ByteArray, (e2 = Ending.returned (Value.string s4) ∧
       Calls Tryd.prog (34 : Nat) (Array.mk [Value.int IntKind.i64 (0 : Int)]) (w3) (fun e5 w6 =>
         ∃ s7 : ByteArray, (e5 = Ending.returned (Value.string s7) ∧
          (ByteArray.size s4 + ByteArray.size s7 ≤ 9223372036854775807 ∧
           Calls Tryd.prog (39 : Nat) (Array.mk [Value.pointer (some (Addr.mk x0 0 none)), Value.string (s4 ++ s7)]) (w6) (fun e8 w9 =>
             (e8 = Ending.returned (Value.tuple (Array.mk [])) ∧
              Calls Tryd.prog (40 : Nat) (Array.mk [Value.pointer (some (Addr.mk x0 0 none)), Value.int IntKind.i64 2]) (w9) (fun e10 w11 =>
                ∃ n12 : Int, (e10 = Ending.returned (Value.int IntKind.i64 n12) ∧
                 ∀ w13 : World,
                 (w13 = World.alloc w11 (Obj.cells (Array.mk [Value.int IntKind.i64 0, Value.int IntKind.u32 0, Value.int IntKind.i64 0, Value.int IntKind.i64 0, Value.int IntKind.i64 0]) 76) →
                   ∃ w14 : World, (Sem.run Tryd.prog (storeVar 76 (Addr.mk (Array.size (World.heap w11)) 0 none) (Value.agg (Array.mk [Value.int IntKind.i64 n12, Value.int IntKind.u32 0, Value.int IntKind.i64 0, Value.int IntKind.i64 0, Value.int IntKind.i64 0]))) w13 = Result.ok PUnit.unit w14 ∧
                    Calls Tryd.prog (34 : Nat) (Array.mk [Value.int IntKind.i64 (0 : Int)]) (w14) (fun e15 w16 =>
                      ∃ s17 : ByteArray, (e15 = Ending.returned (Value.string s17) ∧
                       Calls Tryd.prog (34 : Nat) (Array.mk [Value.int IntKind.i64 (0 : Int)]) (w16) (fun e18 w19 =>
                         ∃ s20 : ByteArray, (e18 = Ending.returned (Value.string s20) ∧
                          (ByteArray.size s17 + ByteArray.size s20 ≤ 9223372036854775807 ∧
                           Calls Tryd.prog (39 : Nat) (Array.mk [Value.pointer (some (Addr.mk x0 0 none)), Value.string (s17 ++ s20)]) (w19) (fun e21 w22 =>
                             (e21 = Ending.returned (Value.tuple (Array.mk [])) ∧
                              Calls Tryd.prog (40 : Nat) (Array.mk [Value.pointer (some (Addr.mk x0 0 none)), Value.int IntKind.i64 4]) (w22) (fun e23 w24 =>
                                ∃ n25 : Int, (e23 = Ending.returned (Value.int IntKind.i64 n25) ∧
                                 (Wr w24 (Addr.mk (Array.size (World.heap w11)) 1 none) ∧
                                  ∀ w26 : World,
                                  (w26 = World.setCell w24 (Addr.mk (Array.size (World.heap w11)) 1 none) (Value.int IntKind.u32 (IntKind.wrap IntKind.u32 n25)) →
                                    Calls Tryd.prog (40 : Nat) (Array.mk [Value.pointer (some (Addr.mk x0 0 none)), Value.int IntKind.i64 4]) (w26) (fun e27 w28 =>
                                      ∃ n29 : Int, (e27 = Ending.returned (Value.int IntKind.i64 n29) ∧
                                       Calls Tryd.prog (40 : Nat) (Array.mk [Value.pointer (some (Addr.mk x0 0 none)), Value.int IntKind.i64 4]) (w28) (fun e30 w31 =>
                                         ∃ n32 : Int, (e30 = Ending.returned (Value.int IntKind.i64 n32) ∧
                                          Calls Tryd.prog (40 : Nat) (Array.mk [Value.pointer (some (Addr.mk x0 0 none)), Value.int IntKind.i64 2]) (w31) (fun e33 w34 =>
                                            ∃ n35 : Int, (e33 = Ending.returned (Value.int IntKind.i64 n35) ∧
                                             (Wr w34 (Addr.mk (Array.size (World.heap w11)) 2 none) ∧
                                              ∀ w36 : World,
                                              (w36 = World.setCell w34 (Addr.mk (Array.size (World.heap w11)) 2 none) (Value.int IntKind.i64 n29) →
                                                (Wr w36 (Addr.mk (Array.size (World.heap w11)) 3 none) ∧
                                                 ∀ w37 : World,
                                                 (w37 = World.setCell w36 (Addr.mk (Array.size (World.heap w11)) 3 none) (Value.int IntKind.i64 n32) →
                                                   (Wr w37 (Addr.mk (Array.size (World.heap w11)) 4 none) ∧
                                                    ∀ w38 : World,
                                                    (w38 = World.setCell w37 (Addr.mk (Array.size (World.heap w11)) 4 none) (Value.int IntKind.i64 n35) →
                                                      Calls Tryd.prog (34 : Nat) (Array.mk [Value.int IntKind.i64 (0 : Int)]) (w38) (fun e39 w40 =>
                                                        ∃ s41 : ByteArray, (e39 = Ending.returned (Value.string s41) ∧
                                                         Calls Tryd.prog (39 : Nat) (Array.mk [Value.pointer (some (Addr.mk x0 0 none)), Value.string s41]) (w40) (fun e42 w43 =>
                                                           (e42 = Ending.returned (Value.tuple (Array.mk [])) ∧
                                                            ∃ n44 : Int, ∃ n45 : Int, ∃ n46 : Int, ∃ n47 : Int, ∃ n48 : Int, (Sem.run Tryd.prog (loadVar 76 (Addr.mk (Array.size (World.heap w11)) 0 none)) w43 = Result.ok (Value.agg (Array.mk [Value.int IntKind.i64 n44, Value.int IntKind.u32 n45, Value.int IntKind.i64 n46, Value.int IntKind.i64 n47, Value.int IntKind.i64 n48])) w43 ∧
                                                             ∃ w49 : World, (Sem.run Tryd.prog (storeVar 76 (Addr.mk (Array.size (World.heap w)) 0 none) (Value.agg (Array.mk [Value.int IntKind.i64 n44, Value.int IntKind.u32 n45, Value.int IntKind.i64 n46, Value.int IntKind.i64 n47, Value.int IntKind.i64 n48]))) w43 = Result.ok PUnit.unit w49 ∧
                                                              ∃ n50 : Int, ∃ n51 : Int, ∃ n52 : Int, ∃ n53 : Int, ∃ n54 : Int, (Sem.run Tryd.prog (loadVar 76 (Addr.mk (Array.size (World.heap w)) 0 none)) w49 = Result.ok (Value.agg (Array.mk [Value.int IntKind.i64 n50, Value.int IntKind.u32 n51, Value.int IntKind.i64 n52, Value.int IntKind.i64 n53, Value.int IntKind.i64 n54])) w49 ∧
                                                               R (Value.agg (Array.mk [Value.int IntKind.i64 n50, Value.int IntKind.u32 n51, Value.int IntKind.i64 n52, Value.int IntKind.i64 n53, Value.int IntKind.i64 n54])) w49))))))))))))))))))))))))))))))))))))))))))
theorem vc_zip_reader_head_ok {x0 : Nat} {w : World} {R : Value → World → Prop} {R' : Ending → World → Prop} (h : vc_zip_reader_head x0 w R) (hR : ∀ v w', R v w' → R' (.returned v) w') :
    Calls Tryd.prog 42 #[.pointer (some ⟨x0, 0, none⟩)] w R' :=
  calls_of_body (vs := [(.pointer (some ⟨x0, 0, none⟩), true)]) (ty := ty) (ann := ⟨[], [], [], []⟩) (c := Tryd.f42.body.getD .skip) (by kernel_rfl) Tryd.func42 (by kernel_rfl) (by kernel_rfl) (Eq.mp (by kernel_rfl) h) hR
/-- (zip.entry).unpack -/
def vc_zip_entry_unpack (x0_0 : Int) (x0_1 : Int) (x0_2 : Int) (x0_3 : Int) (x0_4 : Int) (x0_5 : ByteArray) (x0_6 : Int) (x1 : ByteArray) (w : World) (R : Value → World → Prop) : Prop :=
  ∀ w1 : World,
  (w1 = World.alloc w (Obj.cells (Array.mk [Value.int IntKind.i64 x0_0, Value.int IntKind.u32 x0_1, Value.int IntKind.i64 x0_2, Value.int IntKind.i64 x0_3, Value.int IntKind.i64 x0_4, Value.string x0_5, Value.int IntKind.i64 x0_6]) 79) →
    ∃ I2 : ByteArray → World → Prop, ((∃ n3 : Int, (World.cell? w1 (Addr.mk (Array.size (World.heap w)) 0 none) = some (Value.int IntKind.i64 n3) ∧
      ((((n3 == 0) = true →
         ∃ n4 : Int, (World.cell? w1 (Addr.mk (Array.size (World.heap w)) 2 none) = some (Value.int IntKind.i64 n4) ∧
          ∃ n5 : Int, (World.cell? w1 (Addr.mk (Array.size (World.heap w)) 3 none) = some (Value.int IntKind.i64 n5) ∧
           Calls Tryd.prog (41 : Nat) (Array.mk [Value.bool (n4 == n5), Value.int IntKind.i64 3]) (w1) (fun e6 w7 =>
             (e6 = Ending.returned (Value.tuple (Array.mk [])) ∧
              I2 x1 w7)))))) ∧
       ((n3 == 0) = false →
         ((((n3 == 8) = true →
            ∃ n8 : Int, (World.cell? w1 (Addr.mk (Array.size (World.heap w)) 3 none) = some (Value.int IntKind.i64 n8) ∧
             Calls Tryd.prog (41 : Nat) (Array.mk [Value.bool (decide (n8 ≤ 65536)), Value.int IntKind.i64 2]) (w1) (fun e9 w10 =>
               (e9 = Ending.returned (Value.tuple (Array.mk [])) ∧
                ∃ n11 : Int, (World.cell? w10 (Addr.mk (Array.size (World.heap w)) 3 none) = some (Value.int IntKind.i64 n11) ∧
                 Calls Tryd.prog (94 : Nat) (Array.mk [Value.string x1, Value.int IntKind.i64 0, Value.int IntKind.i64 n11]) (w10) (fun e12 w13 =>
                   ∃ s14 : ByteArray, ∃ n15 : Int, ∃ n16 : Int, (e12 = Ending.returned (Value.tuple (Array.mk [Value.string s14, Value.int IntKind.i64 n15, Value.int IntKind.i64 n16])) ∧
                    ((((n16 == 0) = true →
                       ((((n15 == (↑(ByteArray.size x1) : Int)) = true →
                          ∃ n17 : Int, (World.cell? w13 (Addr.mk (Array.size (World.heap w)) 3 none) = some (Value.int IntKind.i64 n17) ∧
                           Calls Tryd.prog (41 : Nat) (Array.mk [Value.bool ((↑(ByteArray.size s14) : Int) == n17), Value.int IntKind.i64 3]) (w13) (fun e18 w19 =>
                             (e18 = Ending.returned (Value.tuple (Array.mk [])) ∧
                              I2 s14 w19))))) ∧
                        ((n15 == (↑(ByteArray.size x1) : Int)) = false →
                          Calls Tryd.prog (41 : Nat) (Array.mk [Value.bool false, Value.int IntKind.i64 (3 : Int)]) (w13) (fun e20 w21 =>
                            (e20 = Ending.returned (Value.tuple (Array.mk [])) ∧
                             I2 s14 w21)))))) ∧
                     ((n16 == 0) = false →
                       Calls Tryd.prog (41 : Nat) (Array.mk [Value.bool false, Value.int IntKind.i64 (3 : Int)]) (w13) (fun e22 w23 =>
                         (e22 = Ending.returned (Value.tuple (Array.mk [])) ∧
                          I2 s14 w23)))))))))))) ∧
          ((n3 == 8) = false →
            False)))))) ∧
     ∀ s24 : ByteArray,
     ∀ w25 : World,
     (I2 s24 w25 →
       ∀ w26 : World,
       (Drew w25 w26 →
         ∃ I27 : World → Prop, (I27 w26 ∧
          ∃ n28 : Int, ((∀ w29 : World,
           (I27 w29 →
             World.cell? w29 (Addr.mk (Array.size (World.heap w)) 1 none) = some (Value.int IntKind.u32 n28))) ∧
           Calls Tryd.prog (33 : Nat) (Array.mk [Value.string s24]) (w26) (fun e30 w31 =>
             ∃ n32 : Int, (e30 = Ending.returned (Value.int IntKind.u32 n32) ∧
              (I27 w31 ∧
               Calls Tryd.prog (41 : Nat) (Array.mk [Value.bool (n32 == n28), Value.int IntKind.i64 5]) (w31) (fun e33 w34 =>
                 (e33 = Ending.returned (Value.tuple (Array.mk [])) ∧
                  R (Value.string s24) w34)))))))))))
theorem vc_zip_entry_unpack_ok {x0_0 : Int} {x0_1 : Int} {x0_2 : Int} {x0_3 : Int} {x0_4 : Int} {x0_5 : ByteArray} {x0_6 : Int} {x1 : ByteArray} {w : World} {R : Value → World → Prop} {R' : Ending → World → Prop} (h : vc_zip_entry_unpack x0_0 x0_1 x0_2 x0_3 x0_4 x0_5 x0_6 x1 w R) (hR : ∀ v w', R v w' → R' (.returned v) w') :
    Calls Tryd.prog 44 #[.agg #[.int .i64 x0_0, .int .u32 x0_1, .int .i64 x0_2, .int .i64 x0_3, .int .i64 x0_4, .string x0_5, .int .i64 x0_6], .string x1] w R' :=
  calls_of_body (vs := [(.agg #[.int .i64 x0_0, .int .u32 x0_1, .int .i64 x0_2, .int .i64 x0_3, .int .i64 x0_4, .string x0_5, .int .i64 x0_6], false), (.string x1, false)]) (ty := ty) (ann := ⟨[(10, [(1, .str)])], [], [(10, .held [(0, true), (2, true), (3, true), (4, true), (1, false), (5, true), (6, false)])], []⟩) (c := Tryd.f44.body.getD .skip) (by kernel_rfl) Tryd.func44 (by kernel_rfl) (by kernel_rfl) (Eq.mp (by kernel_rfl) h) hR
end Go.Proofs.YtfoeooddnmppnaaDoor

/- zip.Write: the archive of stored files, or the error. Conditions: at most a hundred thousand files, texts no longer than memory. -/
set_option linter.unusedVariables false
namespace Go.Proofs.YtfoeooddnmppnaaDoor
open Go Vc SumM Go.Proofs

def zipE (ys : List FileE) : ByteArray := if zchk ys = 0 then ⟨(zipL ys).toArray⟩ else ⟨#[]⟩
set_option maxHeartbeats 1600000 in
theorem zwrite_spec {w : World} {a : Option Addr} {n c : Nat} {ys : List FileE} (hr : ReadsK encF 2 w a ys) (hn : ys.length = n) (hl : n ≤ 100000) (hp : ∀ y ∈ ys, y.path.size ≤ 140737488355328) (ht : totalF ys ≤ 4611686018427387904) :
    Calls Tryd.prog F_zip_Write #[.slice a n c] w fun e w' => e = .returned (.tuple #[.string (zipE ys), .int .i64 (zchk ys)]) ∧ Fr (fun _ => False) w w' := by
  refine vc_zip_Write_ok (R := fun v w' => v = .tuple #[.string (zipE ys), .int .i64 (zchk ys)] ∧ Fr (fun _ => False) w w') ?_ (fun v w' h => ⟨by rw [h.1], h.2⟩)
  refine (zcheck_spec hr hn hl hp ht).mono ?_
  rintro e w2 ⟨rfl, hf2⟩
  refine ⟨_, rfl, fun h => ⟨?_, hf2⟩, fun h => ?_⟩
  · unfold zipE; rw [if_neg (by simpa using h)]
  have h0 : zchk ys = 0 := by simpa using h
  obtain ⟨hy600, hytot, hycl⟩ := zchk_ok h0
  have hy200 : ∀ y ∈ ys, y.path.size ≤ 200 := fun y hy => by
    have := hycl y hy
    unfold cleanB at this
    simp only [Bool.and_eq_true, decide_eq_true_eq] at this
    omega
  have hyd : ∀ y ∈ ys, y.data.size ≤ 1048576 := fun y hy => by
    have : ∀ zs : List FileE, y ∈ zs → y.data.size ≤ totalF zs := fun zs => by
      induction zs with
      | nil => intro h; simp at h
      | cons z r ih =>
        intro h
        unfold totalF at *
        rw [List.map_cons, List.sum_cons]
        rcases List.mem_cons.1 h with rfl | h
        · omega
        · have := ih h; omega
    have := this ys hy
    omega
  have hout : ∀ k, (outL (ys.take k)).length ≤ 1200000 := fun k => by
    have h1 := outL_len (B := 200) (ys.take k) fun y hy => hy200 y (List.mem_of_mem_take hy)
    have h2 := totalF_le ys k
    rw [List.length_take] at h1
    have h3 : min k ys.length * (30 + 200) ≤ 600 * 230 := Nat.mul_le_mul (by omega) (by omega)
    omega
  have hidx : ∀ k, (idxL 0 (ys.take k)).length ≤ 200000 := fun k => by
    have h1 := idxL_len (B := 200) 0 (ys.take k) fun y hy => hy200 y (List.mem_of_mem_take hy)
    rw [List.length_take] at h1
    have h3 : min k ys.length * (46 + 200) ≤ 600 * 246 := Nat.mul_le_mul (by omega) (by omega)
    omega
  intro w4 h4 w5 h5
  have hf4 : Fr (fun _ => False) w2 w4 := by rw [h4]; exact .alloc _ _ _
  have hf5 : Fr (fun _ => False) w4 w5 := by rw [h5]; exact .alloc _ _ _
  have hs4 : w4.heap.size = w2.heap.size + 1 := by rw [h4]; simp
  have ho8 : Vc.Own w5 w.heap.size T_uint8 ⟨some ⟨w2.heap.size, 0, none⟩, 0, 0⟩ (byteV []) := ((by rw [h4]; exact own_empty w2 T_uint8 : Vc.Own w4 w2.heap.size T_uint8 ⟨some ⟨w2.heap.size, 0, none⟩, 0, 0⟩ []).keep hf5 (by simp)).mono hf2.size
  have ho9 : Vc.Own w5 w.heap.size T_uint8 ⟨some ⟨w4.heap.size, 0, none⟩, 0, 0⟩ (byteV []) := (by rw [h5]; exact own_empty w4 T_uint8 : Vc.Own w5 w4.heap.size T_uint8 ⟨some ⟨w4.heap.size, 0, none⟩, 0, 0⟩ []).mono (by have := hf2.size; omega)
  have hf5' : Fr (fun _ => False) w w5 := (hf2.trans' hf4).trans' hf5
  refine ⟨fun l8 l9 i w' => ∃ k : Nat, i = k ∧ k ≤ ys.length ∧ Vc.Own w' w.heap.size T_uint8 l8 (byteV (outL (ys.take k))) ∧ Vc.Own w' w.heap.size T_uint8 l9 (byteV (idxL 0 (ys.take k))) ∧ (∀ p q, l8.a = some p → l9.a = some q → p.block ≠ q.block) ∧ Fr (fun _ => False) w w', fun _ _ i _ => ys.length - i.toNat,
    ⟨0, rfl, Nat.zero_le _, ho8, ho9, fun p q hp hq => by cases hp; cases hq; simp only; omega, hf5'⟩, ?_⟩
  clear ho8 ho9 hf5 hf4 h4 h5
  rintro l8 l9 i w11 ⟨k, rfl, hk, ho8, ho9, hdis, hf⟩
  have hl8 : l8.len = (outL (ys.take k)).length := by rw [ho8.len, bv_len]
  have hl9 : l9.len = (idxL 0 (ys.take k)).length := by rw [ho9.len, bv_len]
  have hok8 := hout k
  have hok9 := hidx k
  refine ⟨fun hlt => ?_, fun hge => ?_⟩
  · have hlt := of_decide_eq_true hlt
    have hkl : k < ys.length := by omega
    have hx : ys[k]? = some ys[k] := List.getElem?_eq_getElem hkl
    have htk : ys.take (k + 1) = ys.take k ++ [ys[k]] := (List.take_append_getElem hkl).symm
    generalize ys[k] = x at hx htk
    have hxm := List.mem_of_getElem? hx
    have hxp := hy200 x hxm
    have hxd := hyd x hxm
    obtain ⟨ad, had, hld⟩ := ((hr.keep hf (by simp)).load elF hx)
    refine ⟨⟨by omega, by omega⟩, ad, had, x.path, x.data, by rw [Int.toNat_natCast]; exact hld, fun w15 h15 => ?_⟩
    subst h15
    obtain ⟨w16, hw16⟩ : ∃ w16, w11.alloc (.cells (encF x).toArray T_api_File) = w16 := ⟨_, rfl⟩
    have hfb : Fr (fun _ => False) w11 w16 := by rw [← hw16]; exact .alloc _ _ _
    have hbx : w16.heap[w11.heap.size]? = some (.cells (encF x).toArray T_api_File (0, 0)) := by rw [← hw16]; exact alloc_new _ _
    have hp0 : ∀ w' : World, w'.heap[w11.heap.size]? = some (.cells (encF x).toArray T_api_File (0, 0)) → w'.cell? ⟨w11.heap.size, 0, none⟩ = some (.string x.path) := fun w' h => by rw [cell_blk h]; rfl
    have hp1 : ∀ w' : World, w'.heap[w11.heap.size]? = some (.cells (encF x).toArray T_api_File (0, 0)) → w'.cell? ⟨w11.heap.size, 1, none⟩ = some (.string x.data) := fun w' h => by rw [cell_blk h]; rfl
    have hkeep : ∀ {v v' : World}, v.heap[w11.heap.size]? = some (.cells (encF x).toArray T_api_File (0, 0)) → Fr (fun _ => False) v v' → v'.heap[w11.heap.size]? = some (.cells (encF x).toArray T_api_File (0, 0)) := fun h hf => hf.keep h (by simp)
    refine ⟨w16, by rw [← hw16]; exact boxF_run w11 x, fun w17 d17 => ?_⟩
    have hb17 := hkeep hbx (.drew _ d17)
    have hf17 : Fr (fun _ => False) w11 w17 := hfb.trans' (.drew _ d17)
    refine ⟨fun w' => w'.heap[w11.heap.size]? = some (.cells (encF x).toArray T_api_File (0, 0)), hb17, x.data, hp1, x.data, hp1, x.data, hp1, x.path, hp0, (crc32_spec x.data (by omega) w17).mono ?_⟩
    rintro e w28 ⟨rfl, hf28⟩
    have hcrc := (crcW x.data.data.toList).isLt
    refine ⟨_, rfl, hkeep hb17 hf28, (facts_spec 0 (crcW x.data.data.toList).toNat x.data.size x.data.size (by decide) hcrc (by omega) (by omega) x.path (by omega) w28).mono ?_⟩
    rintro e w31 ⟨rfl, hf31⟩
    have hb31 := hkeep (hkeep hb17 hf28) hf31
    have hF : ByteArray.mk (factsL 0 (crcW x.data.data.toList).toNat x.data.size x.data.size x.path.size).toArray = ⟨(factF x).toArray⟩ := rfl
    have hFs : (ByteArray.mk (factF x).toArray).size = 26 := by rw [bs_mksize]; exact factsL_len _ _ _ _ _
    have c4 : ∀ u v p q : UInt8, (ByteArray.mk #[u, v, p, q]).size = 4 := fun _ _ _ _ => rfl
    refine ⟨_, rfl, hb31, fun w33 d33 => ?_⟩
    rw [hF]
    have hb33 := hkeep hb31 (.drew _ d33)
    have hf33 : Fr (fun _ => False) w11 w33 := ((hf17.trans' hf28).trans' hf31).trans' (.drew _ d33)
    refine ⟨fun w' => w'.heap[w11.heap.size]? = some (.cells (encF x).toArray T_api_File (0, 0)), hb33, x.path, hp0, (two_spec 20 (by decide) w33).mono ?_⟩
    rintro e w38 ⟨rfl, f38⟩
    have b38 := hkeep hb33 f38
    refine ⟨_, rfl, b38, by simp only [le_size, c4]; omega, by simp only [ByteArray.size_append, le_size, c4, hFs]; omega, (two_spec 0 (by decide) w38).mono ?_⟩
    rintro e w41 ⟨rfl, f41⟩
    have b41 := hkeep b38 f41
    refine ⟨_, rfl, b41, by simp only [ByteArray.size_append, le_size, c4, hFs]; omega, (two_spec 0 (by decide) w41).mono ?_⟩
    rintro e w44 ⟨rfl, f44⟩
    have b44 := hkeep b41 f44
    refine ⟨_, rfl, b44, by simp only [ByteArray.size_append, le_size, c4, hFs]; omega, (two_spec 0 (by decide) w44).mono ?_⟩
    rintro e w47 ⟨rfl, f47⟩
    have b47 := hkeep b44 f47
    refine ⟨_, rfl, b47, by simp only [ByteArray.size_append, le_size, c4, hFs]; omega, (four_spec 0 (by decide) w47).mono ?_⟩
    rintro e w50 ⟨rfl, f50⟩
    have b50 := hkeep b47 f50
    refine ⟨_, rfl, b50, by simp only [ByteArray.size_append, le_size, c4, hFs]; omega, (four_spec l8.len (by omega) w50).mono ?_⟩
    rintro e w53 ⟨rfl, f53⟩
    have b53 := hkeep b50 f53
    have hf53 : Fr (fun _ => False) w11 w53 := (((((hf33.trans' f38).trans' f41).trans' f44).trans' f47).trans' f50).trans' f53
    have hs53 := hf53.size
    have hws := hf.size
    have ho8' := ho8.keep hf53 (by simp)
    have ho9' := ho9.keep hf53 (by simp)
    obtain ⟨Z, hZ⟩ : ∃ Z : ByteArray, ⟨#[80, 75, 1, 2]⟩ ++ ⟨(littleB 2 20).toArray⟩ ++ ⟨(factF x).toArray⟩ ++ ⟨(littleB 2 0).toArray⟩ ++ ⟨(littleB 2 0).toArray⟩ ++ ⟨(littleB 2 0).toArray⟩ ++ ⟨(littleB 4 0).toArray⟩ ++ ⟨(littleB 4 l8.len).toArray⟩ ++ x.path = Z := ⟨_, rfl⟩
    have hZl : Z.data.toList = cenL x l8.len := by
      rw [← hZ]
      simp only [bs_app, List.append_assoc]
      rfl
    have hZs : Z.size = 46 + x.path.size := by rw [← bs_len, hZl, cenL_len]
    refine ⟨_, rfl, b53, by simp only [ByteArray.size_append, le_size, c4, hFs]; omega, by simp only [ByteArray.size_append, le_size, c4, hFs]; omega, ?_⟩
    rw [hZ]
    obtain ⟨w55, l56, hr55, ho55, hf55, hs55⟩ := append_str (P := Tryd.prog) (t := T_S_uint8) (u := T_string) elByte (by kernel_rfl) ho9' Z (by rw [bv_len]; omega) (by omega)
    have b55 : w55.heap[w11.heap.size]? = some (.cells (encF x).toArray T_api_File (0, 0)) := hf55.keep b53 fun ⟨y, hy, e⟩ => by have := (ho9.blk hy).2; omega
    refine ⟨w55, l56, hr55, b55, by simp only [c4, hFs]; omega, x.path, hp0 _ b55, by simp only [ByteArray.size_append, c4, hFs]; omega, x.data, hp1 _ b55, by simp only [ByteArray.size_append, c4, hFs]; omega, ?_⟩
    obtain ⟨V, hV⟩ : ∃ V : ByteArray, ⟨#[80, 75, 3, 4]⟩ ++ ⟨(factF x).toArray⟩ ++ x.path ++ x.data = V := ⟨_, rfl⟩
    have hVl : V.data.toList = locL x := by
      rw [← hV]
      simp only [bs_app, List.append_assoc]
      rfl
    have hVs : V.size = 30 + x.path.size + x.data.size := by rw [← bs_len, hVl, locL_len]
    rw [hV]
    have ho8'' := ho8'.keep hf55 fun p hp' ⟨q, hq, e⟩ => hdis p q hp' hq e
    have hs55' := hf55.size
    obtain ⟨w59, l60, hr59, ho59, hf59, hs59⟩ := append_str (P := Tryd.prog) (t := T_S_uint8) (u := T_string) elByte (by kernel_rfl) ho8'' V (by rw [bv_len]; omega) (by omega)
    have e1 : IntKind.i64.wrap ((k : Int) + 1) = ((k + 1 : Nat) : Int) := by rw [wrap_i64 (by omega) (by omega)]; omega
    rw [e1]
    have happ : ∀ A B : List UInt8, byteV A ++ byteV B = byteV (A ++ B) := fun A B => by unfold byteV; rw [List.map_append]
    have hne56 : ∀ p q, l8.a = some p → l56.a = some q → p.block ≠ q.block := fun p q hp' hq => by
      rcases hs55 q hq with ⟨z, hz, e⟩ | h
      · rw [← e]; exact hdis p z hp' hz
      · have := (ho8'.blk hp').2; omega
    refine ⟨w59, l60, hr59, ⟨k + 1, rfl, by omega, ?_, ?_, fun p q hp' hq => ?_, ((hf.trans' hf53).trans hf55 fun q hq ⟨y, hy, e⟩ => by have := (ho9.blk hy).1; omega).trans hf59 fun q hq ⟨y, hy, e⟩ => by have := (ho8.blk hy).1; omega⟩, by dsimp only; omega⟩
    · rw [htk, outL_snoc, ← happ, ← hVl]; exact ho59
    · rw [htk, idxL_snoc, ← happ, Nat.zero_add, ← hl8, ← hZl]
      exact ho55.keep hf59 fun q hq ⟨y, hy, e⟩ => hne56 y q hy hq e.symm
    · rcases hs59 p hp' with ⟨z, hz, e⟩ | h
      · rw [← e]; exact hne56 z q hz hq
      · have := (ho55.blk hq).2; omega
  · have hge := of_decide_eq_false hge
    have hk' : k = ys.length := by omega
    rw [hk', List.take_length] at ho8 ho9 hl8 hl9 hok8 hok9
    have hn600 : n ≤ 600 := by omega
    have c4 : ∀ u v p q : UInt8, (ByteArray.mk #[u, v, p, q]).size = 4 := fun _ _ _ _ => rfl
    refine (two_spec n (by omega) w11).mono ?_
    rintro e w62 ⟨rfl, f62⟩
    refine ⟨_, rfl, (two_spec 0 (by decide) w62).mono ?_⟩
    rintro e w65 ⟨rfl, f65⟩
    refine ⟨_, rfl, by simp only [le_size, c4]; omega, (two_spec 0 (by decide) w65).mono ?_⟩
    rintro e w68 ⟨rfl, f68⟩
    refine ⟨_, rfl, by simp only [ByteArray.size_append, le_size, c4]; omega, by simp only [ByteArray.size_append, le_size, c4]; omega, by simp only [ByteArray.size_append, le_size, c4]; omega, (four_spec l9.len (by omega) w68).mono ?_⟩
    rintro e w71 ⟨rfl, f71⟩
    refine ⟨_, rfl, by simp only [ByteArray.size_append, le_size, c4]; omega, (four_spec l8.len (by omega) w71).mono ?_⟩
    rintro e w74 ⟨rfl, f74⟩
    refine ⟨_, rfl, by simp only [ByteArray.size_append, le_size, c4]; omega, (two_spec 0 (by decide) w74).mono ?_⟩
    rintro e w77 ⟨rfl, f77⟩
    have hf77 : Fr (fun _ => False) w11 w77 := ((((f62.trans' f65).trans' f68).trans' f71).trans' f74).trans' f77
    have hs77 := hf77.size
    have hws := hf.size
    have ho8' := ho8.keep hf77 (by simp)
    have ho9' := ho9.keep hf77 (by simp)
    refine ⟨_, rfl, by simp only [ByteArray.size_append, le_size, c4]; omega, ?_⟩
    obtain ⟨w79, l80, hr79, ho79, hf79, _⟩ := append_all' (P := Tryd.prog) (t := T_S_uint8) elByte ho8' l9.cap ho9'.reads (bv_one _) (by rw [bv_len, bv_len]; unfold maxLen; omega) (by rw [bv_len, bv_len]; omega) (by omega) (m := l9.len) (by rw [bv_len, hl9])
    refine ⟨w79, l80, hr79, ?_⟩
    obtain ⟨Z, hZ⟩ : ∃ Z : ByteArray, ⟨#[80, 75, 5, 6]⟩ ++ ⟨(littleB 2 0).toArray⟩ ++ ⟨(littleB 2 0).toArray⟩ ++ ⟨(littleB 2 n).toArray⟩ ++ ⟨(littleB 2 n).toArray⟩ ++ ⟨(littleB 4 l9.len).toArray⟩ ++ ⟨(littleB 4 l8.len).toArray⟩ ++ ⟨(littleB 2 0).toArray⟩ = Z := ⟨_, rfl⟩
    have hZl : Z.data.toList = endL n l9.len l8.len := by
      rw [← hZ]
      simp only [bs_app, List.append_assoc]
      rfl
    have hZs : Z.size = 22 := by rw [← hZ]; simp only [ByteArray.size_append, le_size, c4]
    rw [hZ]
    have hs79 := hf79.size
    obtain ⟨w81, l82, hr81, ho81, hf81, _⟩ := append_str (P := Tryd.prog) (t := T_S_uint8) (u := T_string) elByte (by kernel_rfl) ho79 Z (by rw [List.length_append, bv_len, bv_len]; omega) (by omega)
    have happ : ∀ A B : List UInt8, byteV A ++ byteV B = byteV (A ++ B) := fun A B => by unfold byteV; rw [List.map_append]
    rw [happ, happ] at ho81
    refine ⟨w81, l82, hr81, w81, _, bytes_str (P := Tryd.prog) (t := T_S_uint8) (d := T_string) elByte.sl (by kernel_rfl) (by kernel_rfl) l82.cap ho81.reads (by rw [ho81.len, bv_len]), ?_, ((hf.trans' hf77).trans hf79 fun q hq ⟨y, hy, e⟩ => by have := (ho8.blk hy).1; omega).trans hf81 fun q hq ⟨y, hy, e⟩ => by have := (ho79.blk hy).1; omega⟩
    unfold zipE zipL
    rw [if_pos h0, h0, hZl, hn, hl8, hl9, List.append_assoc]
end Go.Proofs.YtfoeooddnmppnaaDoor

/- The reader of an archive's parts: take, number, want, head, where what is asked is there. Conditions: texts no longer than memory. -/
set_option linter.unusedVariables false
namespace Go.Proofs.YtfoeooddnmppnaaDoor
open Go Vc SumM Go.Proofs

/-- The reader at block B stands at number k of s; r: what follows. -/
def RdR (w : World) (B : Nat) (s : ByteArray) (r : List UInt8) (k : Nat) : Prop := w.heap[B]? = some (.cells #[.string s, .int .i64 (k : Int)] T_zip_reader (0, 0)) ∧ s.data.toList.drop k = r ∧ k ≤ s.size
theorem RdR.keep {w w' : World} {B : Nat} {s : ByteArray} {r : List UInt8} {k : Nat} (h : RdR w B s r k) {X : Nat → Prop} (hf : Fr X w w') (hx : ¬ X B) : RdR w' B s r k := ⟨hf.keep h.1 hx, h.2⟩
theorem RdR.size {w : World} {B : Nat} {s : ByteArray} {r : List UInt8} {k : Nat} (h : RdR w B s r k) : k + r.length = s.size := by
  rw [← h.2.1, List.length_drop, bs_len]
  have := h.2.2
  omega
theorem must_spec {b : Bool} (hb : b = true) (e : Int) (w : World) : Calls Tryd.prog F_zip_must #[.bool b, .int .i64 e] w fun e w' => e = .returned (.tuple #[]) ∧ w' = w := by
  refine vc_zip_must_ok (R := fun v w' => v = .tuple #[] ∧ w' = w) ?_ (fun v w' h => ⟨by rw [h.1], h.2⟩)
  subst hb
  exact ⟨fun h => (by cases h), fun _ => ⟨rfl, rfl⟩⟩
theorem take_spec {w : World} {B : Nat} {s : ByteArray} {t r : List UInt8} {k n : Nat} (h : RdR w B s (t ++ r) k) (hn : t.length = n) (hs : s.size ≤ 4611686018427387904) :
    Calls Tryd.prog F_zip_reader_take #[.pointer (some ⟨B, 0, none⟩), .int .i64 (n : Int)] w fun e w' => e = .returned (.string ⟨t.toArray⟩) ∧ RdR w' B s r (k + n) ∧ Fr (· = B) w w' := by
  refine vc_zip_reader_take_ok (R := fun v w' => v = .string ⟨t.toArray⟩ ∧ RdR w' B s r (k + n) ∧ Fr (· = B) w w') ?_ (fun v w' h => ⟨by rw [h.1], h.2⟩)
  have hsz := h.size
  rw [List.length_append, hn] at hsz
  intro w1 d1
  have h1 := h.keep (.drew (fun _ => False) d1) (by simp)
  have c0 : ∀ {w' : World}, RdR w' B s (t ++ r) k → w'.cell? ⟨B, 0, none⟩ = some (.string s) := fun h => by rw [cell_blk h.1]; rfl
  have c1 : ∀ {w' : World}, RdR w' B s (t ++ r) k → w'.cell? ⟨B, 1, none⟩ = some (.int .i64 (k : Int)) := fun h => by rw [cell_blk h.1]; rfl
  have e0 : IntKind.i64.wrap ((s.size : Int) - (k : Int)) = ((s.size - k : Nat) : Int) := by rw [wrap_i64 (by omega) (by omega)]; omega
  refine ⟨fun w' => RdR w' B s (t ++ r) k, h1, s, fun w' h => c0 h, k, fun w' h => c1 h, (must_spec (by rw [e0]; exact decide_eq_true (by omega)) 6 w1).mono ?_⟩
  rintro e w8 ⟨rfl, rfl⟩
  have e1 : IntKind.i64.wrap ((k : Int) + (n : Int)) = ((k + n : Nat) : Int) := by rw [wrap_i64 (by omega) (by omega)]; omega
  refine ⟨rfl, k, c1 h1, wr_blk h1.1 (Nat.lt_succ_self 1), fun w10 h10 => ?_⟩
  rw [e1] at h10
  have hb : w10.heap[B]? = some (.cells #[.string s, .int .i64 ((k + n : Nat) : Int)] T_zip_reader (0, 0)) := by
    rw [h10, set_blk h1.1]; rfl
  have e2 : IntKind.i64.wrap (((k + n : Nat) : Int) - (n : Int)) = (k : Int) := by rw [wrap_i64 (by omega) (by omega)]; omega
  refine ⟨s, by rw [cell_blk hb]; rfl, ((k + n : Nat) : Int), by rw [cell_blk hb]; rfl, ((k + n : Nat) : Int), by rw [cell_blk hb]; rfl, ?_⟩
  rw [e2]
  refine ⟨⟨by omega, by omega, by omega⟩, fun w14 d14 => ⟨?_, ⟨(Fr.drew (fun _ => False) d14).keep hb (by simp), ?_, by omega⟩, ?_⟩⟩
  · congr 1
    refine bs_ext ?_
    rw [bs_extract, bs_mk, Int.toNat_natCast, Int.toNat_natCast, h.2.1, List.take_append_of_le_length (by omega), List.take_of_length_le (by omega)]
  · rw [← List.drop_drop, h.2.1, ← hn]; exact List.drop_left
  · exact ((Fr.drew _ d1).trans' (by rw [h10]; exact Fr.set (· = B) w8 (a := ⟨B, 1, none⟩) _ rfl)).trans' (.drew _ d14)
theorem want_spec {w : World} {B : Nat} {s t : ByteArray} {r : List UInt8} {k : Nat} (h : RdR w B s (t.data.toList ++ r) k) (hs : s.size ≤ 4611686018427387904) :
    Calls Tryd.prog F_zip_reader_want #[.pointer (some ⟨B, 0, none⟩), .string t] w fun e w' => e = .returned (.tuple #[]) ∧ RdR w' B s r (k + t.size) ∧ Fr (· = B) w w' := by
  refine vc_zip_reader_want_ok (R := fun v w' => v = .tuple #[] ∧ RdR w' B s r (k + t.size) ∧ Fr (· = B) w w') ?_ (fun v w' h => ⟨by rw [h.1], h.2⟩)
  refine (take_spec h (bs_len t) hs).mono ?_
  rintro e w2 ⟨rfl, h2, f2⟩
  refine ⟨_, rfl, (must_spec (by rw [bs_eq]; exact decide_eq_true (bs_self t)) 3 w2).mono ?_⟩
  rintro e w5 ⟨rfl, rfl⟩
  exact ⟨rfl, rfl, h2, f2⟩
theorem number_spec {w : World} {B : Nat} {s : ByteArray} {r : List UInt8} {k n x : Nat} (h : RdR w B s (littleB n x ++ r) k) (hn : n ≤ 4) (hx : x < 256 ^ n) (hs : s.size ≤ 4611686018427387904) :
    Calls Tryd.prog F_zip_reader_number #[.pointer (some ⟨B, 0, none⟩), .int .i64 (n : Int)] w fun e w' => e = .returned (.int .i64 (x : Int)) ∧ RdR w' B s r (k + n) ∧ Fr (· = B) w w' := by
  refine vc_zip_reader_number_ok (R := fun v w' => v = .int .i64 (x : Int) ∧ RdR w' B s r (k + n) ∧ Fr (· = B) w w') ?_ (fun v w' h => ⟨by rw [h.1], h.2⟩)
  refine (take_spec h (littleB_length n x) hs).mono ?_
  rintro e w2 ⟨rfl, h2, f2⟩
  refine ⟨_, rfl, (fromlittle_spec _ (by rw [le_size]; omega) w2).mono ?_⟩
  rintro e w5 ⟨rfl, rfl⟩
  have hp : 256 ^ n ≤ 256 ^ 4 := Nat.pow_le_pow_right (by decide) hn
  refine ⟨_, rfl, ?_, h2, f2⟩
  rw [bs_mk, numL_little n x hx, wrap_i64 (by omega) (by omega)]
theorem wantL_spec {w : World} {B : Nat} {s : ByteArray} {t : List UInt8} {r : List UInt8} {k : Nat} {z : ByteArray} (h : RdR w B s (t ++ r) k) (hz : z.data.toList = t) (hs : s.size ≤ 4611686018427387904) :
    Calls Tryd.prog F_zip_reader_want #[.pointer (some ⟨B, 0, none⟩), .string z] w fun e w' => e = .returned (.tuple #[]) ∧ RdR w' B s r (k + t.length) ∧ Fr (· = B) w w' := by
  subst hz
  rw [bs_len]
  exact want_spec h hs
def headV (m c p z n : Nat) : List Value := [.int .i64 (m : Int), .int .u32 (c : Int), .int .i64 (p : Int), .int .i64 (z : Int), .int .i64 (n : Int)]
theorem headV_one (m c p z n : Nat) : ∀ v ∈ headV m c p z n, v.oneCell' = true := fun v h => by
  simp only [headV, List.mem_cons, List.mem_nil_iff, or_false] at h
  rcases h with rfl | rfl | rfl | rfl | rfl <;> rfl
end Go.Proofs.YtfoeooddnmppnaaDoor

/- The reader of a head of an archive's part, where one stands there. Conditions: texts no longer than memory. -/
set_option linter.unusedVariables false
namespace Go.Proofs.YtfoeooddnmppnaaDoor
open Go Vc SumM Go.Proofs

theorem box_store {w : World} {B : Nat} {old : Array Value} {T : TypeId} (vs : List Value) (hb : w.heap[B]? = some (.cells old T (0, 0))) (hi : (Tryd.prog.info? T).map (·.size) = some vs.length) (hl : old.size = vs.length) (h1 : ∀ v ∈ vs, v.oneCell' = true) :
    ∃ w', (storeVar T ⟨B, 0, none⟩ (.agg vs.toArray)).run Tryd.prog w = .ok () w' ∧ w'.heap[B]? = some (.cells vs.toArray T (0, 0)) ∧ Fr (· = B) w w' := by
  have h1' : vs.toArray.all (·.oneCell') = true := by rw [List.all_toArray]; exact List.all_eq_true.2 h1
  exact ⟨_, run_storeVar_row w B T T old vs.toArray hb (by simpa using hi) (by simpa using hl) h1', setRow_heap w B old vs.toArray T _ hb, ⟨rfl, rfl, rfl, by simp [World.setRow], fun q _ hq => setRow_other w B q _ hq⟩⟩
theorem box_load {w : World} {B : Nat} {T : TypeId} {vs : List Value} (hb : w.heap[B]? = some (.cells vs.toArray T (0, 0))) (hu : aggB Tryd.prog T = true) (hi : (Tryd.prog.info? T).map (·.size) = some vs.length) :
    (loadVar T ⟨B, 0, none⟩).run Tryd.prog w = .ok (.agg vs.toArray) w :=
  load_agg (agg_of hu) hi fun k v hv => by
    rw [show (⟨B, 0, none⟩ : Addr).add k = ⟨B, k, none⟩ by rw [add_lit, Nat.zero_add], cell_blk hb]
    simpa using hv
theorem head_spec {w : World} {B : Nat} {s : ByteArray} {r : List UInt8} {k m c p z n : Nat} (h : RdR w B s (factsL m c p z n ++ r) k) (hm : m < 65536) (hc : c < 4294967296) (hp : p < 4294967296) (hz : z < 4294967296) (hn : n < 65536) (hs : s.size ≤ 4611686018427387904) :
    Calls Tryd.prog F_zip_reader_head #[.pointer (some ⟨B, 0, none⟩)] w fun e w' => e = .returned (.agg (headV m c p z n).toArray) ∧ RdR w' B s r (k + 26) ∧ Fr (· = B) w w' := by
  refine vc_zip_reader_head_ok (R := fun v w' => v = .agg (headV m c p z n).toArray ∧ RdR w' B s r (k + 26) ∧ Fr (· = B) w w') ?_ (fun v w' h => ⟨by rw [h.1], h.2⟩)
  have hr0 : factsL m c p z n ++ r = (littleB 2 20 ++ littleB 2 0) ++ (littleB 2 m ++ ((littleB 2 0 ++ littleB 2 0) ++ (littleB 4 c ++ (littleB 4 p ++ (littleB 4 z ++ (littleB 2 n ++ (littleB 2 0 ++ r))))))) := by
    unfold factsL; simp only [List.append_assoc]
  rw [hr0] at h
  have hB := lt_blk h.1
  intro w1 h1
  have f1 : Fr (· = B) w w1 := by rw [h1]; exact .alloc _ _ _
  have s1 : w1.heap.size = w.heap.size + 1 := by rw [h1]; simp
  have hA1 : w1.heap[w.heap.size]? = some (.cells #[.int .i64 0, .int .u32 0, .int .i64 0, .int .i64 0, .int .i64 0] T_zip_head (0, 0)) := by rw [h1]; exact alloc_new _ _
  have hr1 := h.keep (by rw [h1]; exact Fr.alloc (fun _ => False) _ _ : Fr (fun _ => False) w w1) (by simp)
  clear h1
  refine (two_spec 20 (by decide) w1).mono ?_
  rintro e w3 ⟨rfl, f3⟩
  refine ⟨_, rfl, (two_spec 0 (by decide) w3).mono ?_⟩
  rintro e w6 ⟨rfl, f6⟩
  refine ⟨_, rfl, by simp only [le_size]; omega, (wantL_spec (hr1.keep (f3.trans' f6) (by simp)) (by simp only [bs_app]) hs).mono ?_⟩
  rintro e w9 ⟨rfl, r9, f9⟩
  refine ⟨rfl, (number_spec r9 (by decide) hm hs).mono ?_⟩
  rintro e w11 ⟨rfl, r11, f11⟩
  have f1_11 : Fr (· = B) w1 w11 := (((f3.mono fun _ _ h => h.elim).trans' (f6.mono fun _ _ h => h.elim)).trans' f9).trans' f11
  have hs11 := f1_11.size
  have hA11 := f1_11.keep hA1 (by omega)
  refine ⟨_, rfl, fun w13 h13 => ?_⟩
  have f13 : Fr (fun _ => False) w11 w13 := by rw [h13]; exact .alloc _ _ _
  have s13 : w13.heap.size = w11.heap.size + 1 := by rw [h13]; simp
  have hC13 : w13.heap[w11.heap.size]? = some (.cells #[.int .i64 0, .int .u32 0, .int .i64 0, .int .i64 0, .int .i64 0] T_zip_head (0, 0)) := by rw [h13]; exact alloc_new _ _
  clear h13
  obtain ⟨w14, hrun14, hC14, f14⟩ := box_store [.int .i64 (m : Int), .int .u32 0, .int .i64 0, .int .i64 0, .int .i64 0] hC13 (by kernel_rfl) rfl (fun v hv => by
    simp only [List.mem_cons, List.mem_nil_iff, or_false] at hv
    rcases hv with rfl | rfl | rfl | rfl | rfl <;> rfl)
  generalize w11.heap.size = C at *
  have hCB : ¬ B = C := by omega
  have hCA : ¬ w.heap.size = C := by omega
  refine ⟨w14, hrun14, (two_spec 0 (by decide) w14).mono ?_⟩
  rintro e w16 ⟨rfl, f16⟩
  refine ⟨_, rfl, (two_spec 0 (by decide) w16).mono ?_⟩
  rintro e w19 ⟨rfl, f19⟩
  have r14 := (r11.keep f13 (by simp)).keep f14 hCB
  refine ⟨_, rfl, by simp only [le_size]; omega, (wantL_spec (r14.keep (f16.trans' f19) (by simp)) (by simp only [bs_app]) hs).mono ?_⟩
  rintro e w22 ⟨rfl, r22, f22⟩
  refine ⟨rfl, (number_spec r22 (by decide) hc hs).mono ?_⟩
  rintro e w24 ⟨rfl, r24, f24⟩
  have f14_24 : Fr (· = B) w14 w24 := (((f16.mono fun _ _ h => h.elim).trans' (f19.mono fun _ _ h => h.elim)).trans' f22).trans' f24
  have hC24 := f14_24.keep hC14 (fun h => hCB h.symm)
  have hA24 := f14_24.keep (f14.keep (f13.keep hA11 (by simp)) hCA) (by omega)
  refine ⟨_, rfl, ?_⟩
  rw [wrap_u32 (by omega) (by omega)]
  refine ⟨wr_blk hC24 (Nat.lt_of_lt_of_eq (by decide : 1 < 5) rfl), fun w26 h26 => ?_⟩
  have hC26 : w26.heap[C]? = some (.cells #[.int .i64 (m : Int), .int .u32 (c : Int), .int .i64 0, .int .i64 0, .int .i64 0] T_zip_head (0, 0)) := by rw [h26, set_blk hC24]; rfl
  have f26 : Fr (· = C) w24 w26 := by rw [h26]; exact Fr.set (· = C) w24 (a := ⟨C, 1, none⟩) _ rfl
  refine (number_spec (r24.keep f26 hCB) (by decide) hp hs).mono ?_
  rintro e w28 ⟨rfl, r28, f28⟩
  refine ⟨_, rfl, (number_spec r28 (by decide) hz hs).mono ?_⟩
  rintro e w31 ⟨rfl, r31, f31⟩
  refine ⟨_, rfl, (number_spec r31 (by decide) hn hs).mono ?_⟩
  rintro e w34 ⟨rfl, r34, f34⟩
  have f26_34 : Fr (· = B) w26 w34 := (f28.trans' f31).trans' f34
  have hC34 := f26_34.keep hC26 (fun h => hCB h.symm)
  have hA34 := f26_34.keep (f26.keep hA24 hCA) (by omega)
  refine ⟨_, rfl, wr_blk hC34 (Nat.lt_of_lt_of_eq (by decide : 2 < 5) rfl), fun w36 h36 => ?_⟩
  have hC36 : w36.heap[C]? = some (.cells #[.int .i64 (m : Int), .int .u32 (c : Int), .int .i64 (p : Int), .int .i64 0, .int .i64 0] T_zip_head (0, 0)) := by rw [h36, set_blk hC34]; rfl
  have f36 : Fr (· = C) w34 w36 := by rw [h36]; exact Fr.set (· = C) w34 (a := ⟨C, 2, none⟩) _ rfl
  refine ⟨wr_blk hC36 (Nat.lt_of_lt_of_eq (by decide : 3 < 5) rfl), fun w37 h37 => ?_⟩
  have hC37 : w37.heap[C]? = some (.cells #[.int .i64 (m : Int), .int .u32 (c : Int), .int .i64 (p : Int), .int .i64 (z : Int), .int .i64 0] T_zip_head (0, 0)) := by rw [h37, set_blk hC36]; rfl
  have f37 : Fr (· = C) w36 w37 := by rw [h37]; exact Fr.set (· = C) w36 (a := ⟨C, 3, none⟩) _ rfl
  refine ⟨wr_blk hC37 (Nat.lt_of_lt_of_eq (by decide : 4 < 5) rfl), fun w38 h38 => ?_⟩
  have hC38 : w38.heap[C]? = some (.cells (headV m c p z n).toArray T_zip_head (0, 0)) := by rw [h38, set_blk hC37]; rfl
  have f38 : Fr (· = C) w37 w38 := by rw [h38]; exact Fr.set (· = C) w37 (a := ⟨C, 4, none⟩) _ rfl
  have f34_38 := (f36.trans' f37).trans' f38
  refine (two_spec 0 (by decide) w38).mono ?_
  rintro e w40 ⟨rfl, f40⟩
  refine ⟨_, rfl, (wantL_spec ((r34.keep f34_38 hCB).keep f40 (by simp)) (by rw [bs_mk]) hs).mono ?_⟩
  rintro e w43 ⟨rfl, r43, f43⟩
  have hC43 := f43.keep (f40.keep hC38 (by simp)) (fun h => hCB h.symm)
  have hA43 := f43.keep (f40.keep (f34_38.keep hA34 hCA) (by simp)) (by omega)
  obtain ⟨w49, hrun49, hA49, f49⟩ := box_store (headV m c p z n) hA43 (by kernel_rfl) rfl (headV_one m c p z n)
  refine ⟨rfl, m, c, p, z, n, box_load hC43 (by kernel_rfl) (by kernel_rfl), w49, hrun49, m, c, p, z, n, box_load hA49 (by kernel_rfl) (by kernel_rfl), rfl, ?_, ?_⟩
  · have := r43.keep f49 (by omega)
    simp only [List.length_append, littleB_length] at this
    rwa [show k + (2 + 2) + 2 + (2 + 2) + 4 + 4 + 4 + 2 + 2 = k + 26 by omega] at this
  · have g1 : Fr (· = B) w w24 := ((f1.trans' f1_11).trans' (f13.mono fun _ _ h => h.elim)).trans ((f14.mono (Y := fun q => q = B ∨ q = C) fun _ _ h => .inr h).trans' (f14_24.mono fun _ _ h => .inl h)) fun q hq h => h.resolve_right (by omega)
    have g2 : Fr (fun q => q = B ∨ q = C) w24 w43 := (((f26.mono (Y := fun q => q = B ∨ q = C) fun _ _ h => .inr h).trans' (f26_34.mono fun _ _ h => .inl h)).trans' (f34_38.mono fun _ _ h => .inr h)).trans' ((f40.mono fun _ _ h => h.elim).trans' (f43.mono fun _ _ h => .inl h))
    exact (g1.trans g2 fun q hq h => h.resolve_right (by omega)).trans f49 fun q hq h => by omega
end Go.Proofs.YtfoeooddnmppnaaDoor

/- The bytes of an archive's entry, where they are right. Conditions: texts no longer than memory; what is inflated is told by the caller. -/
set_option linter.unusedVariables false
namespace Go.Proofs.YtfoeooddnmppnaaDoor
open Go Vc SumM Go.Proofs

/-- An entry's bytes are kept in one of the two ways. -/
def UnpZ (x : EntZ) : Prop := x.data.size ≤ 1048576 ∧ x.packed.size ≤ 2097152 ∧ (x.method = 0 ∧ x.packed = x.data ∨
  x.method = 8 ∧ x.data.size ≤ 65536 ∧ ∀ w : World, Calls Tryd.prog F_inflate_Inflate #[.string x.packed, .int .i64 0, .int .i64 (x.data.size : Int)] w fun e w' => e = .returned (.tuple #[.string x.data, .int .i64 (x.packed.size : Int), .int .i64 0]) ∧ Fr (fun _ => False) w w')
def headZ (x : EntZ) : List Value := headV x.method (crcW x.data.data.toList).toNat x.packed.size x.data.size x.path.size
def encT (x : EntZ × Nat) : List Value := headZ x.1 ++ [.string x.1.path, .int .i64 (x.2 : Int)]
theorem encT_one (x : EntZ × Nat) : ∀ v ∈ encT x, v.oneCell' = true := fun v h => by
  unfold encT at h
  rcases List.mem_append.1 h with h | h
  · exact headV_one _ _ _ _ _ v h
  · simp only [List.mem_cons, List.mem_nil_iff, or_false] at h
    rcases h with rfl | rfl <;> rfl
theorem sto_unp {f : FileE} (h : f.data.size ≤ 1048576) : UnpZ (stoZ f) := ⟨h, by unfold stoZ; simp only; omega, .inl ⟨rfl, rfl⟩⟩
theorem unpack_spec (x : EntZ) (off : Nat) (hx : UnpZ x) (w : World) :
    Calls Tryd.prog F_zip_entry_unpack #[.agg (encT (x, off)).toArray, .string x.packed] w fun e w' => e = .returned (.string x.data) ∧ Fr (fun _ => False) w w' := by
  refine vc_zip_entry_unpack_ok (x0_0 := x.method) (x0_1 := (crcW x.data.data.toList).toNat) (x0_2 := x.packed.size) (x0_3 := x.data.size) (x0_4 := x.path.size) (x0_5 := x.path) (x0_6 := off) (R := fun v w' => v = .string x.data ∧ Fr (fun _ => False) w w') ?_ (fun v w' h => ⟨by rw [h.1], h.2⟩)
  obtain ⟨hd, hpk, hm⟩ := hx
  intro w1 h1
  have f1 : Fr (fun _ => False) w w1 := by rw [h1]; exact .alloc _ _ _
  have hb1 : w1.heap[w.heap.size]? = some (.cells (encT (x, off)).toArray T_zip_entry (0, 0)) := by rw [h1]; exact alloc_new _ _
  have hc : ∀ {w' : World}, Fr (fun _ => False) w1 w' → ∀ {j : Nat} {v : Value}, (encT (x, off))[j]? = some v → w'.cell? ⟨w.heap.size, j, none⟩ = some v := fun hf j v hv => by
    rw [cell_blk (hf.keep hb1 (by simp))]; simpa using hv
  clear h1
  refine ⟨fun s w' => s = x.data ∧ Fr (fun _ => False) w1 w', ⟨x.method, hc (.refl _ _) (j := 0) rfl, ?_⟩, ?_⟩
  · rcases hm with ⟨hm, hp⟩ | ⟨hm, hsz, hinf⟩
    · refine ⟨fun _ => ⟨x.packed.size, hc (.refl _ _) (j := 2) rfl, x.data.size, hc (.refl _ _) (j := 3) rfl, (must_spec (by rw [hp]; simp) 3 w1).mono ?_⟩, fun h => ?_⟩
      · rintro e w7 ⟨rfl, rfl⟩
        exact ⟨rfl, hp, .refl _ _⟩
      · rw [hm] at h; exact absurd h (by decide)
    · refine ⟨fun h => ?_, fun _ => ⟨fun _ => ⟨x.data.size, hc (.refl _ _) (j := 3) rfl, (must_spec (decide_eq_true (by omega)) 2 w1).mono ?_⟩, fun h => ?_⟩⟩
      · rw [hm] at h; exact absurd h (by decide)
      · rintro e w10 ⟨rfl, rfl⟩
        refine ⟨rfl, x.data.size, hc (.refl _ _) (j := 3) rfl, (hinf w10).mono ?_⟩
        rintro e w13 ⟨rfl, f13⟩
        refine ⟨_, _, _, rfl, fun _ => ⟨fun _ => ⟨x.data.size, hc f13 (j := 3) rfl, (must_spec (by simp) 3 w13).mono ?_⟩, fun h => ?_⟩, fun h => absurd h (by decide)⟩
        · rintro e w19 ⟨rfl, rfl⟩
          exact ⟨rfl, rfl, f13⟩
        · simp at h
      · rw [hm] at h; exact absurd h (by decide)
  · rintro s w25 ⟨rfl, f25⟩ w26 d26
    refine ⟨fun w' => Fr (fun _ => False) w1 w', f25.trans' (.drew _ d26), _, fun w29 h29 => hc h29 (j := 1) rfl, (crc32_spec x.data (by omega) w26).mono ?_⟩
    rintro e w31 ⟨rfl, f31⟩
    have f1_31 := (f25.trans' (.drew _ d26)).trans' f31
    refine ⟨_, rfl, f1_31, (must_spec (by simp) 5 w31).mono ?_⟩
    rintro e w34 ⟨rfl, rfl⟩
    exact ⟨rfl, rfl, f1.trans' f1_31⟩
theorem elT : ElK encT 7 Tryd.prog T_S_zip_entry T_zip_entry (.agg #[.int .i64 0, .int .u32 0, .int .i64 0, .int .i64 0, .int .i64 0, .string ⟨#[]⟩, .int .i64 0]) 64 :=
  ⟨by kernel_rfl, by kernel_rfl, rfl, by decide, by kernel_rfl, fun _ => rfl, encT_one⟩
end Go.Proofs.YtfoeooddnmppnaaDoor

/- Functions that defer one closure behind some first statements: their formula, and that it is enough. No condition: for all programs. -/
set_option linter.unusedVariables false
namespace Vc
open Go

/-- A region that makes a closure and defers its call. -/
def deferOf : Code → Option (List Oper × Oper × Operand)
  | .region _ ops false => match ops.toList with
    | [o1, ⟨none, .defer ⟨.value x, args, _⟩, _, _, _, none⟩] => match args.toList with
      | [] => some (ops.toList, o1, x)
      | _ => none
    | _ => none
  | _ => none
theorem deferOf_spec {c : Code} {l : List Oper} {o1 : Oper} {x : Operand} (h : deferOf c = some (l, o1, x)) :
    ∃ id ops o2 args tys, c = .region id ops false ∧ l = ops.toList ∧ ops.toList = [o1, o2] ∧ o2.dst = none ∧ o2.op = .defer ⟨.value x, args, tys⟩ ∧ args.toList = [] ∧ o2.guard = none := by
  unfold deferOf at h
  split at h
  · rename_i id ops
    split at h
    · rename_i o1' x' args tys ty pos after hl
      split at h
      · rename_i ha
        simp only [Option.some.injEq, Prod.mk.injEq] at h
        obtain ⟨rfl, rfl, rfl⟩ := h
        exact ⟨id, ops, _, args, tys, rfl, rfl, hl, rfl, rfl, ha, rfl⟩
      · cases h
    · cases h
  · cases h
section
variable (P : Program) (ty : Nat → Sh) (N : Nat) (ann : Ann)
/-- The formula of such a function's body; K knows what is deferred. -/
def WD : Code → Env → World → (Option (FuncId × Array Value) → Ex → Env → World → Prop) → Prop
  | .seq x y, e, w, K => match deferOf x with
    | some (ops, o1, z) => wOps P ty N .full ops [o1] e w fun e' w' => match has e' z with
      | false => False
      | true => match pureRun P (Deferred.ofValue (vl e' z) #[]) with
        | some d => match d.target with
          | .fn _ _ => match pureRun P (invoke d.target d.args) with
            | some (.enter f args) => W P ty N ann y e' w' fun x e'' w'' => K (some (f, args)) x e'' w''
            | _ => False
          | _ => False
        | none => False
    | none => W P ty N ann x e w fun x' e' w' => match x' with
      | .n => WD y e' w' K
      | x' => K none x' e' w'
  | _, _, _, _ => False
end
theorem WD_sound {P : Program} {ty : Nat → Sh} {N : Nat} {ann : Ann} (hm : P.follows .mixedOrders = true) : ∀ (c : Code) (e : Env) (w : World) (K : Option (FuncId × Array Value) → Ex → Env → World → Prop), WD P ty N ann c e w K →
    ∀ (a : Act) (Q : Exit → Act → World → Prop), Sub [] N e a → (∀ x e' w' a', K none x e' w' → Sub [] N e' a' → Q x.exit a' w') →
    (∀ f args d x e' w' a', K (some (f, args)) x e' w' → pureRun P (invoke d.target d.args) = some (.enter f args) → (∃ fv cap, d.target = .fn fv cap) → Sub [d] N e' a' → Q x.exit a' w') → c.wp P Q a w
  | .seq x y, e, w, K, h, a, Q, hs, hk, hd => by
    simp only [WD] at h
    split at h
    · rename_i l o1 z hdo
      obtain ⟨id, ops, o2, args, tys, rfl, rfl, hl, hdst, hop, hargs, hg⟩ := deferOf_spec hdo
      refine wp_seq (wp_region_list ?_)
      have step2 : ∀ (e' : Env) (w' : World) (a' : Act), Sub [] N e' a' → (match has e' z with
          | false => False
          | true => match pureRun P (Deferred.ofValue (vl e' z) #[]) with
            | some d => match d.target with
              | .fn _ _ => match pureRun P (invoke d.target d.args) with
                | some (.enter f args) => W P ty N ann y e' w' fun x e'' w'' => K (some (f, args)) x e'' w''
                | _ => False
              | _ => False
            | none => False) → wpList P ops (Exit.then (y.wp P Q) Q) [o2] a' w' := by
        intro e' w' a' hs' h'
        have hwant : Region.wanted o2 (yielded ops a'.tmps) = true := by simp [Region.wanted, hg]
        unfold wpList
        rw [if_pos hwant]
        refine .inl ?_
        split at h'
        · exact h'.elim
        rename_i hhas
        split at h'
        · rename_i d hpd
          split at h'
          · rename_i fv cap htar
            split at h'
            · rename_i f fargs hpi
              have hev : a'.eval z = vl e' z := hs'.vl hhas
              have hrun : (execOp a'.eval o2).run P w' = .ok (.defer d) w' := by
                have hr := pureRun_spec hpd w'
                have ha0 : args = #[] := by cases args; simp_all
                simp [execOp, hop, resolve, ha0, hev, hr, Result.andThen]
              unfold Oper.wp
              rw [hrun, Oper.upon_defer, hdst]
              unfold wpList
              have hsd : Sub [d] N e' { a' with defers := d :: a'.defers } := ⟨hs'.size, by rw [hs'.defers], hs'.at_⟩
              exact W_sound hm y e' w' _ h' _ Q hsd fun x e'' w'' a'' g1 _ g3 => hd f fargs d x e'' w'' a'' g1 hpi ⟨fv, cap, htar⟩ g3
            · exact h'.elim
          · exact h'.elim
        · exact h'.elim
      rw [hl]
      rw [hl] at h
      refine wGuard_open h hs (fun e1 he hs1 hw h => ?_) (fun e1 he hs1 hf hw h => ?_)
      · rw [← hl] at hw
        have hw : Region.wanted o1 (yielded ops a.tmps) = true := by simpa using hw
        unfold wpList; rw [if_pos hw]
        exact .inl (wStep_sound h hs1 fun v w' a' hh hs' => step2 _ w' a' hs' hh)
      · rw [← hl] at hw
        have hw : Region.wanted o1 (yielded ops a.tmps) = false := by simpa using hw
        unfold wpList; rw [if_neg (by simp [hw])]
        exact step2 _ w _ (hs1.put (v := (undef, false)) hf) h
    · refine wp_seq (W_sound hm x e w _ h a _ hs fun x e' w' a' h1 h2 h3 => ?_)
      cases x with
      | n => exact WD_sound hm y e' w' K h1 a' Q h3 hk hd
      | x i => exact hk (.x i) _ _ _ h1 h3
      | g i => exact hk (.g i) _ _ _ h1 h3
      | r => exact hk .r _ _ _ h1 h3
  | .skip, e, w, K, h, _, _, _, _, _ => h.elim
  | .region .., e, w, K, h, _, _, _, _, _ => h.elim
  | .cond .., e, w, K, h, _, _, _, _, _ => h.elim
  | .block .., e, w, K, h, _, _, _, _, _ => h.elim
  | .loop .., e, w, K, h, _, _, _, _, _ => h.elim
  | .exit .., e, w, K, h, _, _, _, _, _ => h.elim
  | .label .., e, w, K, h, _, _, _, _, _ => h.elim
  | .goto .., e, w, K, h, _, _, _, _, _ => h.elim
  | .ret, e, w, K, h, _, _, _, _, _ => h.elim
  | .rangeFunc .., e, w, K, h, _, _, _, _, _ => h.elim
  | .refuse .., e, w, K, h, _, _, _, _, _ => h.elim
  | .scope .., e, w, K, h, _, _, _, _, _ => h.elim
section
variable (P : Program) (ty : Nat → Sh) (ann : Ann)
/-- What the deferred closure is to do where the function returns: return itself, and leave behind what the function hands back. -/
def BodyD (fn : Func) (c : Code) (args : List (Value × Bool)) (w : World) (R : Value → World → Prop) : Prop :=
  WD P ty fn.ntmps ann c (envOf args 0) w fun D x e w' =>
    (match x with
    | .n | .r => match D with
      | none => answer P ty fn R e w'
      | some (f, fargs) => CallsD P f fargs .returning w' fun en u w'' => (∃ v, en = .returned v) ∧ u = .returning ∧ answer P ty fn R e w''
    | _ => False)
end
/-- THE FORMULA IS ENOUGH. -/
theorem calls_of_bodyD {P : Program} {ty : Nat → Sh} {ann : Ann} {f : FuncId} {fn : Func} {c : Code} {vs : List (Value × Bool)} {w : World} {R : Value → World → Prop} {R' : Ending → World → Prop}
    (hm : P.follows .mixedOrders = true) (hf : P.funcs[f]? = some fn) (hb : fn.body = some c) (hn : Nat.ble vs.length fn.ntmps = true)
    (h : BodyD P ty ann fn c vs w R) (hR : ∀ v w', R v w' → R' (.returned v) w') : Calls P f (firsts vs).toArray w R' := by
  have hlen : ∀ l : List (Value × Bool), (firsts l).length = l.length := fun l => by induction l with
    | nil => rfl
    | cons v r ih => simp [firsts, ih]
  have hn' : vs.length ≤ fn.ntmps := Nat.le_of_ble_eq_true hn
  have out : ∀ (D : List Deferred) (e : Env) (a : Act) (w' : World), Sub D fn.ntmps e a → answer P ty fn R e w' → ∃ v, (results fn a.tmps).run P w' = .ok v w' ∧ R' (.returned v) w' := fun D e a w' hs h1 => by
    obtain ⟨vs, hR1, hl, hv⟩ := ans_out hs _ _ h1
    refine ⟨tupled vs, ?_, hR _ _ hR1⟩
    have hmap := run_mapM (P := P) (w := w') hl hv
    have hres : results fn a.tmps = (fn.results.mapM (resAt a.tmps)) >>= fun vs => pure (if h : vs.size = 1 then vs[0] else .tuple vs) := by
      unfold results; congr 1
    rw [hres, Array.mapM_eq_mapM_toList]
    simp only [Sem.run_bind, Sem.run_map, hmap]
    match vs with
    | [] => rfl
    | [v] => rfl
    | v :: u :: r => rfl
  have hsub : Sub [] fn.ntmps (envOf vs 0) { tmps := (firsts vs).toArray ++ Array.replicate (fn.ntmps - (firsts vs).toArray.size) undef, defers := [] } := by
    refine ⟨by simp [hlen]; omega, rfl, fun t v hv => ?_⟩
    obtain ⟨_, h2⟩ := get_envOf vs 0 t v hv
    have h2' : (firsts vs)[t]? = some v.1 := by simpa using h2
    have hlt := (List.getElem?_eq_some_iff.1 h2').1
    simp only
    rw [Array.getElem?_append_left (by simpa using hlt)]
    simpa using h2'
  refine calls_of_wp_defers hf hb (WD_sound hm c _ w _ h _ _ hsub (fun x e' w' a' h1 h3 => ?_) (fun g args d x e' w' a' h1 hi ⟨fv, cap, ht⟩ h3 => ?_))
  · have key : answer P ty fn R e' w' → Leaves P fn a'.tmps R' a'.defers .returning w' := fun h1 => by
      rw [h3.defers]
      exact out _ _ _ _ h3 h1
    cases x with
    | n => exact key h1
    | r => exact key h1
    | x i => exact h1.elim
    | g i => exact h1.elim
  · have key : (CallsD P g args .returning w' fun en u w'' => (∃ v, en = .returned v) ∧ u = .returning ∧ answer P ty fn R e' w'') → Leaves P fn a'.tmps R' a'.defers .returning w' := fun h1 => by
      rw [h3.defers]
      obtain ⟨dt, da⟩ := d
      simp only at ht
      subst ht
      refine leaves_cons (by simp) (pureRun_spec hi w') (h1.mono fun en u w'' ⟨⟨v, hv⟩, hu, ha⟩ => ?_)
      subst hv hu
      exact out _ _ _ _ h3 ha
    cases x with
    | n => exact key h1
    | r => exact key h1
    | x i => exact h1.elim
    | g i => exact h1.elim
end Vc

/- The closure that zip.Read defers, where Read returns: it turns nothing. No condition. -/
set_option linter.unusedVariables false
namespace Vc
open Go
section
variable {P : Program} {ops : Array Oper} {Q : Exit → Act → List Frame → World → Prop}
/-- An operation that asks nothing of the world. -/
def stepS (P : Program) (ops : Array Oper) (i : Nat) (a : Act) : Option Act := match ops[i]? with
  | none => none
  | some o => match Region.wanted o (yielded ops a.tmps) with
    | false => none
    | true => match pureRun P (execOp a.eval o) with
      | some (.value v) => some (a.put o.dst v)
      | _ => none
def stepsS (P : Program) (ops : Array Oper) : List Nat → Act → Option Act
  | [], a => some a
  | i :: r, a => match stepS P ops i a with
    | some a' => stepsS P ops r a'
    | none => none
theorem stepS_spec {i : Nat} {a a' : Act} (h : stepS P ops i a = some a') {rest : List Nat} {cs : List Frame} {w : World} (hq : wpOpsS P ops Q rest a' cs w) : wpOpsS P ops Q (i :: rest) a cs w := by
  unfold stepS at h
  unfold wpOpsS
  split at h
  · cases h
  rename_i o ho
  simp only [ho]
  split at h
  · cases h
  rename_i hw
  rw [if_pos hw]
  split at h
  · rename_i v hv
    cases h
    rw [pureRun_spec hv w]
    exact hq
  · cases h
theorem stepsS_spec : ∀ {l : List Nat} {a a' : Act} (h : stepsS P ops l a = some a') {cs : List Frame} {w : World} (hq : Q .normal a' cs w), wpOpsS P ops Q l a cs w
  | [], a, a', h, cs, w, hq => by cases h; exact hq
  | i :: r, a, a', h, cs, w, hq => by
    simp only [stepsS] at h
    split at h
    · rename_i b hb
      exact stepS_spec hb (stepsS_spec h hq)
    · cases h
/-- recover. -/
theorem recS_spec {i : Nat} {o : Oper} {ct : Array TypeId} (hi : ops[i]? = some o) (ho : o.op = .call ⟨.builtin .recover, #[], ct⟩) (hg : o.guard = none) {rest : List Nat} {a a' : Act} {cs cs' : List Frame} {w : World}
    (h : (match recoverD cs with | some (v, cs'') => a' = a.put o.dst v ∧ cs' = cs'' | none => a' = a.put o.dst .nilIface ∧ cs' = cs)) (hq : wpOpsS P ops Q rest a' cs' w) : wpOpsS P ops Q (i :: rest) a cs w := by
  unfold wpOpsS
  simp only [hi]
  rw [if_pos (by simp [Region.wanted, hg])]
  have hr : (execOp a.eval o).run P w = .ok .recover w := by
    simp [execOp, ho, resolve]
    rfl
  rw [hr]
  simp only
  cases hc : recoverD cs with
  | none =>
    simp only [hc] at h
    obtain ⟨rfl, rfl⟩ := h
    exact hq
  | some p =>
    obtain ⟨v, cs''⟩ := p
    simp only [hc] at h
    obtain ⟨rfl, rfl⟩ := h
    exact hq
end
end Vc
namespace Go.Proofs.YtfoeooddnmppnaaDoor
open Go Vc Go.Proofs
set_option maxRecDepth 100000
theorem catch_idle (p q : Addr) (w : World) :
    CallsD Tryd.prog F_zip_Read_1 #[.pointer (some p), .pointer (some q)] .returning w fun e u w' => e = .returned (.tuple #[]) ∧ u = .returning ∧ w' = w := by
  refine callsD_of_wpS Tryd.func38 rfl fun c₀ cs hu => ?_
  have hz : ({ c₀ with mode := .returning } : Frame) = c₀ := by cases c₀; simp only at hu; subst hu; rfl
  refine wpS_seq (wpS_region ?_)
  show wpOpsS _ _ _ [0, 1, 2, 3, 4, 5, 6] _ _ _
  refine recS_spec (a' := ⟨#[.pointer (some p), .pointer (some q), undef, undef, undef, .nilIface, undef, undef, undef, undef, undef], []⟩) (cs' := c₀ :: cs) rfl rfl rfl ?_ ?_
  · rw [show recoverD (c₀ :: cs) = none by unfold recoverD; simp only [hu]]
    exact ⟨by kernel_rfl, rfl⟩
  refine stepsS_spec (a' := ⟨#[.pointer (some p), .pointer (some q), .int .i64 0, .bool false, .tuple #[.int .i64 0, .bool false], .nilIface, .tuple #[.int .i64 0, .bool false], .int .i64 0, .bool false, undef, undef], []⟩) (by kernel_rfl) ?_
  refine wpS_seq (wpS_region ?_)
  show wpOpsS _ _ _ [0] _ _ _
  refine stepsS_spec (a' := ⟨#[.pointer (some p), .pointer (some q), .int .i64 0, .bool false, .tuple #[.int .i64 0, .bool false], .nilIface, .tuple #[.int .i64 0, .bool false], .int .i64 0, .bool false, .bool false, undef], []⟩) (by kernel_rfl) ?_
  refine wpS_cond (t := false) (by kernel_rfl) ?_
  refine wpS_of_wp (wp_skip ?_)
  exact ⟨rfl, .returning, by rw [hz], .tuple #[], by kernel_rfl, rfl, rfl, rfl⟩
end Go.Proofs.YtfoeooddnmppnaaDoor

/- Formulas of 1 Go functions of this seat (written by a program of the author's, vcgen.py), and that each is enough for the call. No condition. -/
set_option linter.unusedVariables false
namespace Go.Proofs.YtfoeooddnmppnaaDoor
open Go Vc Go.Proofs
set_option maxRecDepth 100000
/-- zip.Read -/
def vc_zip_Read (x0 : ByteArray) (w : World) (R : Value → World → Prop) : Prop :=
  ∀ w1 : World,
  (w1 = World.alloc w (Obj.cells (Array.mk [Value.slice none 0 0]) 22) →
    ∀ w2 : World,
    (w2 = World.alloc w1 (Obj.cells (Array.mk [Value.int IntKind.i64 0]) 24) →
      (((decide ((↑(ByteArray.size x0) : Int) > 2097152) = true →
         (Wr w2 (Addr.mk (Array.size (World.heap w)) 0 none) ∧
          ∀ w3 : World,
          (w3 = World.setCell w2 (Addr.mk (Array.size (World.heap w)) 0 none) (Value.slice none 0 0) →
            (Wr w3 (Addr.mk (Array.size (World.heap w1)) 0 none) ∧
             ∀ w4 : World,
             (w4 = World.setCell w3 (Addr.mk (Array.size (World.heap w1)) 0 none) (Value.int IntKind.i64 2) →
               ∃ l5 : Sl, (Sem.run Tryd.prog (loadVar 22 (Addr.mk (Array.size (World.heap w)) 0 none)) w4 = Result.ok (Value.slice l5.1 l5.2 l5.3) w4 ∧
                ∃ n6 : Int, (Sem.run Tryd.prog (loadVar 24 (Addr.mk (Array.size (World.heap w1)) 0 none)) w4 = Result.ok (Value.int IntKind.i64 n6) w4 ∧
                 R (Value.tuple (Array.mk [Value.slice l5.1 l5.2 l5.3, Value.int IntKind.i64 n6])) w4)))))))) ∧
       (decide ((↑(ByteArray.size x0) : Int) > 2097152) = false →
         (((decide ((↑(ByteArray.size x0) : Int) < 22) = true →
            (Wr w2 (Addr.mk (Array.size (World.heap w)) 0 none) ∧
             ∀ w7 : World,
             (w7 = World.setCell w2 (Addr.mk (Array.size (World.heap w)) 0 none) (Value.slice none 0 0) →
               (Wr w7 (Addr.mk (Array.size (World.heap w1)) 0 none) ∧
                ∀ w8 : World,
                (w8 = World.setCell w7 (Addr.mk (Array.size (World.heap w1)) 0 none) (Value.int IntKind.i64 6) →
                  ∃ l9 : Sl, (Sem.run Tryd.prog (loadVar 22 (Addr.mk (Array.size (World.heap w)) 0 none)) w8 = Result.ok (Value.slice l9.1 l9.2 l9.3) w8 ∧
                   ∃ n10 : Int, (Sem.run Tryd.prog (loadVar 24 (Addr.mk (Array.size (World.heap w1)) 0 none)) w8 = Result.ok (Value.int IntKind.i64 n10) w8 ∧
                    R (Value.tuple (Array.mk [Value.slice l9.1 l9.2 l9.3, Value.int IntKind.i64 n10])) w8)))))))) ∧
          (decide ((↑(ByteArray.size x0) : Int) < 22) = false →
            ∀ w11 : World,
            (w11 = World.alloc w2 (Obj.cells (Array.mk [Value.string x0, Value.int IntKind.i64 (IntKind.wrap IntKind.i64 ((↑(ByteArray.size x0) : Int) - 22))]) 70) →
              Calls Tryd.prog (34 : Nat) (Array.mk [Value.int IntKind.i64 (0 : Int)]) (w11) (fun e12 w13 =>
                ∃ s14 : ByteArray, (e12 = Ending.returned (Value.string s14) ∧
                 (ByteArray.size (ByteArray.mk (Array.mk [80, 75, 5, 6])) + ByteArray.size s14 ≤ 9223372036854775807 ∧
                  Calls Tryd.prog (34 : Nat) (Array.mk [Value.int IntKind.i64 (0 : Int)]) (w13) (fun e15 w16 =>
                    ∃ s17 : ByteArray, (e15 = Ending.returned (Value.string s17) ∧
                     (ByteArray.size (ByteArray.mk (Array.mk [80, 75, 5, 6]) ++ s14) + ByteArray.size s17 ≤ 9223372036854775807 ∧
                      Calls Tryd.prog (39 : Nat) (Array.mk [Value.pointer (some (Addr.mk (Array.size (World.heap w2)) 0 none)), Value.string (ByteArray.mk (Array.mk [80, 75, 5, 6]) ++ s14 ++ s17)]) (w16) (fun e18 w19 =>
                        (e18 = Ending.returned (Value.tuple (Array.mk [])) ∧
                         Calls Tryd.prog (40 : Nat) (Array.mk [Value.pointer (some (Addr.mk (Array.size (World.heap w2)) 0 none)), Value.int IntKind.i64 2]) (w19) (fun e20 w21 =>
                           ∃ n22 : Int, (e20 = Ending.returned (Value.int IntKind.i64 n22) ∧
                            Calls Tryd.prog (40 : Nat) (Array.mk [Value.pointer (some (Addr.mk (Array.size (World.heap w2)) 0 none)), Value.int IntKind.i64 2]) (w21) (fun e23 w24 =>
                              ∃ n25 : Int, (e23 = Ending.returned (Value.int IntKind.i64 n25) ∧
                               Calls Tryd.prog (40 : Nat) (Array.mk [Value.pointer (some (Addr.mk (Array.size (World.heap w2)) 0 none)), Value.int IntKind.i64 4]) (w24) (fun e26 w27 =>
                                 ∃ n28 : Int, (e26 = Ending.returned (Value.int IntKind.i64 n28) ∧
                                  Calls Tryd.prog (40 : Nat) (Array.mk [Value.pointer (some (Addr.mk (Array.size (World.heap w2)) 0 none)), Value.int IntKind.i64 4]) (w27) (fun e29 w30 =>
                                    ∃ n31 : Int, (e29 = Ending.returned (Value.int IntKind.i64 n31) ∧
                                     Calls Tryd.prog (34 : Nat) (Array.mk [Value.int IntKind.i64 (0 : Int)]) (w30) (fun e32 w33 =>
                                       ∃ s34 : ByteArray, (e32 = Ending.returned (Value.string s34) ∧
                                        Calls Tryd.prog (39 : Nat) (Array.mk [Value.pointer (some (Addr.mk (Array.size (World.heap w2)) 0 none)), Value.string s34]) (w33) (fun e35 w36 =>
                                          (e35 = Ending.returned (Value.tuple (Array.mk [])) ∧
                                           ∃ I37 : World → Prop, (((((n22 == n25) = true →
                                               Calls Tryd.prog (41 : Nat) (Array.mk [Value.bool (IntKind.wrap IntKind.i64 (n31 + n28) == IntKind.wrap IntKind.i64 ((↑(ByteArray.size x0) : Int) - 22)), Value.int IntKind.i64 3]) (w36) (fun e38 w39 =>
                                                 (e38 = Ending.returned (Value.tuple (Array.mk [])) ∧
                                                  I37 w39)))) ∧
                                             ((n22 == n25) = false →
                                               Calls Tryd.prog (41 : Nat) (Array.mk [Value.bool false, Value.int IntKind.i64 (3 : Int)]) (w36) (fun e40 w41 =>
                                                 (e40 = Ending.returned (Value.tuple (Array.mk [])) ∧
                                                  I37 w41)))) ∧
                                            ∀ w42 : World,
                                            (I37 w42 →
                                              Calls Tryd.prog (41 : Nat) (Array.mk [Value.bool (decide (n22 ≤ 600)), Value.int IntKind.i64 2]) (w42) (fun e43 w44 =>
                                                (e43 = Ending.returned (Value.tuple (Array.mk [])) ∧
                                                 ((0 ≤ IntKind.wrap IntKind.i64 ((↑(ByteArray.size x0) : Int) - 22) ∧
                                                   IntKind.wrap IntKind.i64 ((↑(ByteArray.size x0) : Int) - 22) ≤ (↑(ByteArray.size x0) : Int)) ∧
                                                  (Wr w44 (Addr.mk (Array.size (World.heap w2)) 0 none) ∧
                                                   ∀ w45 : World,
                                                   (w45 = World.setCell w44 (Addr.mk (Array.size (World.heap w2)) 0 none) (Value.string (ByteArray.extract x0 0 (Int.toNat (IntKind.wrap IntKind.i64 ((↑(ByteArray.size x0) : Int) - 22))))) →
                                                     (Wr w45 (Addr.mk (Array.size (World.heap w2)) 1 none) ∧
                                                      ∀ w46 : World,
                                                      (w46 = World.setCell w45 (Addr.mk (Array.size (World.heap w2)) 1 none) (Value.int IntKind.i64 n31) →
                                                        ∃ I47 : Sl → Int → World → Prop, ∃ I48 : Sl → Int → World → Nat, (I47 (Sl.mk none 0 0) 0 w46 ∧
                                                         ∀ l49 : Sl,
                                                         ∀ n50 : Int,
                                                         ∀ w51 : World,
                                                         (I47 l49 n50 w51 →
                                                           (((decide (n50 < n22) = true →
                                                              Calls Tryd.prog (34 : Nat) (Array.mk [Value.int IntKind.i64 (20 : Int)]) (w51) (fun e52 w53 =>
                                                                ∃ s54 : ByteArray, (e52 = Ending.returned (Value.string s54) ∧
                                                                 (ByteArray.size (ByteArray.mk (Array.mk [80, 75, 1, 2])) + ByteArray.size s54 ≤ 9223372036854775807 ∧
                                                                  Calls Tryd.prog (39 : Nat) (Array.mk [Value.pointer (some (Addr.mk (Array.size (World.heap w2)) 0 none)), Value.string (ByteArray.mk (Array.mk [80, 75, 1, 2]) ++ s54)]) (w53) (fun e55 w56 =>
                                                                    (e55 = Ending.returned (Value.tuple (Array.mk [])) ∧
                                                                     Calls Tryd.prog (42 : Nat) (Array.mk [Value.pointer (some (Addr.mk (Array.size (World.heap w2)) 0 none))]) (w56) (fun e57 w58 =>
                                                                       ∃ n59 : Int, ∃ n60 : Int, ∃ n61 : Int, ∃ n62 : Int, ∃ n63 : Int, (e57 = Ending.returned (Value.agg (Array.mk [Value.int IntKind.i64 n59, Value.int IntKind.u32 n60, Value.int IntKind.i64 n61, Value.int IntKind.i64 n62, Value.int IntKind.i64 n63])) ∧
                                                                        ∀ w64 : World,
                                                                        (w64 = World.alloc w58 (Obj.cells (Array.mk [Value.int IntKind.i64 0, Value.int IntKind.u32 0, Value.int IntKind.i64 0, Value.int IntKind.i64 0, Value.int IntKind.i64 0, Value.string (ByteArray.mk (Array.mk [])), Value.int IntKind.i64 0]) 79) →
                                                                          ∃ w65 : World, (Sem.run Tryd.prog (storeVar 79 (Addr.mk (Array.size (World.heap w58)) 0 none) (Value.agg (Array.mk [Value.int IntKind.i64 n59, Value.int IntKind.u32 n60, Value.int IntKind.i64 n61, Value.int IntKind.i64 n62, Value.int IntKind.i64 n63, Value.string (ByteArray.mk (Array.mk [])), Value.int IntKind.i64 0]))) w64 = Result.ok PUnit.unit w65 ∧
                                                                           Calls Tryd.prog (34 : Nat) (Array.mk [Value.int IntKind.i64 (0 : Int)]) (w65) (fun e66 w67 =>
                                                                             ∃ s68 : ByteArray, (e66 = Ending.returned (Value.string s68) ∧
                                                                              Calls Tryd.prog (34 : Nat) (Array.mk [Value.int IntKind.i64 (0 : Int)]) (w67) (fun e69 w70 =>
                                                                                ∃ s71 : ByteArray, (e69 = Ending.returned (Value.string s71) ∧
                                                                                 (ByteArray.size s68 + ByteArray.size s71 ≤ 9223372036854775807 ∧
                                                                                  Calls Tryd.prog (34 : Nat) (Array.mk [Value.int IntKind.i64 (0 : Int)]) (w70) (fun e72 w73 =>
                                                                                    ∃ s74 : ByteArray, (e72 = Ending.returned (Value.string s74) ∧
                                                                                     (ByteArray.size (s68 ++ s71) + ByteArray.size s74 ≤ 9223372036854775807 ∧
                                                                                      Calls Tryd.prog (35 : Nat) (Array.mk [Value.int IntKind.i64 (0 : Int)]) (w73) (fun e75 w76 =>
                                                                                        ∃ s77 : ByteArray, (e75 = Ending.returned (Value.string s77) ∧
                                                                                         (ByteArray.size (s68 ++ s71 ++ s74) + ByteArray.size s77 ≤ 9223372036854775807 ∧
                                                                                          Calls Tryd.prog (39 : Nat) (Array.mk [Value.pointer (some (Addr.mk (Array.size (World.heap w2)) 0 none)), Value.string (s68 ++ s71 ++ s74 ++ s77)]) (w76) (fun e78 w79 =>
                                                                                            (e78 = Ending.returned (Value.tuple (Array.mk [])) ∧
                                                                                             Calls Tryd.prog (40 : Nat) (Array.mk [Value.pointer (some (Addr.mk (Array.size (World.heap w2)) 0 none)), Value.int IntKind.i64 4]) (w79) (fun e80 w81 =>
                                                                                               ∃ n82 : Int, (e80 = Ending.returned (Value.int IntKind.i64 n82) ∧
                                                                                                (Wr w81 (Addr.mk (Array.size (World.heap w58)) 6 none) ∧
                                                                                                 ∀ w83 : World,
                                                                                                 (w83 = World.setCell w81 (Addr.mk (Array.size (World.heap w58)) 6 none) (Value.int IntKind.i64 n82) →
                                                                                                   ∃ n84 : Int, (World.cell? w83 (Addr.mk (Array.size (World.heap w58)) 4 none) = some (Value.int IntKind.i64 n84) ∧
                                                                                                    Calls Tryd.prog (43 : Nat) (Array.mk [Value.pointer (some (Addr.mk (Array.size (World.heap w2)) 0 none)), Value.int IntKind.i64 n84]) (w83) (fun e85 w86 =>
                                                                                                      ∃ s87 : ByteArray, (e85 = Ending.returned (Value.string s87) ∧
                                                                                                       (Wr w86 (Addr.mk (Array.size (World.heap w58)) 5 none) ∧
                                                                                                        ∀ w88 : World,
                                                                                                        (w88 = World.setCell w86 (Addr.mk (Array.size (World.heap w58)) 5 none) (Value.string s87) →
                                                                                                          ∃ n89 : Int, ∃ n90 : Int, ∃ n91 : Int, ∃ n92 : Int, ∃ n93 : Int, ∃ s94 : ByteArray, ∃ n95 : Int, (Sem.run Tryd.prog (loadVar 79 (Addr.mk (Array.size (World.heap w58)) 0 none)) w88 = Result.ok (Value.agg (Array.mk [Value.int IntKind.i64 n89, Value.int IntKind.u32 n90, Value.int IntKind.i64 n91, Value.int IntKind.i64 n92, Value.int IntKind.i64 n93, Value.string s94, Value.int IntKind.i64 n95])) w88 ∧
                                                                                                           ∀ w96 : World,
                                                                                                           (w96 = World.alloc w88 (Obj.cells (Array.mk [Value.int IntKind.i64 n89, Value.int IntKind.u32 n90, Value.int IntKind.i64 n91, Value.int IntKind.i64 n92, Value.int IntKind.i64 n93, Value.string s94, Value.int IntKind.i64 n95]) 79) →
                                                                                                             ∃ w97 : World, ∃ l98 : Sl, (Sem.run Tryd.prog (Builtin.append_ (Array.mk [74, 74]) 74 (Array.mk [Value.slice l49.1 l49.2 l49.3, Value.slice (some (Addr.mk (Array.size (World.heap w88)) 0 none)) 1 1])) w96 = Result.ok (Value.slice l98.1 l98.2 l98.3) w97 ∧
                                                                                                              (I47 (Sl.mk l98.1 l98.2 l98.3) (IntKind.wrap IntKind.i64 (n50 + 1)) w97 ∧
                                                                                                               I48 (Sl.mk l98.1 l98.2 l98.3) (IntKind.wrap IntKind.i64 (n50 + 1)) w97 < I48 l49 n50 w51))))))))))))))))))))))))))))))))))))) ∧
                                                            (decide (n50 < n22) = false →
                                                              ∀ w99 : World,
                                                              (Drew w51 w99 →
                                                                ∃ I100 : World → Prop, (I100 w99 ∧
                                                                 ∃ n101 : Int, ((∀ w102 : World,
                                                                  (I100 w102 →
                                                                    World.cell? w102 (Addr.mk (Array.size (World.heap w2)) 1 none) = some (Value.int IntKind.i64 n101))) ∧
                                                                  ∃ s103 : ByteArray, ((∀ w104 : World,
                                                                   (I100 w104 →
                                                                     World.cell? w104 (Addr.mk (Array.size (World.heap w2)) 0 none) = some (Value.string s103))) ∧
                                                                   Calls Tryd.prog (41 : Nat) (Array.mk [Value.bool (n101 == (↑(ByteArray.size s103) : Int)), Value.int IntKind.i64 3]) (w99) (fun e105 w106 =>
                                                                     (e105 = Ending.returned (Value.tuple (Array.mk [])) ∧
                                                                      ((0 ≤ n31 ∧
                                                                        n31 ≤ (↑(ByteArray.size x0) : Int)) ∧
                                                                       (Wr w106 (Addr.mk (Array.size (World.heap w2)) 0 none) ∧
                                                                        ∀ w107 : World,
                                                                        (w107 = World.setCell w106 (Addr.mk (Array.size (World.heap w2)) 0 none) (Value.string (ByteArray.extract x0 0 (Int.toNat n31))) →
                                                                          (Wr w107 (Addr.mk (Array.size (World.heap w2)) 1 none) ∧
                                                                           ∀ w108 : World,
                                                                           (w108 = World.setCell w107 (Addr.mk (Array.size (World.heap w2)) 1 none) (Value.int IntKind.i64 0) →
                                                                             ∃ I109 : Int → Int → World → Prop, ∃ I110 : Int → Int → World → Nat, (I109 0 0 w108 ∧
                                                                              ∀ n111 : Int,
                                                                              ∀ n112 : Int,
                                                                              ∀ w113 : World,
                                                                              (I109 n111 n112 w113 →
                                                                                (((decide (n112 < (↑l49.2 : Int)) = true →
                                                                                   ((0 ≤ n112 ∧
                                                                                     n112 < (↑l49.2 : Int)) ∧
                                                                                    ∃ a114 : Addr, (l49.1 = some a114 ∧
                                                                                     ∃ n115 : Int, ∃ n116 : Int, ∃ n117 : Int, ∃ n118 : Int, ∃ n119 : Int, ∃ s120 : ByteArray, ∃ n121 : Int, (Sem.run Tryd.prog (loadVar 79 (Addr.add a114 (Int.toNat n112 * 7))) w113 = Result.ok (Value.agg (Array.mk [Value.int IntKind.i64 n115, Value.int IntKind.u32 n116, Value.int IntKind.i64 n117, Value.int IntKind.i64 n118, Value.int IntKind.i64 n119, Value.string s120, Value.int IntKind.i64 n121])) w113 ∧
                                                                                      ∀ w122 : World,
                                                                                      (w122 = World.alloc w113 (Obj.cells (Array.mk [Value.int IntKind.i64 0, Value.int IntKind.u32 0, Value.int IntKind.i64 0, Value.int IntKind.i64 0, Value.int IntKind.i64 0, Value.string (ByteArray.mk (Array.mk [])), Value.int IntKind.i64 0]) 79) →
                                                                                        ∃ w123 : World, (Sem.run Tryd.prog (storeVar 79 (Addr.mk (Array.size (World.heap w113)) 0 none) (Value.agg (Array.mk [Value.int IntKind.i64 n115, Value.int IntKind.u32 n116, Value.int IntKind.i64 n117, Value.int IntKind.i64 n118, Value.int IntKind.i64 n119, Value.string s120, Value.int IntKind.i64 n121]))) w122 = Result.ok PUnit.unit w123 ∧
                                                                                         ∀ w124 : World,
                                                                                         (Drew w123 w124 →
                                                                                           ∃ I125 : World → Prop, (I125 w124 ∧
                                                                                            ∃ n126 : Int, ((∀ w127 : World,
                                                                                             (I125 w127 →
                                                                                               World.cell? w127 (Addr.mk (Array.size (World.heap w113)) 6 none) = some (Value.int IntKind.i64 n126))) ∧
                                                                                             ∃ n128 : Int, ((∀ w129 : World,
                                                                                              (I125 w129 →
                                                                                                World.cell? w129 (Addr.mk (Array.size (World.heap w2)) 1 none) = some (Value.int IntKind.i64 n128))) ∧
                                                                                              Calls Tryd.prog (41 : Nat) (Array.mk [Value.bool (n126 == n128), Value.int IntKind.i64 3]) (w124) (fun e130 w131 =>
                                                                                                (e130 = Ending.returned (Value.tuple (Array.mk [])) ∧
                                                                                                 Calls Tryd.prog (39 : Nat) (Array.mk [Value.pointer (some (Addr.mk (Array.size (World.heap w2)) 0 none)), Value.string (ByteArray.mk (Array.mk [80, 75, 3, 4]))]) (w131) (fun e132 w133 =>
                                                                                                   (e132 = Ending.returned (Value.tuple (Array.mk [])) ∧
                                                                                                    ∀ w134 : World,
                                                                                                    (Drew w133 w134 →
                                                                                                      ∃ I135 : World → Prop, (I135 w134 ∧
                                                                                                       ∃ n136 : Int, ∃ n137 : Int, ∃ n138 : Int, ∃ n139 : Int, ∃ n140 : Int, ((∀ w141 : World,
                                                                                                        (I135 w141 →
                                                                                                          Sem.run Tryd.prog (loadVar 76 (Addr.mk (Array.size (World.heap w113)) 0 none)) w141 = Result.ok (Value.agg (Array.mk [Value.int IntKind.i64 n136, Value.int IntKind.u32 n137, Value.int IntKind.i64 n138, Value.int IntKind.i64 n139, Value.int IntKind.i64 n140])) w141)) ∧
                                                                                                        Calls Tryd.prog (42 : Nat) (Array.mk [Value.pointer (some (Addr.mk (Array.size (World.heap w2)) 0 none))]) (w134) (fun e142 w143 =>
                                                                                                          ∃ n144 : Int, ∃ n145 : Int, ∃ n146 : Int, ∃ n147 : Int, ∃ n148 : Int, (e142 = Ending.returned (Value.agg (Array.mk [Value.int IntKind.i64 n144, Value.int IntKind.u32 n145, Value.int IntKind.i64 n146, Value.int IntKind.i64 n147, Value.int IntKind.i64 n148])) ∧
                                                                                                           (I135 w143 ∧
                                                                                                            Calls Tryd.prog (41 : Nat) (Array.mk [Value.bool (n144 == n136 && (n145 == n137 && (n146 == n138 && (n147 == n139 && n148 == n140)))), Value.int IntKind.i64 3]) (w143) (fun e149 w150 =>
                                                                                                              (e149 = Ending.returned (Value.tuple (Array.mk [])) ∧
                                                                                                               ∃ s151 : ByteArray, (World.cell? w150 (Addr.mk (Array.size (World.heap w113)) 5 none) = some (Value.string s151) ∧
                                                                                                                Calls Tryd.prog (39 : Nat) (Array.mk [Value.pointer (some (Addr.mk (Array.size (World.heap w2)) 0 none)), Value.string s151]) (w150) (fun e152 w153 =>
                                                                                                                  (e152 = Ending.returned (Value.tuple (Array.mk [])) ∧
                                                                                                                   ∃ n154 : Int, (World.cell? w153 (Addr.mk (Array.size (World.heap w113)) 2 none) = some (Value.int IntKind.i64 n154) ∧
                                                                                                                    Calls Tryd.prog (43 : Nat) (Array.mk [Value.pointer (some (Addr.mk (Array.size (World.heap w2)) 0 none)), Value.int IntKind.i64 n154]) (w153) (fun e155 w156 =>
                                                                                                                      ∃ s157 : ByteArray, (e155 = Ending.returned (Value.string s157) ∧
                                                                                                                       ∃ n158 : Int, (World.cell? w156 (Addr.mk (Array.size (World.heap w113)) 3 none) = some (Value.int IntKind.i64 n158) ∧
                                                                                                                        Calls Tryd.prog (41 : Nat) (Array.mk [Value.bool (decide (IntKind.wrap IntKind.i64 (n111 + n158) ≤ 1048576)), Value.int IntKind.i64 2]) (w156) (fun e159 w160 =>
                                                                                                                          (e159 = Ending.returned (Value.tuple (Array.mk [])) ∧
                                                                                                                           ∀ w161 : World,
                                                                                                                           (Drew w160 w161 →
                                                                                                                             ∃ I162 : World → Prop, (I162 w161 ∧
                                                                                                                              ∃ l163 : Sl, ((∀ w164 : World,
                                                                                                                               (I162 w164 →
                                                                                                                                 World.cell? w164 (Addr.mk (Array.size (World.heap w)) 0 none) = some (Value.slice l163.1 l163.2 l163.3))) ∧
                                                                                                                               ∃ s165 : ByteArray, ((∀ w166 : World,
                                                                                                                                (I162 w166 →
                                                                                                                                  World.cell? w166 (Addr.mk (Array.size (World.heap w113)) 5 none) = some (Value.string s165))) ∧
                                                                                                                                ∃ n167 : Int, ∃ n168 : Int, ∃ n169 : Int, ∃ n170 : Int, ∃ n171 : Int, ∃ s172 : ByteArray, ∃ n173 : Int, ((∀ w174 : World,
                                                                                                                                 (I162 w174 →
                                                                                                                                   Sem.run Tryd.prog (loadVar 79 (Addr.mk (Array.size (World.heap w113)) 0 none)) w174 = Result.ok (Value.agg (Array.mk [Value.int IntKind.i64 n167, Value.int IntKind.u32 n168, Value.int IntKind.i64 n169, Value.int IntKind.i64 n170, Value.int IntKind.i64 n171, Value.string s172, Value.int IntKind.i64 n173])) w174)) ∧
                                                                                                                                 Calls Tryd.prog (44 : Nat) (Array.mk [Value.agg (Array.mk [Value.int IntKind.i64 n167, Value.int IntKind.u32 n168, Value.int IntKind.i64 n169, Value.int IntKind.i64 n170, Value.int IntKind.i64 n171, Value.string s172, Value.int IntKind.i64 n173]), Value.string s157]) (w161) (fun e175 w176 =>
                                                                                                                                   ∃ s177 : ByteArray, (e175 = Ending.returned (Value.string s177) ∧
                                                                                                                                    (I162 w176 ∧
                                                                                                                                     ∀ w178 : World,
                                                                                                                                     (w178 = World.alloc w176 (Obj.cells (Array.mk [Value.string s165, Value.string s177]) 37) →
                                                                                                                                       (I162 w178 ∧
                                                                                                                                        ∃ w179 : World, ∃ l180 : Sl, (Sem.run Tryd.prog (Builtin.append_ (Array.mk [22, 22]) 22 (Array.mk [Value.slice l163.1 l163.2 l163.3, Value.slice (some (Addr.mk (Array.size (World.heap w176)) 0 none)) 1 1])) w178 = Result.ok (Value.slice l180.1 l180.2 l180.3) w179 ∧
                                                                                                                                         (I162 w179 ∧
                                                                                                                                          (Wr w179 (Addr.mk (Array.size (World.heap w)) 0 none) ∧
                                                                                                                                           ∀ w181 : World,
                                                                                                                                           (w181 = World.setCell w179 (Addr.mk (Array.size (World.heap w)) 0 none) (Value.slice l180.1 l180.2 l180.3) →
                                                                                                                                             (I109 (IntKind.wrap IntKind.i64 (n111 + n158)) (IntKind.wrap IntKind.i64 (n112 + 1)) w181 ∧
                                                                                                                                              I110 (IntKind.wrap IntKind.i64 (n111 + n158)) (IntKind.wrap IntKind.i64 (n112 + 1)) w181 < I110 n111 n112 w113))))))))))))))))))))))))))))))))))))))))))))))) ∧
                                                                                 (decide (n112 < (↑l49.2 : Int)) = false →
                                                                                   ∃ n182 : Int, (World.cell? w113 (Addr.mk (Array.size (World.heap w2)) 1 none) = some (Value.int IntKind.i64 n182) ∧
                                                                                    Calls Tryd.prog (41 : Nat) (Array.mk [Value.bool (n182 == n31), Value.int IntKind.i64 3]) (w113) (fun e183 w184 =>
                                                                                      (e183 = Ending.returned (Value.tuple (Array.mk [])) ∧
                                                                                       ∃ l185 : Sl, (World.cell? w184 (Addr.mk (Array.size (World.heap w)) 0 none) = some (Value.slice l185.1 l185.2 l185.3) ∧
                                                                                        Calls Tryd.prog (16 : Nat) (Array.mk [Value.slice l185.1 l185.2 l185.3]) (w184) (fun e186 w187 =>
                                                                                          ∃ n188 : Int, (e186 = Ending.returned (Value.int IntKind.i64 n188) ∧
                                                                                           ((((n188 != 0) = true →
                                                                                              (Wr w187 (Addr.mk (Array.size (World.heap w)) 0 none) ∧
                                                                                               ∀ w189 : World,
                                                                                               (w189 = World.setCell w187 (Addr.mk (Array.size (World.heap w)) 0 none) (Value.slice none 0 0) →
                                                                                                 (Wr w189 (Addr.mk (Array.size (World.heap w1)) 0 none) ∧
                                                                                                  ∀ w190 : World,
                                                                                                  (w190 = World.setCell w189 (Addr.mk (Array.size (World.heap w1)) 0 none) (Value.int IntKind.i64 n188) →
                                                                                                    CallsD Tryd.prog (38 : Nat) (Array.mk [Value.pointer (some (Addr.mk (Array.size (World.heap w)) 0 none)), Value.pointer (some (Addr.mk (Array.size (World.heap w1)) 0 none))]) (FrameMode.returning) (w190) (fun e191 z192 w193 =>
                                                                                                      ((∃ v194 : Value, e191 = Ending.returned v194) ∧
                                                                                                       (z192 = FrameMode.returning ∧
                                                                                                        ∃ l195 : Sl, (Sem.run Tryd.prog (loadVar 22 (Addr.mk (Array.size (World.heap w)) 0 none)) w193 = Result.ok (Value.slice l195.1 l195.2 l195.3) w193 ∧
                                                                                                         ∃ n196 : Int, (Sem.run Tryd.prog (loadVar 24 (Addr.mk (Array.size (World.heap w1)) 0 none)) w193 = Result.ok (Value.int IntKind.i64 n196) w193 ∧
                                                                                                          R (Value.tuple (Array.mk [Value.slice l195.1 l195.2 l195.3, Value.int IntKind.i64 n196])) w193))))))))))) ∧
                                                                                            ((n188 != 0) = false →
                                                                                              ∃ l197 : Sl, (World.cell? w187 (Addr.mk (Array.size (World.heap w)) 0 none) = some (Value.slice l197.1 l197.2 l197.3) ∧
                                                                                               (Wr w187 (Addr.mk (Array.size (World.heap w)) 0 none) ∧
                                                                                                ∀ w198 : World,
                                                                                                (w198 = World.setCell w187 (Addr.mk (Array.size (World.heap w)) 0 none) (Value.slice l197.1 l197.2 l197.3) →
                                                                                                  (Wr w198 (Addr.mk (Array.size (World.heap w1)) 0 none) ∧
                                                                                                   ∀ w199 : World,
                                                                                                   (w199 = World.setCell w198 (Addr.mk (Array.size (World.heap w1)) 0 none) (Value.int IntKind.i64 0) →
                                                                                                     CallsD Tryd.prog (38 : Nat) (Array.mk [Value.pointer (some (Addr.mk (Array.size (World.heap w)) 0 none)), Value.pointer (some (Addr.mk (Array.size (World.heap w1)) 0 none))]) (FrameMode.returning) (w199) (fun e200 z201 w202 =>
                                                                                                       ((∃ v203 : Value, e200 = Ending.returned v203) ∧
                                                                                                        (z201 = FrameMode.returning ∧
                                                                                                         ∃ l204 : Sl, (Sem.run Tryd.prog (loadVar 22 (Addr.mk (Array.size (World.heap w)) 0 none)) w202 = Result.ok (Value.slice l204.1 l204.2 l204.3) w202 ∧
                                                                                                          ∃ n205 : Int, (Sem.run Tryd.prog (loadVar 24 (Addr.mk (Array.size (World.heap w1)) 0 none)) w202 = Result.ok (Value.int IntKind.i64 n205) w202 ∧
                                                                                                           R (Value.tuple (Array.mk [Value.slice l204.1 l204.2 l204.3, Value.int IntKind.i64 n205])) w202)))))))))))))))))))))))))))))))))))))))))))))))))))))))))))))))))))))))))
theorem vc_zip_Read_ok {x0 : ByteArray} {w : World} {R : Value → World → Prop} {R' : Ending → World → Prop} (h : vc_zip_Read x0 w R) (hR : ∀ v w', R v w' → R' (.returned v) w') :
    Calls Tryd.prog 18 #[.string x0] w R' :=
  calls_of_bodyD (vs := [(.string x0, false)]) (ty := ty) (ann := ⟨[(12, [])], [(16, [(9, .slice), (75, .int .i64)]), (28, [(11, .int .i64), (129, .int .i64)])], [(24, .held [(0, true), (1, true), (2, true), (3, true), (4, true), (5, true), (6, true), (7, true), (8, true), (9, true), (10, false)]), (30, .held [(0, true), (1, true), (2, true), (3, true), (4, true), (5, true), (6, true), (7, false)]), (32, .held [(0, true), (2, true), (3, true), (1, false), (4, true), (5, false)]), (37, .held [(0, true), (1, true), (2, true), (4, true), (3, true), (5, false), (6, true), (7, false), (8, false), (9, false)])], []⟩) (c := Tryd.f18.body.getD .skip) (by kernel_rfl) Tryd.func18 (by kernel_rfl) (by kernel_rfl) (Eq.mp (by kernel_rfl) h) hR
end Go.Proofs.YtfoeooddnmppnaaDoor

/- zip.Read of an archive that is right. Conditions: texts no longer than memory; what is inflated is told by the caller. -/
set_option linter.unusedVariables false
namespace Go.Proofs.YtfoeooddnmppnaaDoor
open Go Vc SumM Go.Proofs

theorem load_one {w : World} {a : Addr} {T : TypeId} {v : Value} (hu : pureRun Tryd.prog (isAgg T) = some false) (hc : w.cell? a = some v) : (loadVar T a).run Tryd.prog w = .ok v w := by
  unfold loadVar
  rw [Sem.run_bind, pureRun_spec hu w]
  simp [Result.andThen, hc]
/-- What Read keeps in memory: its results' variables; nothing of the elder heap is turned. -/
structure ZSt (w : World) (lf : Sl) (w' : World) : Prop where
  fr : Fr (fun q => w.heap.size ≤ q) w w'
  A : w'.heap[w.heap.size]? = some (.cells #[.slice lf.a lf.len lf.cap] T_S_api_File (0, 0))
  E : w'.heap[w.heap.size + 1]? = some (.cells #[.int .i64 0] T_api_Errno (0, 0))
theorem ZSt.step {w w' w'' : World} {lf : Sl} (h : ZSt w lf w') {X : Nat → Prop} (hf : Fr X w' w'') (hx : ∀ q, q < w'.heap.size → X q → w.heap.size + 2 ≤ q) : ZSt w lf w'' := by
  have hA := lt_blk h.A
  have hE := lt_blk h.E
  refine ⟨h.fr.trans hf fun q hq hX => ?_, hf.keep h.A fun hX => ?_, hf.keep h.E fun hX => ?_⟩
  · have := hx q (by have := h.fr.size; omega) hX; omega
  · have := hx _ hA hX; omega
  · have := hx _ hE hX; omega
theorem ZSt.step0 {w w' w'' : World} {lf : Sl} (h : ZSt w lf w') (hf : Fr (fun _ => False) w' w'') : ZSt w lf w'' := h.step hf fun _ _ h => h.elim
theorem ZSt.stepB {w w' w'' : World} {lf : Sl} (h : ZSt w lf w') {B : Nat} (hf : Fr (· = B) w' w'') (hB : w.heap.size + 2 ≤ B) : ZSt w lf w'' := h.step hf fun q _ e => by omega
/-- An archive that is right. -/
structure GoodZ (es : List EntZ) (s : ByteArray) : Prop where
  text : s.data.toList = arcZ es
  size : s.size ≤ 2097152
  chk : zchk (es.map filZ) = 0
  unp : ∀ x ∈ es, UnpZ x
theorem GoodZ.bounds {es : List EntZ} {s : ByteArray} (h : GoodZ es s) : es.length ≤ 600 ∧ totalF (es.map filZ) ≤ 1048576 ∧ (outZ es).length + (idxZ 0 es).length + 22 = s.size ∧ ∀ x ∈ es, x.path.size ≤ 200 ∧ x.method < 65536 ∧ x.packed.size ≤ 2097152 ∧ x.data.size ≤ 1048576 := by
  obtain ⟨h1, h2, h3⟩ := zchk_ok h.chk
  rw [List.length_map] at h1
  refine ⟨h1, h2, ?_, fun x hx => ?_⟩
  · rw [← bs_len, h.text]
    unfold arcZ
    rw [List.length_append, List.length_append, endL_len]; omega
  · have hc := h3 (filZ x) (List.mem_map_of_mem hx)
    obtain ⟨u1, u2, u3⟩ := h.unp x hx
    unfold cleanB at hc
    simp only [Bool.and_eq_true, decide_eq_true_eq] at hc
    refine ⟨by have : (filZ x).path = x.path := rfl; rw [this] at hc; omega, ?_, u2, u1⟩
    rcases u3 with ⟨hm, _⟩ | ⟨hm, _⟩ <;> omega
set_option maxHeartbeats 1600000 in
theorem zread_spec {es : List EntZ} {s : ByteArray} (hg : GoodZ es s) (w : World) :
    Calls Tryd.prog F_zip_Read #[.string s] w fun e w' => ∃ l : Sl, e = .returned (.tuple #[.slice l.a l.len l.cap, .int .i64 0]) ∧ OwnK encF 2 w' w.heap.size T_api_File l (es.map filZ) ∧ Fr (fun _ => False) w w' := by
  refine vc_zip_Read_ok (R := fun v w' => ∃ l : Sl, v = .tuple #[.slice l.a l.len l.cap, .int .i64 0] ∧ OwnK encF 2 w' w.heap.size T_api_File l (es.map filZ) ∧ Fr (fun _ => False) w w') ?_ (fun v w' ⟨l, h⟩ => ⟨l, by rw [h.1], h.2⟩)
  obtain ⟨hn600, htot, hsz, hx⟩ := hg.bounds
  have hss := hg.size
  have hsb : s.size ≤ 4611686018427387904 := by omega
  intro w1 h1 w2 h2
  have s1 : w1.heap.size = w.heap.size + 1 := by rw [h1]; simp
  have s2 : w2.heap.size = w.heap.size + 2 := by rw [h2]; simp [s1]
  have z2 : ZSt w ⟨none, 0, 0⟩ w2 := by
    refine ⟨((by rw [h1]; exact .alloc _ _ _ : Fr (fun q => w.heap.size ≤ q) w w1)).trans' (by rw [h2]; exact .alloc _ _ _), ?_, ?_⟩
    · rw [h2]; exact (Fr.alloc (fun _ => False) w1 _).keep (by rw [h1]; exact alloc_new w _) (by simp)
    · rw [h2, ← s1]; exact alloc_new w1 _
  refine ⟨fun h => absurd (of_decide_eq_true h) (by omega), fun _ => ⟨fun h => absurd (of_decide_eq_true h) (by omega), fun _ w11 h11 => ?_⟩⟩
  have e22 : IntKind.i64.wrap ((s.size : Int) - 22) = ((s.size - 22 : Nat) : Int) := by rw [wrap_i64 (by omega) (by omega)]; omega
  rw [e22] at h11
  rw [s2, s1]
  have z11 : ZSt w ⟨none, 0, 0⟩ w11 := z2.step0 (by rw [h11]; exact .alloc _ _ _)
  have r11 : RdR w11 (w.heap.size + 2) s (endL es.length (idxZ 0 es).length (outZ es).length) (s.size - 22) := by
    refine ⟨by rw [h11, ← s2]; exact alloc_new w2 _, ?_, by omega⟩
    rw [hg.text]
    unfold arcZ
    rw [← List.append_assoc, List.drop_append, List.drop_of_length_le (by rw [List.length_append]; omega), List.nil_append, List.length_append, show s.size - 22 - ((outZ es).length + (idxZ 0 es).length) = 0 by omega, List.drop_zero]
  clear h1 h2 h11 z2
  have hB2 : w.heap.size + 2 ≤ w.heap.size + 2 := Nat.le_refl _
  have c4 : ∀ u v p q : UInt8, (ByteArray.mk #[u, v, p, q]).size = 4 := fun _ _ _ _ => rfl
  have hE : endL es.length (idxZ 0 es).length (outZ es).length = ([80, 75, 5, 6] ++ littleB 2 0 ++ littleB 2 0) ++ (littleB 2 es.length ++ (littleB 2 es.length ++ (littleB 4 (idxZ 0 es).length ++ (littleB 4 (outZ es).length ++ (littleB 2 0 ++ []))))) := by
    unfold endL; simp only [List.append_assoc, List.append_nil]
  rw [hE] at r11
  refine (two_spec 0 (by decide) w11).mono ?_
  rintro e w13 ⟨rfl, f13⟩
  refine ⟨_, rfl, by simp only [le_size, c4]; omega, (two_spec 0 (by decide) w13).mono ?_⟩
  rintro e w16 ⟨rfl, f16⟩
  refine ⟨_, rfl, by simp only [ByteArray.size_append, le_size, c4]; omega, (wantL_spec (r11.keep (f13.trans' f16) (by simp)) (by simp only [bs_app]) hsb).mono ?_⟩
  rintro e w19 ⟨rfl, r19, f19⟩
  refine ⟨rfl, (number_spec r19 (by decide) (by omega) hsb).mono ?_⟩
  rintro e w21 ⟨rfl, r21, f21⟩
  refine ⟨_, rfl, (number_spec r21 (by decide) (by omega) hsb).mono ?_⟩
  rintro e w24 ⟨rfl, r24, f24⟩
  refine ⟨_, rfl, (number_spec r24 (by decide) (by omega) hsb).mono ?_⟩
  rintro e w27 ⟨rfl, r27, f27⟩
  refine ⟨_, rfl, (number_spec r27 (by decide) (by omega) hsb).mono ?_⟩
  rintro e w30 ⟨rfl, r30, f30⟩
  refine ⟨_, rfl, (two_spec 0 (by decide) w30).mono ?_⟩
  rintro e w33 ⟨rfl, f33⟩
  refine ⟨_, rfl, (wantL_spec (r30.keep f33 (by simp)) (by simp only) hsb).mono ?_⟩
  rintro e w36 ⟨rfl, r36, f36⟩
  have z36 : ZSt w ⟨none, 0, 0⟩ w36 := ((((((((z11.step0 (f13.trans' f16)).stepB f19 hB2).stepB f21 hB2).stepB f24 hB2).stepB f27 hB2).stepB f30 hB2).step0 f33)).stepB f36 hB2
  have b36 := r36.1
  clear r11 r19 r21 r24 r27 r30 r36 f13 f16 f19 f21 f24 f27 f30 f33 f36 z11
  obtain ⟨v36, hv36⟩ : ∃ v : Array Value, w36.heap[w.heap.size + 2]? = some (.cells v T_zip_reader (0, 0)) ∧ v.size = 2 := ⟨_, b36, rfl⟩
  clear b36
  obtain ⟨hv36, hvs⟩ := hv36
  have ef : IntKind.i64.wrap (((outZ es).length : Int) + ((idxZ 0 es).length : Int)) = ((s.size - 22 : Nat) : Int) := by rw [wrap_i64 (by omega) (by omega)]; omega
  refine ⟨rfl, fun w' => w' = w36, ⟨fun _ => (must_spec (by rw [ef, e22]; simp) 3 w36).mono ?_, fun h => by simp at h⟩, ?_⟩
  · rintro e w39 ⟨rfl, rfl⟩; exact ⟨rfl, rfl⟩
  rintro w42 rfl
  refine (must_spec (decide_eq_true (by omega)) 2 w42).mono ?_
  rintro e w44 ⟨rfl, rfl⟩
  rw [e22, Int.toNat_natCast]
  refine ⟨rfl, ⟨by omega, by omega⟩, wr_blk hv36 (by omega), fun w45 h45 => ?_⟩
  obtain ⟨s1', hs1'⟩ : ∃ x : ByteArray, s.extract 0 (s.size - 22) = x := ⟨_, rfl⟩
  rw [hs1'] at h45
  have hb45 : w45.heap[w.heap.size + 2]? = some (.cells (v36.setIfInBounds 0 (.string s1')) T_zip_reader (0, 0)) := by rw [h45, set_blk hv36]
  have hs1l : s1'.data.toList = outZ es ++ idxZ 0 es := by
    rw [← hs1', bs_head, hg.text]
    unfold arcZ
    rw [← List.append_assoc, List.take_append_of_le_length (by rw [List.length_append]; omega), List.take_of_length_le (by rw [List.length_append]; omega)]
  have hs1s : s1'.size = s.size - 22 := by rw [← bs_len, hs1l, List.length_append]; omega
  refine ⟨wr_blk hb45 (by simp [hvs]), fun w46 h46 => ?_⟩
  have hb46 : w46.heap[w.heap.size + 2]? = some (.cells #[.string s1', .int .i64 ((outZ es).length : Int)] T_zip_reader (0, 0)) := by
    rw [h46, set_blk hb45]
    congr 2
    refine Array.ext' ?_
    obtain ⟨a0, a1, ha⟩ : ∃ a0 a1, v36.toList = [a0, a1] := by
      obtain ⟨l⟩ := v36
      match l, hvs with
      | [a0, a1], _ => exact ⟨a0, a1, rfl⟩
    rw [Array.toList_setIfInBounds, Array.toList_setIfInBounds, ha]; rfl
  have f45 : Fr (· = w.heap.size + 2) w44 w45 := by rw [h45]; exact Fr.set (· = w.heap.size + 2) w44 (a := ⟨w.heap.size + 2, 0, none⟩) _ rfl
  have f46 : Fr (· = w.heap.size + 2) w45 w46 := by rw [h46]; exact Fr.set (· = w.heap.size + 2) w45 (a := ⟨w.heap.size + 2, 1, none⟩) _ rfl
  have z46 : ZSt w ⟨none, 0, 0⟩ w46 := (z36.stepB f45 hB2).stepB f46 hB2
  have r46 : RdR w46 (w.heap.size + 2) s1' (idxZ 0 es) (outZ es).length := ⟨hb46, by rw [hs1l]; exact List.drop_left, by omega⟩
  clear hb45 hb46 h45 h46 hv36 z36 f45 f46
  generalize hBB : w.heap.size + 2 = B at *
  have hel : ∀ k, ((entsZ 0 es).take k).length ≤ 600 := fun k => by rw [List.length_take, entsZ_length]; omega
  refine ⟨fun l i w' => ∃ k kk : Nat, i = k ∧ k ≤ es.length ∧ ZSt w ⟨none, 0, 0⟩ w' ∧ RdR w' B s1' (idxZ (outZ (es.take k)).length (es.drop k)) kk ∧ OwnK encT 7 w' (B + 1) T_zip_entry l ((entsZ 0 es).take k), fun l i _ => es.length - i.toNat,
    ⟨0, (outZ es).length, rfl, Nat.zero_le _, z46, r46, by rw [List.take_zero]; exact OwnK.nil _ _ _⟩, ?_⟩
  clear z46 r46
  rintro l i w51 ⟨k, kk, rfl, hk, z51, r51, o51⟩
  refine ⟨fun hlt => ?_, fun hge => ?_⟩
  · have hlt := of_decide_eq_true hlt
    have hkl : k < es.length := by omega
    have hxk : es[k]? = some es[k] := List.getElem?_eq_getElem hkl
    generalize es[k] = x at hxk
    obtain ⟨hx1, hx2, hx3, hx4⟩ := hx x (List.mem_of_getElem? hxk)
    have hcr := (crcW x.data.data.toList).isLt
    have hok : (outZ (es.take k)).length ≤ 2097152 := by
      have := congrArg List.length (outZ_drop es k)
      rw [List.length_append] at this
      omega
    rw [idxZ_drop hxk] at r51
    generalize hrest : idxZ (outZ (es.take (k + 1))).length (es.drop (k + 1)) = rest at r51
    have hcen : cenZ x (outZ (es.take k)).length ++ rest = ([80, 75, 1, 2] ++ littleB 2 20) ++ (factZ x ++ ((littleB 2 0 ++ littleB 2 0 ++ littleB 2 0 ++ littleB 4 0) ++ (littleB 4 (outZ (es.take k)).length ++ (x.path.data.toList ++ rest)))) := by
      unfold cenZ; simp only [List.append_assoc]
    rw [hcen] at r51
    refine (two_spec 20 (by decide) w51).mono ?_
    rintro e w53 ⟨rfl, f53⟩
    refine ⟨_, rfl, by simp only [le_size, c4]; omega, (wantL_spec (r51.keep f53 (by simp)) (by simp only [bs_app]) (by omega)).mono ?_⟩
    rintro e w56 ⟨rfl, r56, f56⟩
    refine ⟨rfl, (head_spec r56 hx2 hcr (by omega) (by omega) (by omega) (by omega)).mono ?_⟩
    rintro e w58 ⟨rfl, r58, f58⟩
    refine ⟨_, _, _, _, _, rfl, fun w64 h64 => ?_⟩
    have hCB := lt_blk r58.1
    have f64 : Fr (fun _ => False) w58 w64 := by rw [h64]; exact .alloc _ _ _
    have hC64 : w64.heap[w58.heap.size]? = some (.cells #[.int .i64 0, .int .u32 0, .int .i64 0, .int .i64 0, .int .i64 0, .string ⟨#[]⟩, .int .i64 0] T_zip_entry (0, 0)) := by rw [h64]; exact alloc_new _ _
    have s51 := ((f53.mono (Y := (· = B)) fun _ _ h => h.elim).trans' (f56.trans' f58)).size
    have z58 := (((z51.step0 f53).stepB f56 (by omega)).stepB f58 (by omega))
    have o58 := ((o51.keep f53 (by simp)).keep f56 fun q hq e => by have := (o51.blk hq).1; omega).keep f58 fun q hq e => by have := (o51.blk hq).1; omega
    have ho58 : ∀ q, l.a = some q → q.block < w51.heap.size := fun q hq => (o51.blk hq).2
    clear h64
    obtain ⟨w65, hrun65, hC65, f65⟩ := box_store (headZ x ++ [.string ⟨#[]⟩, .int .i64 0]) hC64 (by kernel_rfl) rfl (fun v hv => by
      rcases List.mem_append.1 hv with h | h
      · exact headV_one _ _ _ _ _ v h
      · simp only [List.mem_cons, List.mem_nil_iff, or_false] at h
        rcases h with rfl | rfl <;> rfl)
    generalize w58.heap.size = C at *
    refine ⟨w65, hrun65, (two_spec 0 (by decide) w65).mono ?_⟩
    have r65 := (r58.keep f64 (by simp)).keep f65 (by omega)
    have z65 := (z58.step0 f64).stepB f65 (by omega)
    have o65 := (o58.keep f64 (by simp)).keep f65 fun q hq e => by have := ho58 q hq; omega
    rintro e w67 ⟨rfl, f67⟩
    refine ⟨_, rfl, (two_spec 0 (by decide) w67).mono ?_⟩
    rintro e w70 ⟨rfl, f70⟩
    refine ⟨_, rfl, by simp only [le_size]; omega, (two_spec 0 (by decide) w70).mono ?_⟩
    rintro e w73 ⟨rfl, f73⟩
    refine ⟨_, rfl, by simp only [ByteArray.size_append, le_size]; omega, (four_spec 0 (by decide) w73).mono ?_⟩
    rintro e w76 ⟨rfl, f76⟩
    have f65_76 := ((f67.trans' f70).trans' f73).trans' f76
    refine ⟨_, rfl, by simp only [ByteArray.size_append, le_size]; omega, (wantL_spec (r65.keep f65_76 (by simp)) (by simp only [bs_app]) (by omega)).mono ?_⟩
    rintro e w79 ⟨rfl, r79, f79⟩
    refine ⟨rfl, (number_spec r79 (by decide) (by omega) (by omega)).mono ?_⟩
    rintro e w81 ⟨rfl, r81, f81⟩
    have f76_81 := f79.trans' f81
    have hC81 := f76_81.keep (f65_76.keep hC65 (by simp)) (by omega)
    have z81 := (z65.step0 f65_76).stepB f76_81 (by omega)
    have o81 := (o65.keep f65_76 (by simp)).keep f76_81 fun q hq e => by have := (o51.blk hq).1; omega
    refine ⟨_, rfl, wr_blk hC81 (Nat.lt_of_lt_of_eq (by decide : 6 < 7) rfl), fun w83 h83 => ?_⟩
    have hC83 : w83.heap[C]? = some (.cells (headZ x ++ [Value.string ⟨#[]⟩, Value.int .i64 ((outZ (es.take k)).length : Int)]).toArray T_zip_entry (0, 0)) := by rw [h83, set_blk hC81]; rfl
    have f83 : Fr (· = C) w81 w83 := by rw [h83]; exact Fr.set (· = C) w81 (a := ⟨C, 6, none⟩) _ rfl
    refine ⟨x.path.size, by rw [cell_blk hC83]; rfl, (take_spec (r81.keep f83 (by omega)) (bs_len x.path) (by omega)).mono ?_⟩
    rintro e w86 ⟨rfl, r86, f86⟩
    have hC86 := f86.keep hC83 (by omega)
    refine ⟨_, rfl, wr_blk hC86 (Nat.lt_of_lt_of_eq (by decide : 5 < 7) rfl), fun w88 h88 => ?_⟩
    have hC88 : w88.heap[C]? = some (.cells (encT (x, (outZ (es.take k)).length)).toArray T_zip_entry (0, 0)) := by rw [h88, set_blk hC86, bs_self]; rfl
    have f88 : Fr (· = C) w86 w88 := by rw [h88]; exact Fr.set (· = C) w86 (a := ⟨C, 5, none⟩) _ rfl
    have z88 := ((z81.stepB f83 (by omega)).stepB f86 (by omega)).stepB f88 (by omega)
    have o88 := ((o81.keep f83 fun q hq e => by have := ho58 q hq; omega).keep f86 fun q hq e => by have := (o51.blk hq).1; omega).keep f88 fun q hq e => by have := ho58 q hq; omega
    have r88 := r86.keep f88 (by omega)
    refine ⟨_, _, _, _, _, _, _, box_load hC88 (by kernel_rfl) (by kernel_rfl), fun w96 h96 => ?_⟩
    have hb88 := lt_blk r88.1
    obtain ⟨w97, l98, hr97, o97, f97, _⟩ := append_oneK elT o88 (x := (x, (outZ (es.take k)).length)) (by have := hel k; unfold maxLen; omega) (by have := hel k; omega) (by omega) h96
    have e1 : IntKind.i64.wrap ((k : Int) + 1) = ((k + 1 : Nat) : Int) := by rw [wrap_i64 (by omega) (by omega)]; omega
    rw [e1]
    have hent : (entsZ 0 es).take (k + 1) = (entsZ 0 es).take k ++ [(x, (outZ (es.take k)).length)] := by
      rw [List.take_add_one, entsZ_get 0 es k x hxk, Nat.zero_add]; rfl
    refine ⟨w97, l98, hr97, ⟨k + 1, _, rfl, by omega, z88.step f97 ?_, by rw [hrest]; exact r88.keep f97 (by rintro ⟨y, hy, e⟩; have := (o51.blk hy).1; omega), by rw [hent]; exact o97⟩, by dsimp only; omega⟩
    rintro q _ ⟨y, hy, e⟩; have := (o51.blk hy).1; omega
  · have hge := of_decide_eq_false hge
    have hk' : k = es.length := by omega
    subst hk'
    rw [List.drop_length] at r51
    rw [List.take_of_length_le (by rw [entsZ_length]; exact Nat.le_refl _)] at o51
    have hkk := r51.size
    intro w99 d99
    have f99 : Fr (fun _ => False) w51 w99 := .drew _ d99
    have z99 := z51.step0 f99
    have r99 := r51.keep f99 (by simp)
    have o99 := o51.keep f99 (by simp)
    refine ⟨fun w' => RdR w' B s1' [] kk, r99, kk, fun w' h => by rw [cell_blk h.1]; rfl, s1', fun w' h => by rw [cell_blk h.1]; rfl, (must_spec (by simp only [idxZ, List.length_nil] at hkk; rw [← hkk]; simp) 3 w99).mono ?_⟩
    rintro e w106 ⟨rfl, rfl⟩
    refine ⟨rfl, ⟨by omega, by omega⟩, wr_blk r99.1 (Nat.lt_of_lt_of_eq (by decide : 0 < 2) rfl), fun w107 h107 => ?_⟩
    rw [Int.toNat_natCast] at h107
    obtain ⟨s2', hs2'⟩ : ∃ x : ByteArray, s.extract 0 (outZ es).length = x := ⟨_, rfl⟩
    rw [hs2'] at h107
    have hb107 : w107.heap[B]? = some (.cells #[.string s2', .int .i64 (kk : Int)] T_zip_reader (0, 0)) := by rw [h107, set_blk r99.1]; rfl
    have f107 : Fr (· = B) w106 w107 := by rw [h107]; exact Fr.set (· = B) w106 (a := ⟨B, 0, none⟩) _ rfl
    refine ⟨wr_blk hb107 (Nat.lt_of_lt_of_eq (by decide : 1 < 2) rfl), fun w108 h108 => ?_⟩
    have hb108 : w108.heap[B]? = some (.cells #[.string s2', .int .i64 ((0 : Nat) : Int)] T_zip_reader (0, 0)) := by rw [h108, set_blk hb107]; rfl
    have f108 : Fr (· = B) w107 w108 := by rw [h108]; exact Fr.set (· = B) w107 (a := ⟨B, 1, none⟩) _ rfl
    have hs2l : s2'.data.toList = outZ es := by
      rw [← hs2', bs_head, hg.text]
      unfold arcZ
      exact List.take_left
    have z108 := (z99.stepB f107 (by omega)).stepB f108 (by omega)
    have hlB : ∀ q, l.a = some q → B + 1 ≤ q.block := fun q hq => (o51.blk hq).1
    have o108 := (o99.keep f107 fun q hq e => by have := hlB q hq; omega).keep f108 fun q hq e => by have := hlB q hq; omega
    have r108 : RdR w108 B s2' (outZ es) 0 := ⟨hb108, by rw [hs2l]; rfl, Nat.zero_le _⟩
    have hs2s : s2'.size = (outZ es).length := by rw [← bs_len, hs2l]
    clear hb107 hb108 h107 h108 f107 f108 o51 r51 z51 z99 r99 o99 f99
    have hll : l.len = es.length := by have := o108.len; rw [entsZ_length] at this; exact this
    have hlw := fun q hq => (o108.blk (x := q) hq).2
    refine ⟨fun all i w' => ∃ (k : Nat) (lf : Sl), i = k ∧ k ≤ es.length ∧ all = (totalF ((es.map filZ).take k) : Int) ∧ ZSt w lf w' ∧ RdR w' B s2' (outZ (es.drop k)) (outZ (es.take k)).length ∧ OwnK encT 7 w' (B + 1) T_zip_entry l (entsZ 0 es) ∧ OwnK encF 2 w' (B + 1) T_api_File lf ((es.map filZ).take k) ∧ (∀ p q, l.a = some p → lf.a = some q → p.block ≠ q.block), fun all i _ => es.length - i.toNat,
      ⟨0, ⟨none, 0, 0⟩, rfl, Nat.zero_le _, rfl, z108, r108, o108, OwnK.nil _ _ _, fun p q hp hq => by cases hq⟩, ?_⟩
    clear z108 r108 o108
    rintro all i w113 ⟨k, lf, rfl, hk, rfl, z113, r113, o113, p113, hdis⟩
    have hBw := lt_blk r113.1
    refine ⟨fun hlt => ?_, fun hge => ?_⟩
    · have hlt := of_decide_eq_true hlt
      have hkl : k < es.length := by omega
      have hxk : es[k]? = some es[k] := List.getElem?_eq_getElem hkl
      generalize es[k] = x at hxk
      have hxm := List.mem_of_getElem? hxk
      obtain ⟨hx1, hx2, hx3, hx4⟩ := hx x hxm
      have hcr := (crcW x.data.data.toList).isLt
      have hyk : (es.map filZ)[k]? = some (filZ x) := by rw [List.getElem?_map, hxk]; rfl
      have hT1 := totalF_take hyk
      have hT2 := totalF_le (es.map filZ) (k + 1)
      have hxd : (filZ x).data.size = x.data.size := rfl
      rw [hxd] at hT1
      obtain ⟨off, hoff⟩ : ∃ o, (outZ (es.take k)).length = o := ⟨_, rfl⟩
      have hok : off ≤ 2097152 := by
        have := congrArg List.length (outZ_drop es k)
        rw [List.length_append] at this
        omega
      have hent := entsZ_get 0 es k x hxk
      rw [Nat.zero_add, hoff] at hent
      rw [hoff] at r113
      obtain ⟨a114, ha114, hrun114⟩ := (o113.reads elT.len).load elT hent
      rw [Int.toNat_natCast]
      refine ⟨⟨by omega, by omega⟩, a114, ha114, _, _, _, _, _, _, _, hrun114, fun w122 h122 => ?_⟩
      have f122 : Fr (fun _ => False) w113 w122 := by rw [h122]; exact .alloc _ _ _
      have hD122 : w122.heap[w113.heap.size]? = some (.cells #[.int .i64 0, .int .u32 0, .int .i64 0, .int .i64 0, .int .i64 0, .string ⟨#[]⟩, .int .i64 0] T_zip_entry (0, 0)) := by rw [h122]; exact alloc_new _ _
      clear h122
      obtain ⟨w123, hrun123, hD123, f123⟩ := box_store (encT (x, off)) hD122 (by kernel_rfl) rfl (encT_one _)
      have hlD : ∀ q, l.a = some q → q.block < w113.heap.size := fun q hq => (o113.blk hq).2
      have hpD : ∀ q, lf.a = some q → q.block < w113.heap.size := fun q hq => (p113.blk hq).2
      have hlB' : ∀ q, l.a = some q → B + 1 ≤ q.block := fun q hq => (o113.blk hq).1
      have hpB : ∀ q, lf.a = some q → B + 1 ≤ q.block := fun q hq => (p113.blk hq).1
      generalize hDD : w113.heap.size = D at *
      have z123 := (z113.step0 f122).stepB f123 (by omega)
      have r123 := (r113.keep f122 (by simp)).keep f123 (by omega)
      have o123 := (o113.keep f122 (by simp)).keep f123 fun q hq e => by have := hlD q hq; omega
      have p123 := (p113.keep f122 (by simp)).keep f123 fun q hq e => by have := hpD q hq; omega
      refine ⟨w123, hrun123, fun w124 d124 => ?_⟩
      have f124 : Fr (fun _ => False) w123 w124 := .drew _ d124
      have hD124 := f124.keep hD123 (by simp)
      have z124 := z123.step0 f124
      have r124 := r123.keep f124 (by simp)
      have o124 := o123.keep f124 (by simp)
      have p124 := p123.keep f124 (by simp)
      clear z113 r113 o113 p113 z123 r123 o123 p123 f122 f123 hD122 hD123
      have hc : ∀ {w' : World}, w'.heap[D]? = some (.cells (encT (x, off)).toArray T_zip_entry (0, 0)) → ∀ {j : Nat} {v : Value}, (encT (x, off))[j]? = some v → w'.cell? ⟨D, j, none⟩ = some v := fun hf j v hv => by
        rw [cell_blk hf]; simpa using hv
      rw [outZ_at hxk] at r124
      obtain ⟨rest, hrest⟩ : ∃ r, outZ (es.drop (k + 1)) = r := ⟨_, rfl⟩
      rw [hrest] at r124
      have hlz : locZ x ++ rest = [80, 75, 3, 4] ++ (factZ x ++ (x.path.data.toList ++ (x.packed.data.toList ++ rest))) := by
        unfold locZ; simp only [List.append_assoc]
      rw [hlz] at r124
      refine ⟨fun w' => w' = w124, rfl, off, fun w' e => by rw [e]; exact hc hD124 (j := 6) rfl, off, fun w' e => by rw [e, cell_blk r124.1]; rfl, (must_spec (by simp) 3 w124).mono ?_⟩
      rintro e w131 ⟨rfl, rfl⟩
      refine ⟨rfl, (wantL_spec r124 rfl (by omega)).mono ?_⟩
      rintro e w133 ⟨rfl, r133, f133⟩
      have hD133 := f133.keep hD124 (by omega)
      refine ⟨rfl, fun w134 d134 => ?_⟩
      have f134 : Fr (fun _ => False) w133 w134 := .drew _ d134
      have hD134 := f134.keep hD133 (by simp)
      have hld76 : ∀ {w' : World}, w'.heap[D]? = some (.cells (encT (x, off)).toArray T_zip_entry (0, 0)) → (loadVar T_zip_head ⟨D, 0, none⟩).run Tryd.prog w' = .ok (.agg (headZ x).toArray) w' := fun h =>
        load_agg (agg_of (by kernel_rfl)) (by kernel_rfl) fun j v hv => by
          rw [show (⟨D, 0, none⟩ : Addr).add j = ⟨D, j, none⟩ by rw [add_lit, Nat.zero_add]]
          refine hc h ?_
          unfold encT
          rw [List.getElem?_append_left (List.getElem?_eq_some_iff.1 hv).1]
          exact hv
      refine ⟨fun w' => w'.heap[D]? = some (.cells (encT (x, off)).toArray T_zip_entry (0, 0)), hD134, _, _, _, _, _, fun w' h => hld76 h, (head_spec (r133.keep f134 (by simp)) hx2 hcr (by omega) (by omega) (by omega) (by omega)).mono ?_⟩
      rintro e w143 ⟨rfl, r143, f143⟩
      have hD143 := f143.keep hD134 (by omega)
      refine ⟨_, _, _, _, _, rfl, hD143, (must_spec (by simp) 3 w143).mono ?_⟩
      rintro e w150 ⟨rfl, rfl⟩
      refine ⟨rfl, x.path, hc hD143 (j := 5) rfl, (wantL_spec r143 rfl (by omega)).mono ?_⟩
      rintro e w153 ⟨rfl, r153, f153⟩
      have hD153 := f153.keep hD143 (by omega)
      refine ⟨rfl, x.packed.size, hc hD153 (j := 2) rfl, (take_spec r153 (bs_len _) (by omega)).mono ?_⟩
      rintro e w156 ⟨rfl, r156, f156⟩
      have hD156 := f156.keep hD153 (by omega)
      have e2 : IntKind.i64.wrap ((totalF ((es.map filZ).take k) : Int) + (x.data.size : Int)) = (totalF ((es.map filZ).take (k + 1)) : Int) := by rw [wrap_i64 (by omega) (by omega)]; omega
      refine ⟨_, rfl, x.data.size, hc hD156 (j := 3) rfl, (must_spec (by rw [e2]; exact decide_eq_true (by omega)) 2 w156).mono ?_⟩
      rintro e w160 ⟨rfl, rfl⟩
      have f124_156 : Fr (· = B) w131 w160 := (((f133.trans' (f134.mono fun _ _ h => h.elim)).trans' f143).trans' f153).trans' f156
      have z160 := z124.stepB f124_156 (by omega)
      have o160 := o124.keep f124_156 fun q hq e => by have := hlB' q hq; omega
      have p160 := p124.keep f124_156 fun q hq e => by have := hpB q hq; omega
      refine ⟨rfl, fun w161 d161 => ?_⟩
      have f161 : Fr (fun _ => False) w160 w161 := .drew _ d161
      have z161 := z160.step0 f161
      have hD161 := f161.keep hD156 (by simp)
      refine ⟨fun w' => ZSt w lf w' ∧ w'.heap[D]? = some (.cells (encT (x, off)).toArray T_zip_entry (0, 0)), ⟨z161, hD161⟩, lf, fun w' h => by rw [cell_blk h.1.A]; rfl, x.path, fun w' h => hc h.2 (j := 5) rfl, _, _, _, _, _, _, _, fun w' h => box_load h.2 (by kernel_rfl) (by kernel_rfl), ?_⟩
      rw [bs_self]
      refine (unpack_spec x off (hg.unp x hxm) w161).mono ?_
      rintro e w176 ⟨rfl, f176⟩
      have z176 := z161.step0 f176
      have hD176 := f176.keep hD161 (by simp)
      refine ⟨_, rfl, ⟨z176, hD176⟩, fun w178 h178 => ?_⟩
      have f178 : Fr (fun _ => False) w176 w178 := by rw [h178]; exact .alloc _ _ _
      have o176 := (o160.keep f161 (by simp)).keep f176 (by simp)
      have p176 := (p160.keep f161 (by simp)).keep f176 (by simp)
      have r176 := (r156.keep f161 (by simp)).keep f176 (by simp)
      have hD_w := lt_blk hD176
      obtain ⟨w179, l180, hr179, p179, f179, s179⟩ := append_oneK elF p176 (x := filZ x) (by rw [List.length_take]; unfold maxLen; omega) (by rw [List.length_take]; omega) (by omega) h178
      have hnD : ∀ q, At lf q → B + 1 ≤ q ∧ q < D := fun q ⟨y, hy, e⟩ => by have h1 := hpB y hy; have h2 := hpD y hy; omega
      have hr' : ∃ w'', (Builtin.append_ #[T_S_api_File, T_S_api_File] T_S_api_File #[.slice lf.a lf.len lf.cap, .slice (some ⟨w176.heap.size, 0, none⟩) 1 1]).run Tryd.prog w178 = .ok (.slice l180.a l180.len l180.cap) w'' := ⟨_, hr179⟩
      refine ⟨⟨z176.step0 f178, f178.keep hD176 (by simp)⟩, w179, l180, hr179, ⟨z176.step f179 fun q _ hq => by have := hnD q hq; omega, f179.keep hD176 fun hq => by have := hnD _ hq; omega⟩, ?_⟩
      have z179 := z176.step f179 fun q _ hq => by have := hnD q hq; omega
      refine ⟨wr_blk z179.A (Nat.lt_succ_self 0), fun w181 h181 => ?_⟩
      have hAB : w.heap.size + 2 = B := hBB
      have f181 : Fr (· = w.heap.size) w179 w181 := by rw [h181]; exact Fr.set (· = w.heap.size) w179 (a := ⟨w.heap.size, 0, none⟩) _ rfl
      have z181 : ZSt w l180 w181 := ⟨z179.fr.trans f181 fun q hq e => by omega, by rw [h181, set_blk z179.A]; rfl, f181.keep z179.E (by omega)⟩
      have hl180 : ∀ q, l180.a = some q → (∃ y, lf.a = some y ∧ y.block = q.block) ∨ w176.heap.size ≤ q.block := fun q hq => by
        rcases s179 q hq with ⟨y, hy, e⟩ | h
        · exact .inl ⟨y, hy, e⟩
        · exact .inr h
      have e1 : IntKind.i64.wrap ((k : Int) + 1) = ((k + 1 : Nat) : Int) := by rw [wrap_i64 (by omega) (by omega)]; omega
      have hyt : (es.map filZ).take (k + 1) = (es.map filZ).take k ++ [filZ x] := by rw [List.take_add_one, hyk]; rfl
      have hpos : (outZ (es.take (k + 1))).length = off + [(80 : UInt8), 75, 3, 4].length + 26 + x.path.data.toList.length + x.packed.size := by
        rw [outZ_len_take hxk, hoff, locZ_len, bs_len]; simp only [List.length_cons, List.length_nil]; omega
      rw [e1, e2]
      refine ⟨⟨k + 1, l180, rfl, by omega, rfl, z181, ?_, (o176.keep f179 fun q hq ⟨y, hy, e⟩ => hdis q y hq hy e).keep f181 fun q hq e => by have := hlB' q hq; omega, by rw [hyt]; exact p179.keep f181 fun q hq e => by have := (p179.blk hq).1; omega, fun p q hp hq => ?_⟩, by dsimp only; omega⟩
      · rw [hrest, hpos]
        exact (r176.keep f179 fun hq => by have := hnD _ hq; omega).keep f181 (by omega)
      · rcases hl180 q hq with ⟨y, hy, e⟩ | h
        · rw [← e]; exact hdis p y hp hy
        · have := hlD p hp; omega
    · have hge := of_decide_eq_false hge
      have hk' : k = es.length := by omega
      subst hk'
      rw [List.drop_length] at r113
      rw [List.take_of_length_le (by rw [List.length_map]; exact Nat.le_refl _)] at p113
      rw [List.take_length] at r113
      have hyl : (es.map filZ).length = lf.len := p113.1
      refine ⟨(outZ es).length, by rw [cell_blk r113.1]; rfl, (must_spec (by simp) 3 w113).mono ?_⟩
      rintro e w184 ⟨rfl, rfl⟩
      refine ⟨rfl, lf, by rw [cell_blk z113.A]; rfl, (zcheck_spec (c := lf.cap) (p113.reads elF.len) hyl (by rw [← hyl, List.length_map]; omega) (fun y hy => ?_) (by omega)).mono ?_⟩
      · obtain ⟨z, hz, rfl⟩ := List.mem_map.1 hy
        have := (hx z hz).1
        have h2 : (filZ z).path = z.path := rfl
        rw [h2]; omega
      rintro e w187 ⟨rfl, f187⟩
      rw [hg.chk]
      have z187 := z113.step0 f187
      refine ⟨0, rfl, fun h => absurd h (by decide), fun _ => ⟨lf, by rw [cell_blk z187.A]; rfl, wr_blk z187.A (Nat.lt_succ_self 0), fun w198 h198 => ?_⟩⟩
      have f198 : Fr (· = w.heap.size) w187 w198 := by rw [h198]; exact Fr.set (· = w.heap.size) w187 (a := ⟨w.heap.size, 0, none⟩) _ rfl
      have z198 : ZSt w lf w198 := ⟨z187.fr.trans f198 fun q hq e => by omega, by rw [h198, set_blk z187.A]; rfl, f198.keep z187.E (by omega)⟩
      refine ⟨wr_blk z198.E (Nat.lt_succ_self 0), fun w199 h199 => ?_⟩
      have f199 : Fr (· = w.heap.size + 1) w198 w199 := by rw [h199]; exact Fr.set (· = w.heap.size + 1) w198 (a := ⟨w.heap.size + 1, 0, none⟩) _ rfl
      have z199 : ZSt w lf w199 := ⟨z198.fr.trans f199 fun q hq e => by omega, f199.keep z198.A (by omega), by rw [h199, set_blk z198.E]; rfl⟩
      refine (catch_idle _ _ w199).mono ?_
      rintro e u w202 ⟨rfl, rfl, rfl⟩
      refine ⟨⟨_, rfl⟩, rfl, lf, load_one (by kernel_rfl) (by rw [cell_blk z199.A]; rfl), 0, load_one (by kernel_rfl) (by rw [cell_blk z199.E]; rfl), lf, rfl, ?_, z199.fr.mono fun q hq h => by omega⟩
      exact (((p113.keep f187 (by simp)).keep f198 fun q hq e => by have := (p113.blk hq).1; omega).keep f199 fun q hq e => by have := (p113.blk hq).1; omega).mono (by omega)
end Go.Proofs.YtfoeooddnmppnaaDoor

/- Formulas of 3 Go functions of this seat (written by a program of the author's, vcgen.py), and that each is enough for the call. No condition. -/
set_option linter.unusedVariables false
namespace Go.Proofs.YtfoeooddnmppnaaDoor
open Go Vc Go.Proofs
set_option maxRecDepth 100000
/-- cartularylaw23.awake -/
def vc_cartularylaw23_awake (w : World) (R : Value → World → Prop) : Prop :=
  ∀ w1 : World,
  (w1 = World.alloc w (Obj.cells (Array.mk [Value.string (ByteArray.mk (Array.mk [97])), Value.string (ByteArray.mk (Array.mk [104, 105]))]) 37) →
    Calls Tryd.prog (13 : Nat) (Array.mk [Value.slice (some (Addr.mk (Array.size (World.heap w)) 0 none)) 1 1]) (w1) (fun e2 w3 =>
      ∃ s4 : ByteArray, ∃ n5 : Int, (e2 = Ending.returned (Value.tuple (Array.mk [Value.string s4, Value.int IntKind.i64 n5])) ∧
       Calls Tryd.prog (18 : Nat) (Array.mk [Value.string s4]) (w3) (fun e6 w7 =>
         ∃ l8 : Sl, ∃ n9 : Int, (e6 = Ending.returned (Value.tuple (Array.mk [Value.slice l8.1 l8.2 l8.3, Value.int IntKind.i64 n9])) ∧
          Calls Tryd.prog (18 : Nat) (Array.mk [Value.string (ByteArray.mk (Array.mk []))]) (w7) (fun e10 w11 =>
            ∃ l12 : Sl, ∃ n13 : Int, (e10 = Ending.returned (Value.tuple (Array.mk [Value.slice l12.1 l12.2 l12.3, Value.int IntKind.i64 n13])) ∧
             ((((n5 == 0) = true →
                ((((n9 == 0) = true →
                   ((((n13 == 6) = true →
                      (((((↑(ByteArray.size s4) : Int) == 102) = true →
                         ∀ w14 : World,
                         (w14 = World.alloc w11 (Obj.cells (Array.mk [Value.string (ByteArray.mk (Array.mk [97])), Value.string (ByteArray.mk (Array.mk [104, 105]))]) 37) →
                           Calls Tryd.prog (17 : Nat) (Array.mk [Value.slice l8.1 l8.2 l8.3, Value.slice (some (Addr.mk (Array.size (World.heap w11)) 0 none)) 1 1]) (w14) (fun e15 w16 =>
                             ∃ b17 : Bool, (e15 = Ending.returned (Value.bool b17) ∧
                              R (Value.bool b17) w16))))) ∧
                       (((↑(ByteArray.size s4) : Int) == 102) = false →
                         R (Value.bool false) w11)))) ∧
                    ((n13 == 6) = false →
                      R (Value.bool false) w11)))) ∧
                 ((n9 == 0) = false →
                   R (Value.bool false) w11)))) ∧
              ((n5 == 0) = false →
                R (Value.bool false) w11)))))))))
theorem vc_cartularylaw23_awake_ok {w : World} {R : Value → World → Prop} {R' : Ending → World → Prop} (h : vc_cartularylaw23_awake w R) (hR : ∀ v w', R v w' → R' (.returned v) w') :
    Calls Tryd.prog 15 #[] w R' :=
  calls_of_body (vs := []) (ty := ty) (ann := ⟨[], [], [], []⟩) (c := Tryd.f15.body.getD .skip) (by kernel_rfl) Tryd.func15 (by kernel_rfl) (by kernel_rfl) (Eq.mp (by kernel_rfl) h) hR
/-- cartularylaw23.ZipWrites -/
def vc_cartularylaw23_ZipWrites (x0a : Option Addr) (x0n : Nat) (x0c : Nat) (w : World) (R : Value → World → Prop) : Prop :=
  Calls Tryd.prog (12 : Nat) (Array.mk [Value.slice x0a x0n x0c, Value.int IntKind.i64 40]) (w) (fun e1 w2 =>
    ∃ l3 : Sl, (e1 = Ending.returned (Value.slice l3.1 l3.2 l3.3) ∧
     Calls Tryd.prog (13 : Nat) (Array.mk [Value.slice l3.1 l3.2 l3.3]) (w2) (fun e4 w5 =>
       ∃ s6 : ByteArray, ∃ n7 : Int, (e4 = Ending.returned (Value.tuple (Array.mk [Value.string s6, Value.int IntKind.i64 n7])) ∧
        Calls Tryd.prog (14 : Nat) (Array.mk [Value.slice l3.1 l3.2 l3.3]) (w5) (fun e8 w9 =>
          ∃ n10 : Int, (e8 = Ending.returned (Value.int IntKind.i64 n10) ∧
           Calls Tryd.prog (15 : Nat) (Array.mk []) (w9) (fun e11 w12 =>
             ∃ b13 : Bool, (e11 = Ending.returned (Value.bool b13) ∧
              ((((!b13) = true →
                 R (Value.bool false) w12)) ∧
               ((!b13) = false →
                 ((((n7 != n10) = true →
                    R (Value.bool false) w12)) ∧
                  ((n7 != n10) = false →
                    Calls Tryd.prog (16 : Nat) (Array.mk [Value.slice l3.1 l3.2 l3.3]) (w12) (fun e14 w15 =>
                      ∃ n16 : Int, (e14 = Ending.returned (Value.int IntKind.i64 n16) ∧
                       ((((n16 != n10) = true →
                          R (Value.bool false) w15)) ∧
                        ((n16 != n10) = false →
                          Calls Tryd.prog (12 : Nat) (Array.mk [Value.slice x0a x0n x0c, Value.int IntKind.i64 40]) (w15) (fun e17 w18 =>
                            ∃ l19 : Sl, (e17 = Ending.returned (Value.slice l19.1 l19.2 l19.3) ∧
                             Calls Tryd.prog (17 : Nat) (Array.mk [Value.slice l3.1 l3.2 l3.3, Value.slice l19.1 l19.2 l19.3]) (w18) (fun e20 w21 =>
                               ∃ b22 : Bool, (e20 = Ending.returned (Value.bool b22) ∧
                                ((((!b22) = true →
                                   R (Value.bool false) w21)) ∧
                                 ((!b22) = false →
                                   ((((n10 != 0) = true →
                                      R (Value.bool (ByteArray.toList s6 == ByteArray.toList (ByteArray.mk (Array.mk [])))) w21)) ∧
                                    ((n10 != 0) = false →
                                      Calls Tryd.prog (18 : Nat) (Array.mk [Value.string s6]) (w21) (fun e23 w24 =>
                                        ∃ l25 : Sl, ∃ n26 : Int, (e23 = Ending.returned (Value.tuple (Array.mk [Value.slice l25.1 l25.2 l25.3, Value.int IntKind.i64 n26])) ∧
                                         ((((n26 == 0) = true →
                                            Calls Tryd.prog (19 : Nat) (Array.mk [Value.slice l3.1 l3.2 l3.3]) (w24) (fun e27 w28 =>
                                              ∃ s29 : ByteArray, (e27 = Ending.returned (Value.string s29) ∧
                                               ((((ByteArray.toList s6 == ByteArray.toList s29) = true →
                                                  Calls Tryd.prog (17 : Nat) (Array.mk [Value.slice l25.1 l25.2 l25.3, Value.slice l3.1 l3.2 l3.3]) (w28) (fun e30 w31 =>
                                                    ∃ b32 : Bool, (e30 = Ending.returned (Value.bool b32) ∧
                                                     R (Value.bool b32) w31)))) ∧
                                                ((ByteArray.toList s6 == ByteArray.toList s29) = false →
                                                  R (Value.bool false) w28)))))) ∧
                                          ((n26 == 0) = false →
                                            R (Value.bool false) w24))))))))))))))))))))))))))))
theorem vc_cartularylaw23_ZipWrites_ok {x0a : Option Addr} {x0n : Nat} {x0c : Nat} {w : World} {R : Value → World → Prop} {R' : Ending → World → Prop} (h : vc_cartularylaw23_ZipWrites x0a x0n x0c w R) (hR : ∀ v w', R v w' → R' (.returned v) w') :
    Calls Tryd.prog 3 #[.slice x0a x0n x0c] w R' :=
  calls_of_body (vs := [(.slice x0a x0n x0c, false)]) (ty := ty) (ann := ⟨[], [], [], []⟩) (c := Tryd.f3.body.getD .skip) (by kernel_rfl) Tryd.func3 (by kernel_rfl) (by kernel_rfl) (Eq.mp (by kernel_rfl) h) hR
/-- cartularylaw23.ZipFull -/
def vc_cartularylaw23_ZipFull (x0 : Int) (x1 : Int) (w : World) (R : Value → World → Prop) : Prop :=
  (((decide (x0 < 0) = true →
     Calls Tryd.prog (15 : Nat) (Array.mk []) (w) (fun e1 w2 =>
       ∃ b3 : Bool, (e1 = Ending.returned (Value.bool b3) ∧
        R (Value.bool b3) w2)))) ∧
   (decide (x0 < 0) = false →
     (((decide (x0 > 700) = true →
        Calls Tryd.prog (15 : Nat) (Array.mk []) (w) (fun e4 w5 =>
          ∃ b6 : Bool, (e4 = Ending.returned (Value.bool b6) ∧
           R (Value.bool b6) w5)))) ∧
      (decide (x0 > 700) = false →
        (((decide (x1 < 0) = true →
           Calls Tryd.prog (15 : Nat) (Array.mk []) (w) (fun e7 w8 =>
             ∃ b9 : Bool, (e7 = Ending.returned (Value.bool b9) ∧
              R (Value.bool b9) w8)))) ∧
         (decide (x1 < 0) = false →
           (((decide (x1 > 3000) = true →
              Calls Tryd.prog (15 : Nat) (Array.mk []) (w) (fun e10 w11 =>
                ∃ b12 : Bool, (e10 = Ending.returned (Value.bool b12) ∧
                 R (Value.bool b12) w11)))) ∧
            (decide (x1 > 3000) = false →
              ∀ w13 : World,
              (w13 = World.alloc w (Obj.cells (Array.mk []) 37) →
                ∃ I14 : Sl → Int → World → Prop, ∃ I15 : Sl → Int → World → Nat, (I14 (Sl.mk (some (Addr.mk (Array.size (World.heap w)) 0 none)) 0 0) 0 w13 ∧
                 ∀ l16 : Sl,
                 ∀ n17 : Int,
                 ∀ w18 : World,
                 (I14 l16 n17 w18 →
                   (((decide (n17 < x0) = true →
                      ∀ w19 : World,
                      (Drew w18 w19 →
                        ∃ I20 : World → Prop, (I20 w19 ∧
                         ((26 : Int) ≠ (0 : Int) ∧
                          ((26 : Int) ≠ (0 : Int) ∧
                           ((∀ w21 : World,
                            (w21 = World.alloc w19 (Obj.cells (Array.mk [Value.int IntKind.u8 (IntKind.wrap IntKind.u8 (IntKind.wrap IntKind.i64 (97 + IntKind.wrap IntKind.i64 (Int.tdiv n17 26)))), Value.int IntKind.u8 (IntKind.wrap IntKind.u8 (IntKind.wrap IntKind.i64 (97 + Int.tmod n17 26)))]) 5) →
                              (I20 w21 ∧
                               ((∃ w22 : World, ∃ s23 : ByteArray, (Sem.run Tryd.prog (convert 35 9 (Value.slice (some (Addr.mk (Array.size (World.heap w19)) 0 none)) 2 2)) w21 = Result.ok (Value.string s23) w22 ∧
                                 (I20 w22 ∧
                                  ∃ w24 : World, ∃ l25 : Sl, (Sem.run Tryd.prog (Instr.makeSlice 35 (Value.int IntKind.i64 x1) (Value.int IntKind.i64 x1)) w22 = Result.ok (Value.slice l25.1 l25.2 l25.3) w24 ∧
                                   (I20 w24 ∧
                                    ∃ w26 : World, ∃ s27 : ByteArray, (Sem.run Tryd.prog (convert 35 9 (Value.slice l25.1 l25.2 l25.3)) w24 = Result.ok (Value.string s27) w26 ∧
                                     (I20 w26 ∧
                                      ∀ w28 : World,
                                      (w28 = World.alloc w26 (Obj.cells (Array.mk [Value.string s23, Value.string s27]) 37) →
                                        (I20 w28 ∧
                                         ∃ w29 : World, ∃ l30 : Sl, (Sem.run Tryd.prog (Builtin.append_ (Array.mk [22, 22]) 22 (Array.mk [Value.slice l16.1 l16.2 l16.3, Value.slice (some (Addr.mk (Array.size (World.heap w26)) 0 none)) 1 1])) w28 = Result.ok (Value.slice l30.1 l30.2 l30.3) w29 ∧
                                          (I20 w29 ∧
                                           (I14 (Sl.mk l30.1 l30.2 l30.3) (IntKind.wrap IntKind.i64 (n17 + 1)) w29 ∧
                                            I15 (Sl.mk l30.1 l30.2 l30.3) (IntKind.wrap IntKind.i64 (n17 + 1)) w29 < I15 l16 n17 w18)))))))))))) ∧
                                ∃ w31 : World, ∃ l32 : Sl, (Sem.run Tryd.prog (Instr.makeSlice 35 (Value.int IntKind.i64 x1) (Value.int IntKind.i64 x1)) w21 = Result.ok (Value.slice l32.1 l32.2 l32.3) w31 ∧
                                 (I20 w31 ∧
                                  ((∃ w33 : World, ∃ s34 : ByteArray, (Sem.run Tryd.prog (convert 35 9 (Value.slice (some (Addr.mk (Array.size (World.heap w19)) 0 none)) 2 2)) w31 = Result.ok (Value.string s34) w33 ∧
                                    (I20 w33 ∧
                                     ∃ w35 : World, ∃ s36 : ByteArray, (Sem.run Tryd.prog (convert 35 9 (Value.slice l32.1 l32.2 l32.3)) w33 = Result.ok (Value.string s36) w35 ∧
                                      (I20 w35 ∧
                                       ∀ w37 : World,
                                       (w37 = World.alloc w35 (Obj.cells (Array.mk [Value.string s34, Value.string s36]) 37) →
                                         (I20 w37 ∧
                                          ∃ w38 : World, ∃ l39 : Sl, (Sem.run Tryd.prog (Builtin.append_ (Array.mk [22, 22]) 22 (Array.mk [Value.slice l16.1 l16.2 l16.3, Value.slice (some (Addr.mk (Array.size (World.heap w35)) 0 none)) 1 1])) w37 = Result.ok (Value.slice l39.1 l39.2 l39.3) w38 ∧
                                           (I20 w38 ∧
                                            (I14 (Sl.mk l39.1 l39.2 l39.3) (IntKind.wrap IntKind.i64 (n17 + 1)) w38 ∧
                                             I15 (Sl.mk l39.1 l39.2 l39.3) (IntKind.wrap IntKind.i64 (n17 + 1)) w38 < I15 l16 n17 w18)))))))))) ∧
                                   ∃ w40 : World, ∃ s41 : ByteArray, (Sem.run Tryd.prog (convert 35 9 (Value.slice l32.1 l32.2 l32.3)) w31 = Result.ok (Value.string s41) w40 ∧
                                    (I20 w40 ∧
                                     ∃ w42 : World, ∃ s43 : ByteArray, (Sem.run Tryd.prog (convert 35 9 (Value.slice (some (Addr.mk (Array.size (World.heap w19)) 0 none)) 2 2)) w40 = Result.ok (Value.string s43) w42 ∧
                                      (I20 w42 ∧
                                       ∀ w44 : World,
                                       (w44 = World.alloc w42 (Obj.cells (Array.mk [Value.string s43, Value.string s41]) 37) →
                                         (I20 w44 ∧
                                          ∃ w45 : World, ∃ l46 : Sl, (Sem.run Tryd.prog (Builtin.append_ (Array.mk [22, 22]) 22 (Array.mk [Value.slice l16.1 l16.2 l16.3, Value.slice (some (Addr.mk (Array.size (World.heap w42)) 0 none)) 1 1])) w44 = Result.ok (Value.slice l46.1 l46.2 l46.3) w45 ∧
                                           (I20 w45 ∧
                                            (I14 (Sl.mk l46.1 l46.2 l46.3) (IntKind.wrap IntKind.i64 (n17 + 1)) w45 ∧
                                             I15 (Sl.mk l46.1 l46.2 l46.3) (IntKind.wrap IntKind.i64 (n17 + 1)) w45 < I15 l16 n17 w18)))))))))))))))) ∧
                            ∃ w47 : World, ∃ l48 : Sl, (Sem.run Tryd.prog (Instr.makeSlice 35 (Value.int IntKind.i64 x1) (Value.int IntKind.i64 x1)) w19 = Result.ok (Value.slice l48.1 l48.2 l48.3) w47 ∧
                             (I20 w47 ∧
                              ((∀ w49 : World,
                               (w49 = World.alloc w47 (Obj.cells (Array.mk [Value.int IntKind.u8 (IntKind.wrap IntKind.u8 (IntKind.wrap IntKind.i64 (97 + IntKind.wrap IntKind.i64 (Int.tdiv n17 26)))), Value.int IntKind.u8 (IntKind.wrap IntKind.u8 (IntKind.wrap IntKind.i64 (97 + Int.tmod n17 26)))]) 5) →
                                 (I20 w49 ∧
                                  ((∃ w50 : World, ∃ s51 : ByteArray, (Sem.run Tryd.prog (convert 35 9 (Value.slice (some (Addr.mk (Array.size (World.heap w47)) 0 none)) 2 2)) w49 = Result.ok (Value.string s51) w50 ∧
                                    (I20 w50 ∧
                                     ∃ w52 : World, ∃ s53 : ByteArray, (Sem.run Tryd.prog (convert 35 9 (Value.slice l48.1 l48.2 l48.3)) w50 = Result.ok (Value.string s53) w52 ∧
                                      (I20 w52 ∧
                                       ∀ w54 : World,
                                       (w54 = World.alloc w52 (Obj.cells (Array.mk [Value.string s51, Value.string s53]) 37) →
                                         (I20 w54 ∧
                                          ∃ w55 : World, ∃ l56 : Sl, (Sem.run Tryd.prog (Builtin.append_ (Array.mk [22, 22]) 22 (Array.mk [Value.slice l16.1 l16.2 l16.3, Value.slice (some (Addr.mk (Array.size (World.heap w52)) 0 none)) 1 1])) w54 = Result.ok (Value.slice l56.1 l56.2 l56.3) w55 ∧
                                           (I20 w55 ∧
                                            (I14 (Sl.mk l56.1 l56.2 l56.3) (IntKind.wrap IntKind.i64 (n17 + 1)) w55 ∧
                                             I15 (Sl.mk l56.1 l56.2 l56.3) (IntKind.wrap IntKind.i64 (n17 + 1)) w55 < I15 l16 n17 w18)))))))))) ∧
                                   ∃ w57 : World, ∃ s58 : ByteArray, (Sem.run Tryd.prog (convert 35 9 (Value.slice l48.1 l48.2 l48.3)) w49 = Result.ok (Value.string s58) w57 ∧
                                    (I20 w57 ∧
                                     ∃ w59 : World, ∃ s60 : ByteArray, (Sem.run Tryd.prog (convert 35 9 (Value.slice (some (Addr.mk (Array.size (World.heap w47)) 0 none)) 2 2)) w57 = Result.ok (Value.string s60) w59 ∧
                                      (I20 w59 ∧
                                       ∀ w61 : World,
                                       (w61 = World.alloc w59 (Obj.cells (Array.mk [Value.string s60, Value.string s58]) 37) →
                                         (I20 w61 ∧
                                          ∃ w62 : World, ∃ l63 : Sl, (Sem.run Tryd.prog (Builtin.append_ (Array.mk [22, 22]) 22 (Array.mk [Value.slice l16.1 l16.2 l16.3, Value.slice (some (Addr.mk (Array.size (World.heap w59)) 0 none)) 1 1])) w61 = Result.ok (Value.slice l63.1 l63.2 l63.3) w62 ∧
                                           (I20 w62 ∧
                                            (I14 (Sl.mk l63.1 l63.2 l63.3) (IntKind.wrap IntKind.i64 (n17 + 1)) w62 ∧
                                             I15 (Sl.mk l63.1 l63.2 l63.3) (IntKind.wrap IntKind.i64 (n17 + 1)) w62 < I15 l16 n17 w18))))))))))))) ∧
                               ∃ w64 : World, ∃ s65 : ByteArray, (Sem.run Tryd.prog (convert 35 9 (Value.slice l48.1 l48.2 l48.3)) w47 = Result.ok (Value.string s65) w64 ∧
                                (I20 w64 ∧
                                 ∀ w66 : World,
                                 (w66 = World.alloc w64 (Obj.cells (Array.mk [Value.int IntKind.u8 (IntKind.wrap IntKind.u8 (IntKind.wrap IntKind.i64 (97 + IntKind.wrap IntKind.i64 (Int.tdiv n17 26)))), Value.int IntKind.u8 (IntKind.wrap IntKind.u8 (IntKind.wrap IntKind.i64 (97 + Int.tmod n17 26)))]) 5) →
                                   (I20 w66 ∧
                                    ∃ w67 : World, ∃ s68 : ByteArray, (Sem.run Tryd.prog (convert 35 9 (Value.slice (some (Addr.mk (Array.size (World.heap w64)) 0 none)) 2 2)) w66 = Result.ok (Value.string s68) w67 ∧
                                     (I20 w67 ∧
                                      ∀ w69 : World,
                                      (w69 = World.alloc w67 (Obj.cells (Array.mk [Value.string s68, Value.string s65]) 37) →
                                        (I20 w69 ∧
                                         ∃ w70 : World, ∃ l71 : Sl, (Sem.run Tryd.prog (Builtin.append_ (Array.mk [22, 22]) 22 (Array.mk [Value.slice l16.1 l16.2 l16.3, Value.slice (some (Addr.mk (Array.size (World.heap w67)) 0 none)) 1 1])) w69 = Result.ok (Value.slice l71.1 l71.2 l71.3) w70 ∧
                                          (I20 w70 ∧
                                           (I14 (Sl.mk l71.1 l71.2 l71.3) (IntKind.wrap IntKind.i64 (n17 + 1)) w70 ∧
                                            I15 (Sl.mk l71.1 l71.2 l71.3) (IntKind.wrap IntKind.i64 (n17 + 1)) w70 < I15 l16 n17 w18))))))))))))))))))))) ∧
                    (decide (n17 < x0) = false →
                      Calls Tryd.prog (16 : Nat) (Array.mk [Value.slice l16.1 l16.2 l16.3]) (w18) (fun e72 w73 =>
                        ∃ n74 : Int, (e72 = Ending.returned (Value.int IntKind.i64 n74) ∧
                         ∃ I75 : Bool → World → Prop, ((((decide (x0 > 600) = true →
                             I75 true w73)) ∧
                           (decide (x0 > 600) = false →
                             I75 (decide (IntKind.wrap IntKind.i64 (x0 * x1) > 1048576)) w73)) ∧
                          ∀ b76 : Bool,
                          ∀ w77 : World,
                          (I75 b76 w77 →
                            (((b76 = true →
                               Calls Tryd.prog (13 : Nat) (Array.mk [Value.slice l16.1 l16.2 l16.3]) (w77) (fun e78 w79 =>
                                 ∃ s80 : ByteArray, ∃ n81 : Int, (e78 = Ending.returned (Value.tuple (Array.mk [Value.string s80, Value.int IntKind.i64 n81])) ∧
                                  Calls Tryd.prog (15 : Nat) (Array.mk []) (w79) (fun e82 w83 =>
                                    ∃ b84 : Bool, (e82 = Ending.returned (Value.bool b84) ∧
                                     (((b84 = true →
                                        ((((n74 == 2) = true →
                                           ((((n81 == 2) = true →
                                              R (Value.bool (ByteArray.toList s80 == ByteArray.toList (ByteArray.mk (Array.mk [])))) w83)) ∧
                                            ((n81 == 2) = false →
                                              R (Value.bool false) w83)))) ∧
                                         ((n74 == 2) = false →
                                           R (Value.bool false) w83)))) ∧
                                      (b84 = false →
                                        R (Value.bool false) w83)))))))) ∧
                             (b76 = false →
                               Calls Tryd.prog (15 : Nat) (Array.mk []) (w77) (fun e85 w86 =>
                                 ∃ b87 : Bool, (e85 = Ending.returned (Value.bool b87) ∧
                                  (((b87 = true →
                                     R (Value.bool (n74 == 0)) w86)) ∧
                                   (b87 = false →
                                     R (Value.bool false) w86)))))))))))))))))))))))
theorem vc_cartularylaw23_ZipFull_ok {x0 : Int} {x1 : Int} {w : World} {R : Value → World → Prop} {R' : Ending → World → Prop} (h : vc_cartularylaw23_ZipFull x0 x1 w R) (hR : ∀ v w', R v w' → R' (.returned v) w') :
    Calls Tryd.prog 4 #[.int .i64 x0, .int .i64 x1] w R' :=
  calls_of_body (vs := [(.int .i64 x0, false), (.int .i64 x1, false)]) (ty := ty) (ann := ⟨[(10, [(57, .bool)])], [(5, [(5, .slice), (6, .int .i64)])], [(7, .tree (.rd 0 (.rd 1 (.rd 2 (.rd 3 (.rd 4 (.rd 5 (.rd 6 (.rd 7 (.rd 8 (.rd 11 (.ef 9 (.ef 10 (.ef 12 (.ef 13 (.rd 14 (.ef 15 (.ef 16 (.rd 17 .done) .done) .done)) .done) .done) (.ef 12 (.ef 10 (.ef 13 (.rd 14 (.ef 15 (.ef 16 (.rd 17 .done) .done) .done)) .done) (.ef 13 (.ef 10 (.rd 14 (.ef 15 (.ef 16 (.rd 17 .done) .done) .done)) .done) .done)) .done)) (.ef 12 (.ef 9 (.ef 10 (.ef 13 (.rd 14 (.ef 15 (.ef 16 (.rd 17 .done) .done) .done)) .done) (.ef 13 (.ef 10 (.rd 14 (.ef 15 (.ef 16 (.rd 17 .done) .done) .done)) .done) .done)) (.ef 13 (.ef 9 (.ef 10 (.rd 14 (.ef 15 (.ef 16 (.rd 17 .done) .done) .done)) .done) .done) .done)) .done)))))))))))))], []⟩) (c := Tryd.f4.body.getD .skip) (by kernel_rfl) Tryd.func4 (by kernel_rfl) (by kernel_rfl) (Eq.mp (by kernel_rfl) h) hR
end Go.Proofs.YtfoeooddnmppnaaDoor

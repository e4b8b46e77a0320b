/- FromBig and Big. Conditions: the numbers are within their kinds. -/
import Derived.Test.YtoagdpjickippaaSumK
import Derived.Test.YtoagdpjickippaaSumsB
set_option linter.unusedVariables false
namespace Go.Proofs.Ytoagdpjickippaa
open Go Vc SumM Go.Proofs

/-- 'FromBig'. -/
theorem frombig_spec (s : ByteArray) (hs : s.size ≤ 8) (w : World) :
    Calls Try.prog F_sums_FromBig #[.string s] w fun e w' => e = .returned (.int .u64 ((num8 s.data.toList : Nat) : Int)) ∧ w' = w := by
  refine vc_sums_FromBig_ok (R := fun v w' => v = .int .u64 ((num8 s.data.toList : Nat) : Int) ∧ w' = w) ?_ (fun v w' h => ⟨by rw [h.1], h.2⟩)
  refine ⟨fun a i w5 => ∃ n : Nat, i = (n : Int) ∧ n ≤ s.size ∧ a = ((num8 (s.data.toList.take n) : Nat) : Int) ∧ w5 = w, fun a i w5 => s.size - i.toNat, ⟨0, rfl, Nat.zero_le _, rfl, rfl⟩, ?_⟩
  rintro a i w5 ⟨n, rfl, hn, rfl, hw⟩
  replace hw := hw.symm
  subst hw
  refine ⟨fun hlt => ?_, fun hge => ?_⟩
  · have hlt := of_decide_eq_true hlt
    have hb := byt_lt s n
    have hl : (s.data.toList.take n).length = n := by rw [List.length_take]; simp; omega
    have hv := num8_lt n _ hl
    have hp : 256 ^ n ≤ 256 ^ 7 := Nat.pow_le_pow_right (by decide) (by omega)
    have hsn := num8_snoc (s.data.toList.take n) (UInt8.ofNat (byt s n))
    rw [← take_byt s (by omega), toNat_byt] at hsn
    have hor : 2 ^ 8 * num8 (s.data.toList.take n) ||| byt s n = 2 ^ 8 * num8 (s.data.toList.take n) + byt s n := (Nat.two_pow_add_eq_or_of_lt hb _).symm
    generalize num8 (s.data.toList.take n) = x at hsn hv hor ⊢
    have e0 : (x : Int) * 2 ^ min (Int.toNat 8) 64 = ((2 ^ 8 * x : Nat) : Int) := by
      rw [show (2 : Int) ^ min (Int.toNat 8) 64 = ((2 ^ 8 : Nat) : Int) from rfl, ← Int.natCast_mul, Nat.mul_comm]
    have e2 : IntKind.u64.wrap (((BitVec.ofInt 64 (IntKind.u64.wrap ((x : Int) * 2 ^ min (Int.toNat 8) 64)) ||| BitVec.ofInt 64 (IntKind.u64.wrap (byteAt s (n : Int)))).toNat : Nat) : Int) = ((num8 (s.data.toList.take (n + 1)) : Nat) : Int) := by
      rw [e0, byteAt_nat, wrap_u64 (x := ((2 ^ 8 * x : Nat) : Int)) (by omega) (by omega), wrap_u64 (x := ((byt s n : Nat) : Int)) (by omega) (by omega), or_nat 64 _ _ (by omega) (by omega), hor, wrap_u64 (by omega) (by omega), hsn]
    have e3 : IntKind.i64.wrap ((n : Int) + 1) = ((n + 1 : Nat) : Int) := by rw [wrap_i64 (by omega) (by omega)]; omega
    refine ⟨by decide, ⟨by omega, by omega⟩, ?_⟩
    rw [e2, e3]
    exact ⟨⟨n + 1, rfl, by omega, rfl, rfl⟩, by dsimp only; omega⟩
  · have hge := of_decide_eq_false hge
    have : n = s.size := by omega
    subst this
    rw [take_size]
    exact ⟨rfl, rfl⟩
/-- 'Big'. -/
theorem big_spec (x n : Nat) (hx : x < 18446744073709551616) (hn : n ≤ 1000) (w : World) :
    Calls Try.prog F_sums_Big #[.int .u64 (x : Int), .int .i64 (n : Int)] w fun e w' => e = .returned (.string ⟨(bigB n x).toArray⟩) ∧ Fr (fun _ => False) w w' := by
  refine vc_sums_Big_ok (R := fun v w' => v = .string ⟨(bigB n x).toArray⟩ ∧ Fr (fun _ => False) w w') ?_ (fun v w' h => ⟨by rw [h.1], h.2⟩)
  have hlim : (if (0 : Int) > (n : Int) then 0 else (n : Int)) = (n : Int) := by rw [if_neg (by omega)]
  refine ⟨fun l i w' => ∃ k : Nat, i = (k : Int) ∧ k ≤ n ∧ Own w' w.heap.size T_uint8 l (byteV ((bigB n x).take k)) ∧ Fr (fun _ => False) w w', fun l i w' => n - i.toNat, ⟨0, rfl, Nat.zero_le _, .nil _ _ _, .refl _ _⟩, ?_⟩
  rintro l3 i w5 ⟨k, rfl, hk, ho, hf⟩
  rw [hlim]
  have e3 : IntKind.i64.wrap ((k : Int) + 1) = ((k + 1 : Nat) : Int) := by rw [wrap_i64 (by omega) (by omega)]; omega
  rw [e3]
  have hln : (byteV ((bigB n x).take k)).length = k := by simp [byteV, bigB_length]; omega
  refine ⟨fun hlt => ?_, fun hge => ?_⟩
  · have hlt := of_decide_eq_true hlt
    have step : ∀ z : Int, byteV ((bigB n x).take k) ++ [.int .u8 z] = byteV ((bigB n x).take (k + 1)) → ∀ w6, w6 = w5.alloc (.cells #[.int .u8 z] T_uint8) → ∃ w7 l8, (Builtin.append_ #[T_S_uint8, T_S_uint8] T_S_uint8 #[.slice l3.a l3.len l3.cap, .slice (some ⟨w5.heap.size, 0, none⟩) 1 1]).run Try.prog w6 = .ok (.slice l8.a l8.len l8.cap) w7 ∧
        ((∃ j : Nat, ((k + 1 : Nat) : Int) = (j : Int) ∧ j ≤ n ∧ Own w7 w.heap.size T_uint8 l8 (byteV ((bigB n x).take j)) ∧ Fr (fun _ => False) w w7) ∧ n - ((k + 1 : Nat) : Int).toNat < n - ((k : Int)).toNat) := fun z hz w6 h6 => by
      obtain ⟨w7, l8, hr, ho7, hf7, _⟩ := append_one' elByte ho (v := .int .u8 z) rfl (by rw [hln]; unfold maxLen; omega) (by rw [hln]; omega) hf.size h6
      rw [hz] at ho7
      exact ⟨w7, l8, hr, ⟨k + 1, rfl, by omega, ho7, hf.trans hf7 fun q hq ⟨y, hy, e⟩ => by have := (ho.blk hy).1; omega⟩, by omega⟩
    refine ⟨fun h8 => step 0 ?_, fun h8 => ?_⟩
    · have h8 := of_decide_eq_true h8
      rw [wrap_i64 (by omega) (by omega)] at h8
      rw [bigB_get (by omega), pow_big hx (by omega)]
      exact byteV_snoc _ 0 (by decide)
    · have h8 := of_decide_eq_false h8
      rw [wrap_i64 (by omega) (by omega)] at h8
      have e4 : IntKind.i64.wrap (8 * IntKind.i64.wrap (IntKind.i64.wrap ((n : Int) - 1) - (k : Int))) = ((8 * (n - 1 - k) : Nat) : Int) := by
        rw [wrap_i64 (x := (n : Int) - 1) (by omega) (by omega), wrap_i64 (x := (n : Int) - 1 - (k : Int)) (by omega) (by omega), wrap_i64 (by omega) (by omega)]; omega
      rw [e4, shift_byte, if_pos (by omega)]
      refine ⟨by omega, step _ ?_⟩
      rw [byteV_wrap _ _ (Int.natCast_nonneg _), Int.toNat_natCast, bigB_get (by omega)]
  · have hge := of_decide_eq_false hge
    have : k = n := by omega
    subst this
    rw [List.take_of_length_le (by rw [bigB_length]; omega)] at ho
    exact ⟨_, _, bytes_str (e := T_uint8) (by kernel_rfl) (by kernel_rfl) (by kernel_rfl) l3.cap ho.reads (by rw [ho.len]; simp [byteV]), rfl, hf⟩
end Go.Proofs.Ytoagdpjickippaa

/- Unhex and Id. Conditions: as named. -/
import Derived.Test.YtoagdpjickippaaHexM
import Derived.Test.YtoagdpjickippaaSums1
set_option linter.unusedVariables false
namespace Go.Proofs.Ytoagdpjickippaa
open Go Vc HexM Go.Proofs

theorem digit_spec (c : Nat) (hc : c < 256) (w : World) : Calls Try.prog F_sums_digit #[.int .u8 (c : Int)] w fun e w' => e = .returned (.int .i64 (match dg c with | some n => (n : Int) | none => -1)) ∧ w' = w := by
  refine vc_sums_digit_ok (R := fun v w' => v = .int .i64 (match dg c with | some n => (n : Int) | none => -1) ∧ w' = w) ?_ (fun v w' h => ⟨by rw [h.1], h.2⟩)
  refine ⟨fun b w' => b = decide (48 ≤ c ∧ c ≤ 57) ∧ w' = w, ⟨fun h => ⟨?_, rfl⟩, fun h => ⟨?_, rfl⟩⟩, ?_⟩
  · have h := of_decide_eq_true h
    exact decide_eq_decide.2 ⟨fun _ => ⟨by omega, by omega⟩, fun _ => by omega⟩
  · have h := of_decide_eq_false h
    rw [decide_eq_false (by omega)]
  · rintro b w3 ⟨rfl, rfl⟩
    unfold dg
    refine ⟨fun h => ?_, fun h => ⟨fun h2 => ⟨fun h3 => ?_, fun h3 => ?_⟩, fun h2 => ?_⟩⟩
    · have h := of_decide_eq_true h
      rw [if_pos h, wrap_u8 (by omega) (by omega), wrap_i64 (by omega) (by omega)]
      exact ⟨by congr 1; simp only; omega, rfl⟩
    · have h := of_decide_eq_false h
      have h2 := of_decide_eq_true h2
      have h3 := of_decide_eq_true h3
      rw [if_neg h, if_pos (by omega), wrap_u8 (by omega) (by omega), wrap_i64 (x := (c : Int) - 97) (by omega) (by omega), wrap_i64 (by omega) (by omega)]
      exact ⟨by congr 1; simp only; omega, rfl⟩
    · have h := of_decide_eq_false h
      have h3 := of_decide_eq_false h3
      rw [if_neg h, if_neg (by omega)]
      exact ⟨rfl, rfl⟩
    · have h := of_decide_eq_false h
      have h2 := of_decide_eq_false h2
      rw [if_neg h, if_neg (by omega)]
      exact ⟨rfl, rfl⟩
def unhexS (s : ByteArray) : ByteArray := match unhexL s.data.toList with | some l => ⟨l.toArray⟩ | none => ⟨#[]⟩
/-- 'Unhex'. -/
theorem unhex_spec (s : ByteArray) (hs : s.size ≤ 140737488355328) (w : World) : Calls Try.prog F_sums_Unhex #[.string s] w fun e w' => e = .returned (.tuple #[.string (unhexS s), .bool (unhexL s.data.toList).isSome]) ∧ Fr (fun _ => False) w w' := by
  refine vc_sums_Unhex_ok (R := fun v w' => v = .tuple #[.string (unhexS s), .bool (unhexL s.data.toList).isSome] ∧ Fr (fun _ => False) w w') ?_ (fun v w' h => ⟨by rw [h.1], h.2⟩)
  have hbad : ∀ {w' : World} {k : Nat}, k < s.size → dg (byt s k) = none → Fr (fun _ => False) w w' → (Value.tuple #[.string ⟨#[]⟩, .bool false] = .tuple #[.string (unhexS s), .bool (unhexL s.data.toList).isSome] ∧ Fr (fun _ => False) w w') := fun {w' k} hk hd hf => by
    have := unhexL_bad k s.data.toList _ (bs_get hk) (by rw [toNat_of _ (byt_lt _ _)]; exact hd)
    unfold unhexS
    rw [this]
    exact ⟨rfl, hf⟩
  refine ⟨fun l n w' => ∃ k r, n = ((2 * k : Nat) : Int) ∧ 2 * k ≤ s.size ∧ unhexL (s.data.toList.take (2 * k)) = some r ∧ Own w' w.heap.size T_uint8 l (byteV r) ∧ Fr (fun _ => False) w w', fun _ n _ => s.size - n.toNat, ⟨0, [], rfl, Nat.zero_le _, rfl, .nil _ _ _, .refl _ _⟩, ?_⟩
  rintro l3 n w5 ⟨k, r, rfl, hk, hr, ho, hf⟩
  have e1 : IntKind.i64.wrap (((2 * k : Nat) : Int) + 1) = ((2 * k + 1 : Nat) : Int) := by rw [wrap_i64 (by omega) (by omega)]; omega
  have e2 : IntKind.i64.wrap (((2 * k : Nat) : Int) + 2) = ((2 * (k + 1) : Nat) : Int) := by rw [wrap_i64 (by omega) (by omega)]; omega
  rw [e1, e2]
  have hrl : r.length = k := by
    have := unhexL_len _ _ hr
    rw [List.length_take, bs_len] at this; omega
  refine ⟨fun hlt w6 d6 => ?_, fun hge => ?_⟩
  · have hlt := of_decide_eq_true hlt
    rw [byteAt_nat, byteAt_nat]
    have hf6 : Fr (fun _ => False) w w6 := hf.trans' (.drew _ d6)
    refine ⟨fun _ => True, trivial, ⟨by omega, by omega⟩, ⟨by omega, by omega⟩, (digit_spec _ (byt_lt _ _) w6).mono ?_⟩
    rintro e w9 ⟨rfl, hw⟩
    replace hw := hw.symm
    subst hw
    refine ⟨_, rfl, trivial, (digit_spec _ (byt_lt _ _) w6).mono ?_⟩
    rintro e w12 ⟨rfl, hw⟩
    replace hw := hw.symm
    subst hw
    refine ⟨_, rfl, trivial, fun h => ?_, fun h => ⟨fun h2 => ?_, fun h2 => ⟨by decide, fun w14 h14 => ?_⟩⟩⟩
    · have h := of_decide_eq_true h
      cases hd : dg (byt s (2 * k)) with
      | none => exact hbad (k := 2 * k) (by omega) hd hf6
      | some x => rw [hd] at h; simp only at h; omega
    · have h2 := of_decide_eq_true h2
      cases hd : dg (byt s (2 * k + 1)) with
      | none => exact hbad (k := 2 * k + 1) (by omega) hd hf6
      | some x => rw [hd] at h2; simp only at h2; omega
    · have h := of_decide_eq_false h
      have h2 := of_decide_eq_false h2
      cases hd : dg (byt s (2 * k)) with
      | none => rw [hd] at h; simp at h
      | some x =>
        cases hd2 : dg (byt s (2 * k + 1)) with
        | none => rw [hd2] at h2; simp at h2
        | some y =>
          have hx1 := dg_lt hd
          have hy1 := dg_lt hd2
          have hor : 2 ^ 4 * x ||| y = 2 ^ 4 * x + y := (Nat.two_pow_add_eq_or_of_lt hy1 _).symm
          have ev : IntKind.u8.wrap (IntKind.i64.wrap (((BitVec.ofInt 64 (IntKind.i64.wrap ((x : Int) * 2 ^ min (Int.toNat 4) 64)) ||| BitVec.ofInt 64 (y : Int)).toNat : Nat) : Int)) = ((16 * x + y : Nat) : Int) := by
            rw [show (x : Int) * 2 ^ min (Int.toNat 4) 64 = ((2 ^ 4 * x : Nat) : Int) by rw [show (2 : Int) ^ min (Int.toNat 4) 64 = ((2 ^ 4 : Nat) : Int) from rfl, ← Int.natCast_mul, Nat.mul_comm], wrap_i64 (x := ((2 ^ 4 * x : Nat) : Int)) (by omega) (by omega), or_nat 64 _ _ (by omega) (by omega), hor, wrap_i64 (by omega) (by omega), wrap_u8 (by omega) (by omega)]
          rw [hd, hd2] at h14
          simp only at h14
          rw [ev] at h14
          obtain ⟨w15, l16, hr15, ho15, hf15, _⟩ := append_one' elByteH (ho.drew d6) (v := .int .u8 ((16 * x + y : Nat) : Int)) rfl (by rw [bv_len, hrl]; unfold maxLen; omega) (by rw [bv_len, hrl]; omega) hf6.size h14
          have ht := unhexL_take k s.data.toList r hr (by rw [bs_len]; omega) _ _ (bs_get (by omega)) (bs_get (by omega))
          rw [toNat_of _ (byt_lt _ _), toNat_of _ (byt_lt _ _), hd, hd2] at ht
          refine ⟨w15, l16, hr15, ⟨k + 1, _, rfl, by omega, ht, ?_, ?_⟩, by dsimp only; omega⟩
          · rw [← bv_snoc _ _ (by omega)]; exact ho15
          · exact hf6.trans hf15 fun q hq ⟨y, hy, e⟩ => by
              have := (ho.blk hy).1; omega
  · have hge := of_decide_eq_false hge
    have hm : Int.tmod (s.size : Int) 2 = ((s.size % 2 : Nat) : Int) := by rw [show (2 : Int) = ((2 : Nat) : Int) from rfl, Int.ofNat_tmod]
    rw [hm]
    refine ⟨by decide, fun h => ?_, fun h => ?_⟩
    · have h : ((s.size % 2 : Nat) : Int) ≠ 0 := by simpa using h
      have := unhexL_iff s.data.toList
      rw [bs_len, show (s.size % 2 == 0) = false by rw [beq_eq_false_iff_ne]; omega, Bool.and_false] at this
      have hn : unhexL s.data.toList = none := by simpa using this
      unfold unhexS
      rw [hn]
      exact ⟨rfl, hf⟩
    · have h : ((s.size % 2 : Nat) : Int) = 0 := by simpa using h
      have hks : 2 * k = s.size := by omega
      rw [hks, bs_all] at hr
      refine ⟨_, _, bytes_str (e := T_uint8) (by kernel_rfl) (by kernel_rfl) (by kernel_rfl) l3.cap ho.reads (by rw [ho.len, bv_len]), ?_, hf⟩
      unfold unhexS
      rw [hr]; rfl
/-- 'Id'. -/
theorem id_spec (s : ByteArray) (hs : s.size ≤ 140737488355328) (w : World) : Calls Try.prog F_sums_Id #[.string s] w fun e w' => e = .returned (.bool (isId s.data.toList)) ∧ Fr (fun _ => False) w w' := by
  refine vc_sums_Id_ok (R := fun v w' => v = .bool (isId s.data.toList) ∧ Fr (fun _ => False) w w') ?_ (fun v w' h => ⟨by rw [h.1], h.2⟩)
  refine (unhex_spec s hs w).mono ?_
  rintro e w2 ⟨rfl, hf⟩
  refine ⟨_, _, rfl, fun h => ⟨?_, hf⟩, fun h => ⟨?_, hf⟩⟩
  · unfold isId
    rw [h, Bool.true_and, bs_len]
    congr 1
    rw [Bool.eq_iff_iff, beq_iff_eq, beq_iff_eq]; omega
  · unfold isId; rw [h]; rfl
end Go.Proofs.Ytoagdpjickippaa

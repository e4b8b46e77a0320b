/- What the reference's functions on bits do. Conditions: the lists are short enough for a slice to hold (2 to the 40th). -/
import Derived.Test.YtofejgaanpaieaaBitL
import Derived.Test.YtofejgaanpaieaaVcSl
import Derived.Test.YtofejgaanpaieaaRef3
set_option linter.unusedVariables false
namespace Go.Proofs.Ytofejgaanpaieaa
open Go Vc BitsM Go.Proofs

theorem elBool : El Try.prog T_S_bool T_bool (.bool false) 1 := ⟨by kernel_rfl, by kernel_rfl, rfl⟩
theorem elByte : El Try.prog T_S_uint8 T_uint8 (.int .u8 0) 1 := ⟨by kernel_rfl, by kernel_rfl, rfl⟩
abbrev bl (l : List Bool) : List Value := l.map Value.bool
theorem bl_get {l : List Bool} {i : Nat} {b : Bool} (h : l[i]? = some b) : (bl l)[i]? = some (.bool b) := by simp [bl, h]
theorem one_bl (l : List Bool) : ∀ u ∈ bl l, u.oneCell' = true := fun u h => by
  obtain ⟨b, _, rfl⟩ := List.mem_map.1 h; rfl

/-- A new empty slice, not nil. -/
theorem own_empty (w : World) (e : TypeId) : Own (w.alloc (.cells #[] e)) w.heap.size e ⟨some ⟨w.heap.size, 0, none⟩, 0, 0⟩ [] :=
  ⟨rfl, .inr ⟨w.heap.size, #[], rfl, Nat.le_refl _, alloc_new _ _, Nat.le_refl _, Nat.zero_le _, rfl, rfl⟩⟩

/-- 'Number'. -/
theorem number_spec {a : Option Addr} {l : List Bool} {n c : Nat} {w : World} (hr : Reads w a (bl l)) (hn : l.length = n) (hs : l.length ≤ 1099511627776) :
    Calls Try.prog F_cartularyref03_Number #[.slice a n c] w fun e w' => e = .returned (.int .u32 ((num l % 4294967296 : Nat) : Int)) ∧ w' = w := by
  subst hn
  refine vc_cartularyref03_Number_ok (R := fun v w' => v = .int .u32 ((num l % 4294967296 : Nat) : Int) ∧ w' = w) ?_ (fun v w' h => ⟨by rw [h.1], h.2⟩)
  refine ⟨fun x i w' => w' = w ∧ ∃ k : Nat, k ≤ l.length ∧ i = (k : Int) - 1 ∧ x = ((num (l.drop k) % 4294967296 : Nat) : Int), fun _ i _ => (i + 1).toNat, ⟨rfl, l.length, Nat.le_refl _, ?_, ?_⟩, ?_⟩
  · rw [wrap_i64 (by omega) (by omega)]
  · rw [List.drop_length]; rfl
  rintro x i w5 ⟨rfl, k, hk, rfl, rfl⟩
  refine ⟨fun h => ?_, fun h => ?_⟩
  · have h := of_decide_eq_true h
    have hlt : k - 1 < l.length := by omega
    obtain ⟨y, hy, hc⟩ := hr _ _ (bl_get (List.getElem?_eq_getElem hlt))
    have hi : ((k : Int) - 1).toNat = k - 1 := by omega
    have hd : l.drop (k - 1) = l[k - 1] :: l.drop k := by
      rw [List.drop_eq_getElem_cons hlt, show k - 1 + 1 = k by omega]
    have hnum : num (l.drop (k - 1)) = l[k - 1].toNat + 2 * num (l.drop k) := by rw [hd]; rfl
    have e1 : IntKind.u32.wrap (2 * ((num (l.drop k) % 4294967296 : Nat) : Int)) = ((2 * num (l.drop k) % 4294967296 : Nat) : Int) := by rw [wrap_u32_mod]; omega
    have e2 : IntKind.i64.wrap ((k : Int) - 1 - 1) = ((k - 1 : Nat) : Int) - 1 := by rw [wrap_i64 (by omega) (by omega)]; omega
    refine ⟨⟨by omega, by omega⟩, y, hy, l[k - 1], by rw [hi, Nat.mul_one]; exact hc, fun hb => ?_, fun hb => ?_⟩
    · rw [e1, e2]
      refine ⟨⟨rfl, k - 1, by omega, rfl, ?_⟩, by dsimp only; omega⟩
      rw [wrap_u32_mod, hnum, hb]
      simp only [Bool.toNat_true]; omega
    · rw [e1, e2]
      refine ⟨⟨rfl, k - 1, by omega, rfl, ?_⟩, by dsimp only; omega⟩
      rw [hnum, hb]
      simp only [Bool.toNat_false]; omega
  · have h := of_decide_eq_false h
    have : k = 0 := by omega
    subst this
    exact ⟨rfl, rfl⟩

/-- 'Up'. -/
theorem up_spec (n : Nat) (hn : n ≤ 1099511627776) (w : World) : Calls Try.prog F_cartularyref03_Up #[.int .i64 n] w fun e w' => e = .returned (.int .i64 (((n + 7) / 8 * 8 : Nat) : Int)) ∧ w' = w := by
  refine vc_cartularyref03_Up_ok (R := fun v w' => v = .int .i64 (((n + 7) / 8 * 8 : Nat) : Int) ∧ w' = w) ?_ (fun v w' h => ⟨by rw [h.1], h.2⟩)
  refine ⟨by decide, ?_, rfl⟩
  rw [wrap_i64 (x := (n : Int) + 7) (by omega) (by omega), Int.tdiv_eq_ediv_of_nonneg (by omega), wrap_i64 (x := ((n : Int) + 7) / 8) (by omega) (by omega), wrap_i64 (by omega) (by omega)]
  rfl

/-- 'Few'. -/
theorem few_spec (s : ByteArray) (n : Nat) (w : World) : Calls Try.prog F_cartularylaw01_Few #[.string s, .int .i64 n] w fun e w' => e = .returned (.string (if s.size > n then s.extract 0 n else s)) ∧ w' = w := by
  refine vc_cartularylaw01_Few_ok (R := fun v w' => v = .string (if s.size > n then s.extract 0 n else s) ∧ w' = w) ?_ (fun v w' h => ⟨by rw [h.1], h.2⟩)
  refine ⟨fun h => ?_, fun h => ?_⟩
  · have h := of_decide_eq_true h
    rw [if_pos (by omega)]
    exact ⟨⟨by omega, by omega⟩, by simp, rfl⟩
  · have h := of_decide_eq_false h
    rw [if_neg (by omega)]
    exact ⟨rfl, rfl⟩

theorem bit_eq (x : Nat) (hx : x < 256) (k : Nat) (hk : k < 8) :
    (IntKind.u8.wrap (((BitVec.ofInt 8 (Int.fdiv (x : Int) (2 ^ min ((k : Int)).toNat 8)) &&& BitVec.ofInt 8 1).toNat : Nat) : Int) == 1) = x.testBit k := by
  have hm : min ((k : Int)).toNat 8 = k := by omega
  have hp : ((2 : Int) ^ k) = ((2 ^ k : Nat) : Int) := by push_cast; rfl
  rw [hm, hp, Int.fdiv_eq_ediv_of_nonneg _ (Int.natCast_nonneg _), ← Int.natCast_ediv]
  have hlt : x / 2 ^ k < 2 ^ 8 := Nat.lt_of_le_of_lt (Nat.div_le_self _ _) hx
  have h1 : (BitVec.ofInt 8 1) = BitVec.ofInt 8 ((1 : Nat) : Int) := rfl
  rw [h1, and_nat 8 _ _ hlt (by decide), Nat.and_one_is_mod, wrap_u8 (by omega) (by omega), Nat.testBit_eq_decide_div_mod_eq]
  rw [Bool.eq_iff_iff]
  simp only [beq_iff_eq, decide_eq_true_eq]
  omega

/-- 'Bits'. -/
theorem bits_spec (s : ByteArray) (hs : s.size ≤ 1099511627776) (w : World) :
    Calls Try.prog F_cartularyref03_Bits #[.string s] w fun e w' => ∃ l : Sl, e = .returned (.slice l.a l.len l.cap) ∧ Own w' w.heap.size T_bool l (bl (sbits s.data.toList)) ∧ Fr (fun _ => False) w w' := by
  refine vc_cartularyref03_Bits_ok (R := fun v w' => ∃ l : Sl, v = .slice l.a l.len l.cap ∧ Own w' w.heap.size T_bool l (bl (sbits s.data.toList)) ∧ Fr (fun _ => False) w w') ?_ (fun v w' ⟨l, h⟩ => ⟨l, by rw [h.1], h.2⟩)
  rintro w1 rfl
  let B := w.heap.size
  refine ⟨fun l i w' => ∃ k : Nat, k ≤ s.size ∧ i = (k : Int) ∧ Own w' w.heap.size T_bool l (bl (sbits (s.data.toList.take k))) ∧ Fr (fun _ => False) w w', fun _ i _ => ((s.size : Int) - i).toNat,
    ⟨0, by omega, rfl, own_empty w T_bool, .alloc _ _ _⟩, ?_⟩
  rintro l i w6 ⟨k, hk, rfl, ho, hf⟩
  refine ⟨fun h => ?_, fun h => ?_⟩
  · have h := of_decide_eq_true h
    have hlt : k < s.data.toList.length := by simp only [Array.length_toList]; exact (by omega : k < s.size)
    have hx : byt s k = (s.data.toList[k]).toNat := by unfold byt; rw [List.getElem?_eq_getElem hlt]; rfl
    have hx2 := byt_lt s k
    have hlen : (sbits (s.data.toList.take k)).length = 8 * k := by rw [sbits_length, List.length_take]; omega
    refine ⟨fun l j w' => ∃ m : Nat, m ≤ 8 ∧ j = (m : Int) ∧ Own w' w.heap.size T_bool l (bl (sbits (s.data.toList.take k) ++ lowB 8 (byt s k) |>.take (8 * k + m))) ∧ Fr (fun _ => False) w w', fun _ j _ => (8 - j).toNat,
      ⟨0, by omega, rfl, ?_, hf⟩, ?_⟩
    · rw [List.take_append_of_le_length (by omega), List.take_of_length_le (by omega)]; exact ho
    rintro l9 j w11 ⟨m, hm, rfl, ho9, hf9⟩
    refine ⟨fun h8 => ?_, fun h8 => ?_⟩
    · have h8 := of_decide_eq_true h8
      refine ⟨⟨by omega, by omega⟩, by omega, ?_⟩
      intro w12 hw12
      rw [byteAt_nat, bit_eq _ hx2 m (by omega)] at hw12
      have hll : (bl ((sbits (s.data.toList.take k) ++ lowB 8 (byt s k)).take (8 * k + m))).length = 8 * k + m := by
        simp only [bl, List.length_map, List.length_take, List.length_append, hlen, lowB_length]; omega
      obtain ⟨w13, l14, hr, ho14, hf14⟩ := append_one elBool ho9 (v := .bool ((byt s k).testBit m)) rfl (by rw [hll]; unfold maxLen; omega) (by rw [hll]; omega) hf9.size hw12
      have hfr : Fr (fun _ => False) w w13 := hf9.trans hf14 (fun q hq ⟨y, hy, e⟩ => by have := ho9.blk hy; omega)
      have e1 : IntKind.i64.wrap ((m : Int) + 1) = ((m + 1 : Nat) : Int) := by rw [wrap_i64 (by omega) (by omega)]; omega
      refine ⟨w13, l14, hr, ?_⟩
      rw [e1]
      refine ⟨⟨m + 1, by omega, rfl, ?_, hfr⟩, by dsimp only; omega⟩
      have : (sbits (s.data.toList.take k) ++ lowB 8 (byt s k)).take (8 * k + (m + 1)) = (sbits (s.data.toList.take k) ++ lowB 8 (byt s k)).take (8 * k + m) ++ [(byt s k).testBit m] := by
        have hg : (sbits (s.data.toList.take k) ++ lowB 8 (byt s k))[8 * k + m]? = some ((byt s k).testBit m) := by
          rw [List.getElem?_append_right (by omega), hlen, Nat.add_sub_cancel_left]
          exact lowB_get 8 _ m (by omega)
        rw [← Nat.add_assoc, List.take_add_one, hg]; rfl
      rw [this, bl, List.map_append]
      exact ho14
    · have h8 := of_decide_eq_false h8
      have : m = 8 := by omega
      subst this
      have e1 : IntKind.i64.wrap ((k : Int) + 1) = ((k + 1 : Nat) : Int) := by rw [wrap_i64 (by omega) (by omega)]; omega
      rw [e1]
      refine ⟨⟨k + 1, by omega, rfl, ?_, hf9⟩, by dsimp only; omega⟩
      have : sbits (s.data.toList.take (k + 1)) = (sbits (s.data.toList.take k) ++ lowB 8 (byt s k)).take (8 * k + 8) := by
        have hfull : (sbits (s.data.toList.take k) ++ lowB 8 (byt s k)).take (8 * k + 8) = sbits (s.data.toList.take k) ++ lowB 8 (byt s k) := List.take_of_length_le (by rw [List.length_append, hlen, lowB_length]; omega)
        rw [hfull, List.take_succ_eq_append_getElem hlt, sbits_append, hx]
        simp [sbits]
      rw [this]; exact ho9
  · have h := of_decide_eq_false h
    have : k = s.size := by omega
    subst this
    rw [List.take_of_length_le (by simp)] at ho
    exact ⟨l, rfl, ho, hf⟩
end Go.Proofs.Ytofejgaanpaieaa

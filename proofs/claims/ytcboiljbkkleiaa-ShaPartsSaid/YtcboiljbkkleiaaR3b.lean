/- What the reference's functions from bits do. Conditions: the lists are short enough for a slice to hold (2 to the 40th). -/
import Derived.Test.YtcboiljbkkleiaaR3
import Derived.Test.YtcboiljbkkleiaaBitW
set_option linter.unusedVariables false
namespace Go.Proofs.Ytcboiljbkkleiaa
open Go Vc BitsM Go.Proofs

theorem byteV_one (l : List UInt8) : ∀ u ∈ byteV l, u.oneCell' = true := fun u h => by
  obtain ⟨b, _, rfl⟩ := List.mem_map.1 h; rfl

/-- 'Text'. -/
theorem text_spec {a : Option Addr} {l : List Bool} {n : Nat} (c : Nat) {w : World} (hr : Reads w a (bl l)) (hn : l.length = n) (hs : l.length ≤ 1099511627776) :
    Calls Try.prog F_cartularyref03_Text #[.slice a n c] w fun e w' => e = .returned (.string ⟨(textOf l).toArray⟩) ∧ Fr (fun _ => False) w w' := by
  subst hn
  refine vc_cartularyref03_Text_ok (R := fun v w' => v = .string ⟨(textOf l).toArray⟩ ∧ Fr (fun _ => False) w w') ?_ (fun v w' h => ⟨by rw [h.1], h.2⟩)
  rintro w1 rfl
  refine ⟨fun s i w' => ∃ k : Nat, k ≤ l.length ∧ i = (k : Int) ∧ Own w' w.heap.size T_uint8 s (byteV (textOf (l.take k))) ∧ Fr (fun _ => False) w w', fun _ i _ => ((l.length : Int) - i).toNat,
    ⟨0, by omega, rfl, by rw [List.take_zero]; exact own_empty w T_uint8, .alloc _ _ _⟩, ?_⟩
  rintro s i w6 ⟨k, hk, rfl, ho, hf⟩
  refine ⟨fun h => ?_, fun h => ?_⟩
  · have h := of_decide_eq_true h
    have hlt : k < l.length := by omega
    obtain ⟨y, hy, hc⟩ := (hr.keep hf (by simp)).at (i := k) (by simpa using hlt)
    have htk : (l.take k).length = k := by rw [List.length_take]; omega
    have hm8 : Int.tmod (k : Int) 8 = ((k % 8 : Nat) : Int) := by rw [Int.tmod_eq_emod_of_nonneg (by omega)]; omega
    have hd8 : IntKind.i64.wrap (Int.tdiv (k : Int) 8) = ((k / 8 : Nat) : Int) := by rw [Int.tdiv_eq_ediv_of_nonneg (by omega), wrap_i64 (by omega) (by omega)]; omega
    have e1 : IntKind.i64.wrap ((k : Int) + 1) = ((k + 1 : Nat) : Int) := by rw [wrap_i64 (by omega) (by omega)]; omega
    have htake : l.take (k + 1) = l.take k ++ [l[k]] := List.take_succ_eq_append_getElem hlt
    rw [hm8, hd8, e1]
    refine ⟨⟨by omega, h⟩, y, hy, l[k], by rw [Int.toNat_natCast, Nat.mul_one]; simpa using hc, fun s13 w14 => Own w14 w.heap.size T_uint8 s13 (byteV (textOf (l.take k ++ [false]))) ∧ Fr (fun _ => False) w w14, ⟨by omega, fun h8 => ?_, fun h8 => ?_⟩, ?_⟩
    · have h8 : k % 8 = 0 := by have := eq_of_beq h8; omega
      intro w10 hw10
      have hl1 : (byteV (textOf (l.take k))).length = (k + 7) / 8 := by rw [List.length_map, textOf_length, htk]
      obtain ⟨w13, l14, hr', ho14, hf14⟩ := append_one elByte ho (v := .int .u8 0) rfl (by rw [hl1]; unfold maxLen; omega) (by rw [hl1]; omega) hf.size hw10
      refine ⟨w13, l14, hr', ?_, hf.trans hf14 (fun q hq ⟨y, hy, e⟩ => by have := ho.blk hy; omega)⟩
      rw [textOf_false, if_pos (by rw [htk]; exact h8), byteV, List.map_append]
      exact ho14
    · have h8 : k % 8 ≠ 0 := fun h => by rw [h] at h8; exact absurd h8 (by decide)
      rw [textOf_false, if_neg (by rw [htk]; exact h8)]
      exact ⟨ho, hf⟩
    rintro s13 w14 ⟨ho14, hf14⟩
    refine ⟨fun hb => ?_, fun hb => ?_⟩
    · intro w15 d
      obtain ⟨x, hx, hx2, hx3⟩ := textOf_true (l.take k)
      rw [htk] at hx hx2 hx3
      have hli : k / 8 < (byteV (textOf (l.take k ++ [false]))).length := by
        rw [List.length_map, textOf_length, List.length_append, htk, List.length_singleton]; omega
      have hxv : (byteV (textOf (l.take k ++ [false])))[k / 8] = .int .u8 ((x.toNat : Nat) : Int) := by
        have := (List.getElem?_eq_some_iff.1 hx).2
        simp only [byteV, List.getElem_map, this]
      obtain ⟨z, hz, hzc, hzw, hzs⟩ := (ho14.drew d).set hli
      rw [hxv] at hzc
      have hlen : k / 8 < s13.len := by rw [ho14.len]; exact hli
      have hbit : IntKind.u8.wrap (((x.toNat : Nat) : Int) + IntKind.u8.wrap (1 * 2 ^ min (((k % 8 : Nat) : Int)).toNat 8)) = ((x.toNat + 2 ^ (k % 8) : Nat) : Int) := by
        have hm : min (((k % 8 : Nat) : Int)).toNat 8 = k % 8 := by rw [Int.toNat_natCast]; omega
        have hp : ((2 : Int) ^ (k % 8)) = ((2 ^ (k % 8) : Nat) : Int) := by push_cast; rfl
        rw [hm, hp, Int.one_mul]
        revert hx2
        generalize 2 ^ (k % 8) = p
        intro hx2
        rw [wrap_u8 (x := (p : Int)) (by omega) (by omega), wrap_u8 (by omega) (by omega)]; omega
      simp only [Int.toNat_natCast, Nat.mul_one]
      refine ⟨by omega, ⟨by omega, by omega⟩, z, hz, _, hzc, by omega, by omega, ⟨by omega, by omega⟩, z, hz, hzw, ?_⟩
      rw [Int.toNat_natCast] at hbit
      rw [hbit]
      rintro w19 rfl
      obtain ⟨ho19, hf19⟩ := hzs (.int .u8 ((x.toNat + 2 ^ (k % 8) : Nat) : Int))
      refine ⟨⟨k + 1, by omega, rfl, ?_, (hf14.trans' (.drew _ d)).trans hf19 (fun q hq ⟨y, hy, e⟩ => by have := ho14.blk hy; omega)⟩, by omega⟩
      rw [htake, hb, hx3, byteV, List.map_set, UInt8.toNat_ofNat_of_lt' (by show _ < 256; omega)]
      exact ho19
    · refine ⟨⟨k + 1, by omega, rfl, ?_, hf14⟩, by dsimp only; omega⟩
      rw [htake, hb]; exact ho14
  · have h := of_decide_eq_false h
    have : k = l.length := by omega
    subst this
    rw [List.take_length] at ho
    refine ⟨w6, _, bytes_str elByte.sl (by kernel_rfl) (by kernel_rfl) _ ho.reads ?_, rfl, hf⟩
    rw [ho.len, List.length_map]

/-- 'Low'. -/
theorem low_spec (x : Nat) (hx : x < 4294967296) (n : Nat) (hn : n ≤ 1099511627776) (w : World) :
    Calls Try.prog F_cartularyref03_Low #[.int .u32 x, .int .i64 n] w fun e w' => ∃ l : Sl, e = .returned (.slice l.a l.len l.cap) ∧ Own w' w.heap.size T_bool l (bl (lowB n x)) ∧ Fr (fun _ => False) w w' := by
  refine vc_cartularyref03_Low_ok (R := fun v w' => ∃ l : Sl, v = .slice l.a l.len l.cap ∧ Own w' w.heap.size T_bool l (bl (lowB n x)) ∧ Fr (fun _ => False) w w') ?_ (fun v w' ⟨l, h⟩ => ⟨l, by rw [h.1], h.2⟩)
  rintro w1 rfl
  refine ⟨fun y l i w' => ∃ k : Nat, k ≤ n ∧ i = (k : Int) ∧ y = ((x / 2 ^ k : Nat) : Int) ∧ Own w' w.heap.size T_bool l (bl ((lowB n x).take k)) ∧ Fr (fun _ => False) w w', fun _ _ i _ => ((n : Int) - i).toNat,
    ⟨0, by omega, rfl, by simp, own_empty w T_bool, .alloc _ _ _⟩, ?_⟩
  rintro y l i w7 ⟨k, hk, rfl, rfl, ho, hf⟩
  refine ⟨fun h => ?_, fun h => ?_⟩
  · have h := of_decide_eq_true h
    have hlt : k < n := by omega
    have hxl : x / 2 ^ k ≤ x := Nat.div_le_self _ _
    have hdd : x / 2 ^ (k + 1) = x / 2 ^ k / 2 := by rw [Nat.pow_succ, Nat.div_div_eq_div_mul]
    refine ⟨by omega, fun w8 hw8 => ?_⟩
    have ebit : (Int.tmod ((x / 2 ^ k : Nat) : Int) 2 == 1) = x.testBit k := by
      rw [Nat.testBit_eq_decide_div_mod_eq]
      generalize x / 2 ^ k = q
      rw [Int.tmod_eq_emod_of_nonneg (by omega), Bool.eq_iff_iff]
      simp only [beq_iff_eq, decide_eq_true_eq]; omega
    rw [ebit] at hw8
    have hl1 : (bl ((lowB n x).take k)).length = k := by rw [List.length_map, List.length_take, lowB_length]; omega
    obtain ⟨w13, l14, hr', ho14, hf14⟩ := append_one elBool ho (v := .bool (x.testBit k)) rfl (by rw [hl1]; unfold maxLen; omega) (by rw [hl1]; omega) hf.size hw8
    have e1 : IntKind.i64.wrap ((k : Int) + 1) = ((k + 1 : Nat) : Int) := by rw [wrap_i64 (by omega) (by omega)]; omega
    have e2 : IntKind.u32.wrap (Int.tdiv ((x / 2 ^ k : Nat) : Int) 2) = ((x / 2 ^ (k + 1) : Nat) : Int) := by
      rw [hdd]
      revert hxl
      generalize x / 2 ^ k = q
      intro hxl
      rw [Int.tdiv_eq_ediv_of_nonneg (by omega), wrap_u32 (by omega) (by omega)]; omega
    refine ⟨w13, l14, hr', by omega, ?_⟩
    rw [e1, e2]
    refine ⟨⟨k + 1, by omega, rfl, rfl, ?_, hf.trans hf14 (fun q hq ⟨y, hy, e⟩ => by have := ho.blk hy; omega)⟩, by dsimp only; omega⟩
    have : (lowB n x).take (k + 1) = (lowB n x).take k ++ [x.testBit k] := by rw [List.take_add_one, lowB_get n x k hlt]; rfl
    rw [this, bl, List.map_append]
    exact ho14
  · have h := of_decide_eq_false h
    have : k = n := by omega
    subst this
    rw [List.take_of_length_le (by rw [lowB_length]; omega)] at ho
    exact ⟨l, rfl, ho, hf⟩

/-- 'Turn'. -/
theorem turn_spec {a : Option Addr} {l : List Bool} {n : Nat} (c : Nat) {w : World} (hr : Reads w a (bl l)) (hn : l.length = n) (hs : l.length ≤ 1099511627776) :
    Calls Try.prog F_cartularyref03_Turn #[.slice a n c] w fun e w' => ∃ s : Sl, e = .returned (.slice s.a s.len s.cap) ∧ Own w' w.heap.size T_bool s (bl l.reverse) ∧ Fr (fun _ => False) w w' := by
  subst hn
  refine vc_cartularyref03_Turn_ok (R := fun v w' => ∃ s : Sl, v = .slice s.a s.len s.cap ∧ Own w' w.heap.size T_bool s (bl l.reverse) ∧ Fr (fun _ => False) w w') ?_ (fun v w' ⟨l, h⟩ => ⟨l, by rw [h.1], h.2⟩)
  rintro w1 rfl
  refine ⟨fun s i w' => ∃ k : Nat, k ≤ l.length ∧ i = (k : Int) - 1 ∧ Own w' w.heap.size T_bool s (bl (l.drop k).reverse) ∧ Fr (fun _ => False) w w', fun _ i _ => (i + 1).toNat,
    ⟨l.length, Nat.le_refl _, by rw [wrap_i64 (by omega) (by omega)], by rw [List.drop_length]; exact own_empty w T_bool, .alloc _ _ _⟩, ?_⟩
  rintro s i w6 ⟨k, hk, rfl, ho, hf⟩
  refine ⟨fun h => ?_, fun h => ?_⟩
  · have h := of_decide_eq_true h
    have hlt : k - 1 < l.length := by omega
    obtain ⟨y, hy, hc⟩ := (hr.keep hf (by simp)).at (i := k - 1) (by simpa using hlt)
    have hi : ((k : Int) - 1).toNat = k - 1 := by omega
    refine ⟨⟨by omega, by omega⟩, y, hy, l[k - 1], by rw [hi, Nat.mul_one]; simpa using hc, fun w9 hw9 => ?_⟩
    have hl1 : (bl (l.drop k).reverse).length = l.length - k := by simp
    obtain ⟨w13, l14, hr', ho14, hf14⟩ := append_one elBool ho (v := .bool l[k - 1]) rfl (by rw [hl1]; unfold maxLen; omega) (by rw [hl1]; omega) hf.size hw9
    have e1 : IntKind.i64.wrap ((k : Int) - 1 - 1) = ((k - 1 : Nat) : Int) - 1 := by rw [wrap_i64 (by omega) (by omega)]; omega
    refine ⟨w13, l14, hr', ?_⟩
    rw [e1]
    refine ⟨⟨k - 1, by omega, rfl, ?_, hf.trans hf14 (fun q hq ⟨y, hy, e⟩ => by have := ho.blk hy; omega)⟩, by dsimp only; omega⟩
    have hd : l.drop (k - 1) = l[k - 1] :: l.drop k := by
      rw [List.drop_eq_getElem_cons hlt, show k - 1 + 1 = k by omega]
    rw [hd, List.reverse_cons, bl, List.map_append]
    exact ho14
  · have h := of_decide_eq_false h
    have : k = 0 := by omega
    subst this
    exact ⟨s, rfl, ho, hf⟩
end Go.Proofs.Ytcboiljbkkleiaa

/- Plain facts on bits put into bytes. -/
import Derived.Test.YtofejgaanpaieaaBitL
set_option linter.unusedVariables false
namespace BitsM
open Vc
/-- Byte number i of a list of bits. -/
def byteOf (l : List Bool) (i : Nat) : UInt8 := UInt8.ofNat (num ((l.drop (8 * i)).take 8))
theorem byteOf_nat (l : List Bool) (i : Nat) : (byteOf l i).toNat = num ((l.drop (8 * i)).take 8) := by
  unfold byteOf
  have h := num_lt ((l.drop (8 * i)).take 8)
  have : 2 ^ ((l.drop (8 * i)).take 8).length ≤ 2 ^ 8 := Nat.pow_le_pow_right (by decide) (List.length_take_le _ _)
  rw [UInt8.toNat_ofNat_of_lt']
  exact Nat.lt_of_lt_of_le h this
/-- The first k bytes. -/
def bytesOf (l : List Bool) (k : Nat) : List UInt8 := (List.range k).map (byteOf l)
theorem bytesOf_length (l : List Bool) (k : Nat) : (bytesOf l k).length = k := by simp [bytesOf]
theorem bytesOf_succ (l : List Bool) (k : Nat) : bytesOf l (k + 1) = bytesOf l k ++ [byteOf l k] := by simp [bytesOf, List.range_succ]
theorem byteOf_append (l r : List Bool) (i : Nat) (h : 8 * (i + 1) ≤ l.length) : byteOf (l ++ r) i = byteOf l i := by
  unfold byteOf
  rw [List.drop_append_of_le_length (by omega), List.take_append_of_le_length (by rw [List.length_drop]; omega)]
theorem bytesOf_append (l r : List Bool) (k : Nat) (h : 8 * k ≤ l.length) : bytesOf (l ++ r) k = bytesOf l k := by
  unfold bytesOf
  apply List.map_congr_left
  intro i hi
  have := List.mem_range.1 hi
  exact byteOf_append l r i (by omega)
/-- All the bytes, the last one filled with noughts. -/
def textOf (l : List Bool) : List UInt8 := bytesOf l ((l.length + 7) / 8)
theorem textOf_length (l : List Bool) : (textOf l).length = (l.length + 7) / 8 := bytesOf_length _ _
/-- The bits of the bytes are the bits, and noughts. -/
def fill8 (l : List Bool) : List Bool := l ++ List.replicate (8 * ((l.length + 7) / 8) - l.length) false
theorem num_replicate : ∀ n, num (List.replicate n false) = 0
  | 0 => rfl
  | n + 1 => by simp [List.replicate_succ, num, num_replicate n]
theorem byteOf_fill (l : List Bool) (i : Nat) : byteOf (fill8 l) i = byteOf l i := by
  have : num (((fill8 l).drop (8 * i)).take 8) = num ((l.drop (8 * i)).take 8) := by
    rw [num_take, num_take, num_drop, num_drop]
    unfold fill8
    rw [num_append, num_replicate]; simp
  unfold byteOf; rw [this]
theorem lowB_num : ∀ (l : List Bool), lowB l.length (num l) = l
  | [] => rfl
  | b :: r => by
    simp only [List.length_cons, lowB, num]
    have h1 : (b.toNat + 2 * num r) % 2 = b.toNat := by have := Bool.toNat_le b; omega
    have h2 : (b.toNat + 2 * num r) / 2 = num r := by have := Bool.toNat_le b; omega
    rw [h1, h2, lowB_num r]
    cases b <;> rfl
theorem sbits_bytesOf (l : List Bool) : ∀ k, 8 * k ≤ l.length → sbits (bytesOf l k) = l.take (8 * k)
  | 0, _ => rfl
  | k + 1, h => by
    rw [bytesOf_succ, sbits_append, sbits_bytesOf l k (by omega)]
    simp only [sbits, List.append_nil, byteOf_nat]
    have hl : ((l.drop (8 * k)).take 8).length = 8 := by simp; omega
    have := lowB_num ((l.drop (8 * k)).take 8)
    rw [hl] at this
    rw [this, show 8 * (k + 1) = 8 * k + 8 by omega, List.take_add]
theorem sbits_textOf (l : List Bool) : sbits (textOf l) = fill8 l := by
  have hl : (fill8 l).length = 8 * ((l.length + 7) / 8) := by unfold fill8; simp; omega
  have h1 : textOf l = bytesOf (fill8 l) ((l.length + 7) / 8) := by
    unfold textOf bytesOf
    apply List.map_congr_left
    intro i _
    exact (byteOf_fill l i).symm
  rw [h1, sbits_bytesOf _ _ (by omega), ← hl, List.take_length]
theorem textOf_false (l : List Bool) : textOf (l ++ [false]) = if l.length % 8 = 0 then textOf l ++ [0] else textOf l := by
  have hb : ∀ i, byteOf (l ++ [false]) i = byteOf l i := fun i => by
    have : num (((l ++ [false]).drop (8 * i)).take 8) = num ((l.drop (8 * i)).take 8) := by
      rw [num_take, num_take, num_drop, num_drop, num_append]; simp [num]
    unfold byteOf; rw [this]
  have hm : ∀ k, bytesOf (l ++ [false]) k = bytesOf l k := fun k => by
    unfold bytesOf; exact List.map_congr_left fun i _ => hb i
  unfold textOf
  rw [hm, List.length_append, List.length_singleton]
  split
  · rename_i h
    rw [show (l.length + 1 + 7) / 8 = (l.length + 7) / 8 + 1 by omega, bytesOf_succ]
    have : byteOf l ((l.length + 7) / 8) = 0 := by
      unfold byteOf
      rw [List.drop_eq_nil_of_le (by omega)]; rfl
    rw [this]
  · rename_i h
    rw [show (l.length + 1 + 7) / 8 = (l.length + 7) / 8 by omega]
theorem textOf_true (l : List Bool) : ∃ x : UInt8, (textOf (l ++ [false]))[l.length / 8]? = some x ∧ x.toNat + 2 ^ (l.length % 8) < 256 ∧
    textOf (l ++ [true]) = (textOf (l ++ [false])).set (l.length / 8) (UInt8.ofNat (x.toNat + 2 ^ (l.length % 8))) := by
  have h1 : ∀ b, num (((l ++ [b]).drop (8 * (l.length / 8))).take 8) = num (l.drop (8 * (l.length / 8))) + 2 ^ (l.length % 8) * b.toNat := fun b => by
    rw [List.take_of_length_le (by simp; omega), List.drop_append_of_le_length (by omega), num_append, List.length_drop]
    rw [show l.length - 8 * (l.length / 8) = l.length % 8 by omega]; simp [num]
  have hlt := num_lt (l.drop (8 * (l.length / 8)))
  rw [List.length_drop, show l.length - 8 * (l.length / 8) = l.length % 8 by omega] at hlt
  have hp : 2 ^ (l.length % 8) ≤ 2 ^ 7 := Nat.pow_le_pow_right (by decide) (by omega)
  have hf := byteOf_nat (l ++ [false]) (l.length / 8)
  have ht := byteOf_nat (l ++ [true]) (l.length / 8)
  rw [h1] at hf ht
  simp only [Bool.toNat_false, Bool.toNat_true, Nat.mul_zero, Nat.add_zero, Nat.mul_one] at hf ht
  refine ⟨byteOf (l ++ [false]) (l.length / 8), ?_, by omega, ?_⟩
  · unfold textOf bytesOf
    rw [List.getElem?_map, List.getElem?_range (by simp; omega)]; rfl
  · apply List.ext_getElem?
    intro i
    rw [List.getElem?_set, textOf_length]
    have hlen : ((l ++ [false]).length + 7) / 8 = l.length / 8 + 1 := by simp; omega
    have hlen2 : ((l ++ [true]).length + 7) / 8 = l.length / 8 + 1 := by simp; omega
    unfold textOf bytesOf
    rw [hlen, hlen2]
    by_cases hi : l.length / 8 = i
    · subst hi
      rw [if_pos rfl, if_pos (by omega), List.getElem?_map, List.getElem?_range (by omega)]
      simp only [Option.map_some, Option.some.injEq]
      apply UInt8.toNat_inj.1
      rw [ht, hf, UInt8.toNat_ofNat_of_lt' (by show _ < 256; omega)]
    · rw [if_neg hi, List.getElem?_map, List.getElem?_map]
      by_cases hlt : i < l.length / 8 + 1
      · rw [List.getElem?_range hlt]
        simp only [Option.map_some]
        rw [byteOf_append l [true] i (by omega), byteOf_append l [false] i (by omega)]
      · simp [List.getElem?_eq_none (show (List.range (l.length / 8 + 1)).length ≤ i by simp; omega)]
theorem textOf_sbits (m : List UInt8) : textOf (sbits m) = m := by
  apply List.ext_getElem?
  intro i
  unfold textOf bytesOf
  rw [sbits_length, show (8 * m.length + 7) / 8 = m.length by omega, List.getElem?_map]
  by_cases hi : i < m.length
  · rw [List.getElem?_range hi, List.getElem?_eq_getElem hi]
    simp only [Option.map_some, Option.some.injEq]
    apply UInt8.toNat_inj.1
    rw [byteOf_nat, ← sbits_drop, List.drop_eq_getElem_cons hi]
    have := (m[i]).toNat_lt
    simp only [sbits]
    rw [List.take_append_of_le_length (by rw [lowB_length]; omega), List.take_of_length_le (by rw [lowB_length]; omega), num_lowB, Nat.mod_eq_of_lt (by omega)]
  · rw [List.getElem?_eq_none (by simp; omega), List.getElem?_eq_none (by omega)]; rfl
theorem lowB_zero : ∀ n, lowB n 0 = List.replicate n false
  | 0 => rfl
  | n + 1 => by simp [lowB, lowB_zero n, List.replicate_succ]
theorem fill8_length (l : List Bool) : (fill8 l).length = 8 * ((l.length + 7) / 8) := by unfold fill8; simp; omega
theorem fill8_lowB (l : List Bool) (h : l.length % 8 ≠ 0) : l ++ lowB (8 - l.length % 8) 0 = fill8 l := by
  unfold fill8
  rw [lowB_zero, show 8 * ((l.length + 7) / 8) - l.length = 8 - l.length % 8 by omega]
theorem fill8_whole (l : List Bool) (h : l.length % 8 = 0) : fill8 l = l := by
  unfold fill8
  rw [show 8 * ((l.length + 7) / 8) - l.length = 0 by omega]; simp
theorem bytesOf_sbits (L : List Bool) (q : Nat) (hq : L.length = 8 * q) (s : List UInt8) : ∀ j, j ≤ s.length → bytesOf (L ++ sbits s) (q + j) = bytesOf L q ++ s.take j
  | 0, _ => by rw [Nat.add_zero, bytesOf_append _ _ _ (by omega)]; simp
  | j + 1, h => by
    rw [← Nat.add_assoc, bytesOf_succ, bytesOf_sbits L q hq s j (by omega), List.take_succ_eq_append_getElem (by omega), List.append_assoc]
    congr 2
    have h1 : byteOf (L ++ sbits s) (q + j) = byteOf (sbits s) j := by
      unfold byteOf
      rw [show 8 * (q + j) = L.length + 8 * j by omega, ← List.drop_drop, List.drop_left]
    have h2 := congrArg (fun l => l[j]?) (textOf_sbits s)
    simp only [textOf, bytesOf, sbits_length] at h2
    rw [show (8 * s.length + 7) / 8 = s.length by omega, List.getElem?_map, List.getElem?_range (by omega), List.getElem?_eq_getElem (by omega)] at h2
    simp only [Option.map_some, Option.some.injEq] at h2
    rw [h1, h2]
end BitsM

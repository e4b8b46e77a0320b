/- Texts of this seat in one: made by a program of ours. -/
import Derived.Test.YtaaimcbicpgjoaaGreatDoorCartularyPacksQ0
import Derived.Lib.OthersKept
import Derived.Lib.IndexLaws
import Derived.Laws.Strings
import Derived.Laws.RangeString
import Derived.Laws.IdiomCopy
import Derived.Laws.IdiomStrings
import Derived.Test.YtaaimcbicpgjoaaGreatDoorProg
/- Texts as lists of bytes: places, parts, runes, the model's iterator over a text. No condition: for all programs. -/
set_option linter.unusedVariables false
namespace Vc
open Go

theorem bs_len (s : ByteArray) : s.data.toList.length = s.size := by simp
theorem bs_ext {a b : ByteArray} (h : a.data.toList = b.data.toList) : a = b := ByteArray.ext (Array.ext' h)
theorem bs_app (a b : ByteArray) : (a ++ b).data.toList = a.data.toList ++ b.data.toList := by simp
theorem bs_mk (l : List UInt8) : (⟨l.toArray⟩ : ByteArray).data.toList = l := by simp
theorem bs_mksize (l : List UInt8) : (⟨l.toArray⟩ : ByteArray).size = l.length := by simp [ByteArray.size]
theorem bs_self (s : ByteArray) : (⟨s.data.toList.toArray⟩ : ByteArray) = s := bs_ext (by simp)
theorem bs_extract (s : ByteArray) (i j : Nat) : (s.extract i j).data.toList = (s.data.toList.drop i).take (j - i) := by
  rw [ByteArray.data_extract, Array.toList_extract, List.extract_eq_take_drop]
theorem bs_tail (s : ByteArray) (i : Nat) : (s.extract i s.size).data.toList = s.data.toList.drop i := by
  rw [bs_extract, List.take_of_length_le (by rw [List.length_drop, bs_len]; exact Nat.le_refl _)]
theorem bs_head (s : ByteArray) (i : Nat) : (s.extract 0 i).data.toList = s.data.toList.take i := by rw [bs_extract]; simp
theorem bs_empty {s : ByteArray} : s = ⟨#[]⟩ ↔ s.size = 0 := by
  constructor
  · rintro rfl; rfl
  · intro h
    have : s.data.toList = [] := List.length_eq_zero_iff.1 (by rw [bs_len]; exact h)
    exact bs_ext (by rw [this])
theorem bs_eq (a b : ByteArray) : (a.toList == b.toList) = decide (a = b) := by
  rw [ByteArray.toList_eq, ByteArray.toList_eq]
  by_cases h : a = b
  · subst h; simp
  · rw [decide_eq_false h, beq_eq_false_iff_ne]
    exact fun e => h (bs_ext e)
theorem bs_byt {s : ByteArray} {i : Nat} (h : i < s.size) : byt s i = (s.data.toList[i]'(by rw [bs_len]; exact h)).toNat := by
  unfold byt; rw [List.getElem?_eq_getElem (by rw [bs_len]; exact h)]; rfl
theorem bs_get {s : ByteArray} {i : Nat} (h : i < s.size) : s.data.toList[i]? = some (UInt8.ofNat (byt s i)) := by
  rw [bs_byt h, List.getElem?_eq_getElem (by rw [bs_len]; exact h), UInt8.ofNat_toNat]
theorem bs_get? {s : ByteArray} {i : Nat} {c : UInt8} (h : s.data.toList[i]? = some c) : i < s.size ∧ byt s i = c.toNat := by
  obtain ⟨hl, hc⟩ := List.getElem?_eq_some_iff.1 h
  rw [bs_len] at hl
  exact ⟨hl, by rw [bs_byt hl, hc]⟩
theorem bs_take {s : ByteArray} {n : Nat} (h : n < s.size) : s.data.toList.take (n + 1) = s.data.toList.take n ++ [UInt8.ofNat (byt s n)] := by
  have hlt : n < s.data.toList.length := by rw [bs_len]; exact h
  rw [List.take_succ_eq_append_getElem hlt, bs_byt h, UInt8.ofNat_toNat]
theorem bs_all (s : ByteArray) : s.data.toList.take s.size = s.data.toList := List.take_of_length_le (by simp)
theorem bv_snoc (l : List UInt8) (c : Nat) (h : c < 256) : byteV l ++ [.int .u8 (c : Int)] = byteV (l ++ [UInt8.ofNat c]) := by
  simp [byteV]
  omega
theorem bv_len (l : List UInt8) : (byteV l).length = l.length := by simp [byteV]
theorem bv_one (l : List UInt8) : ∀ u ∈ byteV l, u.oneCell' = true := fun u h => by
  obtain ⟨b, _, rfl⟩ := List.mem_map.1 h; rfl
theorem toNat_of (c : Nat) (h : c < 256) : (UInt8.ofNat c).toNat = c := by simp; omega
theorem ofNat_inj {a b : Nat} (ha : a < 256) (hb : b < 256) (h : UInt8.ofNat a = UInt8.ofNat b) : a = b := by
  have := congrArg UInt8.toNat h
  rwa [toNat_of a ha, toNat_of b hb] at this
/-- Texts that differ nowhere. -/
theorem bs_ext_byt {a b : ByteArray} (hs : a.size = b.size) (h : ∀ i, i < a.size → byt a i = byt b i) : a = b := by
  refine bs_ext (List.ext_getElem? fun i => ?_)
  by_cases hi : i < a.size
  · rw [bs_get hi, bs_get (by omega), h i hi]
  · rw [List.getElem?_eq_none (by rw [bs_len]; omega), List.getElem?_eq_none (by rw [bs_len]; omega)]
theorem byt_extract {s : ByteArray} {i j k : Nat} (hj : j ≤ s.size) (hk : k < j - i) : byt (s.extract i j) k = byt s (i + k) := by
  unfold byt
  rw [bs_extract, List.getElem?_take, if_pos hk, List.getElem?_drop]

/-! ### Where a byte comes first -/
open Go.Lib in
theorem fnd_cases (s : ByteArray) (c : UInt8) : (indexByte s.data.toList c = -1 ∧ ∀ k, k < s.size → byt s k ≠ c.toNat) ∨
    ∃ i : Nat, indexByte s.data.toList c = (i : Int) ∧ i < s.size ∧ byt s i = c.toNat ∧ ∀ k, k < i → byt s k ≠ c.toNat := by
  by_cases h : indexByte s.data.toList c = -1
  · refine .inl ⟨h, fun k hk he => indexByte_none h k ?_⟩
    rw [bs_get hk, he, UInt8.ofNat_toNat]
  · have hg := indexByte_ge s.data.toList c
    obtain ⟨i, hi⟩ := Int.eq_ofNat_of_zero_le (show 0 ≤ indexByte s.data.toList c by omega)
    obtain ⟨h1, h2⟩ := indexByte_some hi
    obtain ⟨h3, h4⟩ := bs_get? h1
    refine .inr ⟨i, hi, h3, h4, fun k hk he => h2 k hk ?_⟩
    rw [bs_get (by omega), he, UInt8.ofNat_toNat]
open Go.Lib in
theorem fnd_at {s : ByteArray} {c : UInt8} {i : Nat} (h : i < s.size) (hc : byt s i = c.toNat) (hn : ∀ k, k < i → byt s k ≠ c.toNat) : indexByte s.data.toList c = (i : Int) := by
  rcases fnd_cases s c with ⟨_, h2⟩ | ⟨j, h1, h2, h3, h4⟩
  · exact absurd hc (h2 i h)
  · rw [h1]
    by_cases hij : i < j
    · exact absurd hc (h4 i hij)
    · by_cases hji : j < i
      · exact absurd h3 (hn j hji)
      · have : i = j := by omega
        rw [this]
open Go.Lib in
theorem fnd_no {s : ByteArray} {c : UInt8} (h : ∀ k, k < s.size → byt s k ≠ c.toNat) : indexByte s.data.toList c = -1 := by
  rcases fnd_cases s c with ⟨h1, _⟩ | ⟨i, _, h2, h3, _⟩
  · exact h1
  · exact absurd h3 (h i h2)

/-! ### Runes -/
theorem get_byt {s : ByteArray} {i : Nat} (h : i < s.size) : (s.get! i).toNat = byt s i := by
  rw [bs_byt h]
  obtain ⟨d⟩ := s
  have h' : i < d.size := h
  show (d[i]!).toNat = _
  rw [getElem!_pos d i h']
  simp
theorem dec_high {s : ByteArray} {p : Nat} (h : p < s.size) (hb : 128 ≤ byt s p) :
    128 ≤ (Utf8.decode s p).1 ∧ (Utf8.decode s p).1 ≤ 1114111 ∧ 1 ≤ (Utf8.decode s p).2 ∧ p + (Utf8.decode s p).2 ≤ s.size ∧ ∀ j, p ≤ j → j < p + (Utf8.decode s p).2 → 128 ≤ byt s j := by
  have hb0 := byt_lt s p
  have g0 : (s.get! (p + 0)).toNat = byt s p := get_byt h
  have one : 128 ≤ ((65533, 1) : Nat × Nat).1 ∧ ((65533, 1) : Nat × Nat).1 ≤ 1114111 ∧ 1 ≤ ((65533, 1) : Nat × Nat).2 ∧ p + ((65533, 1) : Nat × Nat).2 ≤ s.size ∧ ∀ j, p ≤ j → j < p + ((65533, 1) : Nat × Nat).2 → 128 ≤ byt s j :=
    ⟨by decide, by decide, by decide, h, fun j h1 h2 => by have : j = p := by simp only at h2; omega
                                                           rw [this]; exact hb⟩
  have cont : ∀ k, p + k < s.size → (s.get! (p + k)).toNat / 64 = 2 → 128 ≤ byt s (p + k) := fun k hk hc => by
    rw [get_byt hk] at hc; omega
  unfold Utf8.decode Utf8.runeError
  simp only [g0]
  rw [if_neg (by omega)]
  split
  · rename_i hc
    simp only [Bool.and_eq_true, beq_iff_eq, decide_eq_true_eq] at hc
    obtain ⟨h1, h2, h3⟩ := hc
    split
    · rename_i hv
      refine ⟨hv, by simp only; omega, by simp, by simp only; omega, fun j hj1 hj2 => ?_⟩
      simp only at hj2
      by_cases hjp : j = p
      · rw [hjp]; exact hb
      · have : j = p + 1 := by omega
        rw [this]; exact cont 1 h2 h3
    · exact one
  · split
    · rename_i hc
      simp only [Bool.and_eq_true, beq_iff_eq, decide_eq_true_eq] at hc
      obtain ⟨⟨h1, h2, h3⟩, h4, h5⟩ := hc
      split
      · rename_i hv
        simp only [Bool.and_eq_true, decide_eq_true_eq] at hv
        refine ⟨by simp only; omega, by simp only; omega, by simp, by simp only; omega, fun j hj1 hj2 => ?_⟩
        simp only at hj2
        by_cases hjp : j = p
        · rw [hjp]; exact hb
        · by_cases hj1' : j = p + 1
          · rw [hj1']; exact cont 1 h2 h3
          · have : j = p + 2 := by omega
            rw [this]; exact cont 2 h4 h5
      · exact one
    · split
      · rename_i hc
        simp only [Bool.and_eq_true, beq_iff_eq, decide_eq_true_eq] at hc
        obtain ⟨⟨⟨h1, h2, h3⟩, h4, h5⟩, h6, h7⟩ := hc
        split
        · rename_i hv
          simp only [Bool.and_eq_true, decide_eq_true_eq] at hv
          have hval := hv.2
          simp only [Utf8.valid, Bool.or_eq_true, Bool.and_eq_true, decide_eq_true_eq] at hval
          refine ⟨by simp only; omega, by simp only; omega, by simp, by simp only; omega, fun j hj1 hj2 => ?_⟩
          simp only at hj2
          by_cases hjp : j = p
          · rw [hjp]; exact hb
          · by_cases hj1' : j = p + 1
            · rw [hj1']; exact cont 1 h2 h3
            · by_cases hj2' : j = p + 2
              · rw [hj2']; exact cont 2 h4 h5
              · have : j = p + 3 := by omega
                rw [this]; exact cont 3 h6 h7
        · exact one
      · exact one
theorem dec_low {s : ByteArray} {p : Nat} (h : p < s.size) (hb : byt s p < 128) : Utf8.decode s p = (byt s p, 1) := by
  have g0 : (s.get! (p + 0)).toNat = byt s p := get_byt h
  unfold Utf8.decode
  simp only [g0]
  rw [if_pos (by omega)]
/-- An iterator over a text. -/
def IsIter (w : World) (k : Nat) (s : ByteArray) (p : Nat) : Prop := w.heap[k]? = some (.stringIter s p)
theorem IsIter.keep {w w1 : World} {k p : Nat} {s : ByteArray} (h : IsIter w k s p) {X : Nat → Prop} (hf : Fr X w w1) (hx : ¬ X k) : IsIter w1 k s p := hf.keep h hx
section
variable {P : Program}
theorem iter_new {w : World} {t : TypeId} {s : ByteArray} (ht : P.underlying t = some .string) :
    ∃ w', (Instr.range t (.string s)).run P w = .ok (.pointer (some ⟨w.heap.size, 0, none⟩)) w' ∧ IsIter w' w.heap.size s 0 ∧ Fr (fun _ => False) w w' :=
  ⟨_, run_range_string w t s ht, World.iter_heap w s 0, .alloc _ _ _⟩
theorem iter_end {w : World} {k p : Nat} {s : ByteArray} (h : IsIter w k s p) (hp : s.size ≤ p) (ty : TypeId) : (Instr.next (.pointer (some ⟨k, 0, none⟩)) true ty).run P w = .ok (.tuple #[.bool false]) w :=
  Lib.run_next_end_at w k s p ty h (by omega)
theorem iter_next {w : World} {k p : Nat} {s : ByteArray} (h : IsIter w k s p) (hp : p < s.size) (ty : TypeId) :
    ∃ w', (Instr.next (.pointer (some ⟨k, 0, none⟩)) true ty).run P w = .ok (.tuple #[.bool true, .int .i64 p, .int .i32 (Utf8.decode s p).1]) w' ∧ IsIter w' k s (p + (Utf8.decode s p).2) ∧ Fr (· = k) w w' :=
  ⟨_, Lib.run_next_any_at w k s p ty h hp, Lib.iterAt_heap w k s p _ h, ⟨rfl, rfl, rfl, by rw [Lib.iterAt_size]; exact Nat.le_refl _, fun j _ hj => Lib.iterAt_other w k j s _ hj⟩⟩
end
end Vc
namespace Vc
open Go
/-- How much an iterator has ahead of it. -/
def itLeft (k : Nat) (w : World) : Nat := match w.heap[k]? with
  | some (.stringIter s p) => s.size - p
  | _ => 0
theorem IsIter.left {w : World} {k p : Nat} {s : ByteArray} (h : IsIter w k s p) : itLeft k w = s.size - p := by
  unfold itLeft; rw [h]
/-- A rune's text. -/
theorem enc_high {r : Nat} (h : 128 ≤ r) : 2 ≤ (Utf8.encode r).size ∧ (Utf8.encode r).size ≤ 4 ∧ 128 ≤ byt (Utf8.encode r) ((Utf8.encode r).size - 1) := by
  have key : ∀ c : Nat, 128 ≤ c → ∀ (b : Nat → UInt8), (b = fun n => UInt8.ofNat n) →
      let t : ByteArray := if c < 0x80 then ⟨#[b c]⟩ else if c < 0x800 then ⟨#[b (0xC0 + c / 64), b (0x80 + c % 64)]⟩ else if c < 0x10000 then ⟨#[b (0xE0 + c / 4096), b (0x80 + c / 64 % 64), b (0x80 + c % 64)]⟩
        else ⟨#[b (0xF0 + c / 262144), b (0x80 + c / 4096 % 64), b (0x80 + c / 64 % 64), b (0x80 + c % 64)]⟩
      2 ≤ t.size ∧ t.size ≤ 4 ∧ 128 ≤ byt t (t.size - 1) := by
    intro c hc b hb
    subst hb
    have hl : 128 ≤ (UInt8.ofNat (0x80 + c % 64)).toNat := by rw [toNat_of _ (by omega)]; omega
    dsimp only
    rw [if_neg (by omega)]
    split
    · exact ⟨Nat.le_refl 2, show (2 : Nat) ≤ 4 by decide, hl⟩
    · split
      · exact ⟨show (2 : Nat) ≤ 3 by decide, show (3 : Nat) ≤ 4 by decide, hl⟩
      · exact ⟨show (2 : Nat) ≤ 4 by decide, show (4 : Nat) ≤ 4 by decide, hl⟩
  unfold Utf8.encode Utf8.runeError
  split
  · exact key _ (by simp only [Int.toNat_natCast]; exact h) _ rfl
  · exact key _ (by decide) _ rfl
end Vc

/- Packs in plain words: an entry's head, how far back a base stands. No program in sight. -/
set_option linter.unusedVariables false
namespace Go.Proofs.YtaaimcbicpgjoaaGreatDoor
open Go Vc Go.Proofs

/-- Kind and size (below 2048) as bytes. -/
def headL (k n : Nat) : List UInt8 := if n < 16 then [UInt8.ofNat (k * 16 + n)] else [UInt8.ofNat (128 + k * 16 + n % 16), UInt8.ofNat (n / 16)]
theorem headL_len (k n : Nat) : (headL k n).length ≤ 2 ∧ 1 ≤ (headL k n).length := by
  unfold headL
  split <;> simp
/-- The digits to the base 128 where each place counts from 1. -/
def bdig : Nat → List Nat
  | 0 => []
  | m + 1 => bdig (m / 128) ++ [m % 128]
termination_by m => m
decreasing_by omega
theorem bdig_succ (m : Nat) : bdig (m + 1) = bdig (m / 128) ++ [m % 128] := by rw [bdig]
def bfold (u d : Nat) : Nat := u * 128 + d + 1
theorem bdig_lt : ∀ q : Nat, ∀ d ∈ bdig q, d < 128
  | 0, d, h => by rw [bdig] at h; simp at h
  | m + 1, d, h => by
    rw [bdig] at h
    rcases List.mem_append.1 h with h | h
    · exact bdig_lt (m / 128) d h
    · rw [List.mem_singleton] at h; omega
termination_by q => q
decreasing_by omega
theorem bdig_val : ∀ q : Nat, (bdig q).foldl bfold 0 = q
  | 0 => by rw [bdig]; rfl
  | m + 1 => by
    rw [bdig, List.foldl_append, bdig_val (m / 128)]
    simp only [List.foldl_cons, List.foldl_nil, bfold]
    omega
termination_by q => q
decreasing_by omega
theorem bfold_le : ∀ (l : List Nat) (u : Nat), u ≤ l.foldl bfold u
  | [], u => Nat.le_refl _
  | d :: l, u => by
    rw [List.foldl_cons]
    have := bfold_le l (bfold u d)
    unfold bfold at this ⊢
    omega
theorem bfold_pos : ∀ (l : List Nat), l ≠ [] → 1 ≤ l.foldl bfold 0
  | [], h => absurd rfl h
  | d :: l, _ => by
    rw [List.foldl_cons]
    have := bfold_le l (bfold 0 d)
    unfold bfold at this ⊢
    omega
def bhi (d : Nat) : UInt8 := UInt8.ofNat (128 + d)
/-- How far back, as bytes. -/
def backL (n : Nat) : List UInt8 := (bdig (n / 128)).map bhi ++ [UInt8.ofNat (n % 128)]
theorem bdig_len : ∀ (k q : Nat), q < 128 ^ k → (bdig q).length ≤ k
  | _, 0, _ => by rw [bdig]; simp
  | 0, m + 1, h => by simp at h
  | k + 1, m + 1, h => by
    rw [bdig, List.length_append]
    have := bdig_len k (m / 128) (by rw [Nat.pow_succ] at h; omega)
    simp only [List.length_cons, List.length_nil]; omega
end Go.Proofs.YtaaimcbicpgjoaaGreatDoor

/- Deltas in plain words: numbers in groups of seven bits, copies, the parts of a delta and what they make. No program in sight. -/
set_option linter.unusedVariables false
namespace Go.Proofs.YtaaimcbicpgjoaaGreatDoor
open Go Vc Go.Proofs

/-- A number below 16384 in groups of seven bits, the lowest first. -/
def sizedL (n : Nat) : List UInt8 := if n < 128 then [UInt8.ofNat n] else [UInt8.ofNat (n % 128 + 128), UInt8.ofNat (n / 128)]
theorem sizedL_len (n : Nat) : (sizedL n).length ≤ 2 := by
  unfold sizedL
  split <;> simp
theorem sizedL_big {k : Nat} (h : 128 ≤ k) : sizedL k = [UInt8.ofNat (k % 128 + 128), UInt8.ofNat (k / 2 ^ 7)] := by
  unfold sizedL
  rw [if_neg (by omega)]
/-- The byte number i of a copy: four of its place, three of its length. -/
def cpb (o n i : Nat) : Nat := if i < 4 then o / 256 ^ i % 256 else n / 256 ^ (i - 4) % 256
theorem cpb_lt (o n i : Nat) : cpb o n i < 256 := by
  unfold cpb
  split <;> exact Nat.mod_lt _ (by decide)
/-- Whether it is said. -/
def cpd (o n i : Nat) : Nat := if cpb o n i = 0 then 0 else 1
theorem cpd_le (o n i : Nat) : cpd o n i ≤ 1 := by
  unfold cpd
  split <;> omega
def cflag (o n : Nat) : Nat → Nat
  | 0 => 0
  | i + 1 => cflag o n i + 2 ^ i * cpd o n i
theorem cflag_lt (o n : Nat) : ∀ i, cflag o n i < 2 ^ i
  | 0 => Nat.one_pos
  | i + 1 => by
    have h1 := cflag_lt o n i
    have h2 := Nat.mul_le_mul_left (2 ^ i) (cpd_le o n i)
    rw [cflag, Nat.pow_succ]; omega
theorem flag_bit (o n i : Nat) (hi : i < 7) : (128 + cflag o n 7) / 2 ^ i % 2 = cpd o n i := by
  have h0 := cpd_le o n 0
  have h1 := cpd_le o n 1
  have h2 := cpd_le o n 2
  have h3 := cpd_le o n 3
  have h4 := cpd_le o n 4
  have h5 := cpd_le o n 5
  have h6 := cpd_le o n 6
  simp only [cflag]
  match i, hi with
  | 0, _ | 1, _ | 2, _ | 3, _ | 4, _ | 5, _ | 6, _ => omega
def cpby (o n i : Nat) : List UInt8 := if cpb o n i = 0 then [] else [UInt8.ofNat (cpb o n i)]
/-- The bytes number i and on, k of them. -/
def cpbs (o n i k : Nat) : List UInt8 := (List.range' i k).flatMap (cpby o n)
theorem cpbs_cons (o n i k : Nat) : cpbs o n i (k + 1) = cpby o n i ++ cpbs o n (i + 1) k := by
  unfold cpbs
  rw [List.range'_succ, List.flatMap_cons]
theorem cpbs_snoc (o n k : Nat) : cpbs o n 0 (k + 1) = cpbs o n 0 k ++ cpby o n k := by
  unfold cpbs
  rw [List.range'_1_concat, List.flatMap_append, Nat.zero_add]; simp
theorem cpby_len (o n i : Nat) : (cpby o n i).length ≤ 1 := by
  unfold cpby
  split <;> simp
theorem cpbs_len (o n i : Nat) : ∀ k, (cpbs o n i k).length ≤ k
  | 0 => Nat.le_refl _
  | k + 1 => by
    rw [cpbs_cons, List.length_append]
    have h1 := cpby_len o n i
    have h2 := cpbs_len o n (i + 1) k
    omega
/-- Place and length as far as the bytes ahead of number i say them. -/
def coN (o i : Nat) : Nat := o % 256 ^ min i 4
def cnN (n i : Nat) : Nat := n % 256 ^ (i - 4)
theorem coN_step (o n i : Nat) (h : i < 4) : coN o (i + 1) = coN o i + cpb o n i * 2 ^ (8 * i) ∧ coN o i < 2 ^ (8 * i) ∧ cnN n (i + 1) = cnN n i := by
  unfold coN cnN cpb
  rw [if_pos h, show min (i + 1) 4 = i + 1 by omega, show min i 4 = i by omega, Nat.mod_pow_succ, Nat.pow_mul, show (2 : Nat) ^ 8 = 256 from rfl, Nat.mul_comm]
  exact ⟨rfl, Nat.mod_lt _ (Nat.pow_pos (by decide)), by rw [show i + 1 - 4 = 0 by omega, show i - 4 = 0 by omega]⟩
theorem cnN_step (o n i : Nat) (h : ¬ i < 4) : cnN n (i + 1) = cnN n i + cpb o n i * 2 ^ (8 * (i - 4)) ∧ cnN n i < 2 ^ (8 * (i - 4)) ∧ coN o (i + 1) = coN o i := by
  unfold coN cnN cpb
  rw [if_neg h, show i + 1 - 4 = i - 4 + 1 by omega, show min (i + 1) 4 = 4 by omega, show min i 4 = 4 by omega, Nat.mod_pow_succ, Nat.pow_mul, show (2 : Nat) ^ 8 = 256 from rfl, Nat.mul_comm]
  exact ⟨rfl, Nat.mod_lt _ (Nat.pow_pos (by decide)), rfl⟩
theorem cpb_le (o n i : Nat) (ho : o < 4294967296) (hn : n < 65536) : coN o 7 = o ∧ cnN n 7 = n := by
  unfold coN cnN
  exact ⟨Nat.mod_eq_of_lt ho, Nat.mod_eq_of_lt (by omega)⟩
/-- A part of a delta. -/
inductive Ins where
  | plain (p : List UInt8)
  | copy (o n : Nat)
def encD : Ins → List UInt8
  | .plain p => UInt8.ofNat p.length :: p
  | .copy o n => UInt8.ofNat (128 + cflag o n 7) :: cpbs o n 0 7
def outD (base : List UInt8) : Ins → List UInt8
  | .plain p => p
  | .copy o n => (base.drop o).take n
def okD (base : List UInt8) : Ins → Prop
  | .plain p => 1 ≤ p.length ∧ p.length ≤ 127
  | .copy o n => 4 ≤ n ∧ n < 65536 ∧ o + n ≤ base.length
/-- What makes t of its base. -/
structure IsDel (base t : List UInt8) (d : List UInt8) (is : List Ins) : Prop where
  ok : ∀ x ∈ is, okD base x
  out : is.flatMap (outD base) = t
  enc : d = sizedL base.length ++ (sizedL t.length ++ is.flatMap encD)
theorem ok_snoc {base : List UInt8} {is : List Ins} {x : Ins} (h : ∀ y ∈ is, okD base y) (hx : okD base x) : ∀ y ∈ is ++ [x], okD base y := fun y hy => by
  rcases List.mem_append.1 hy with hy | hy
  · exact h y hy
  · rw [List.mem_singleton] at hy; subst hy; exact hx
theorem flat_snoc {α β : Type} (f : α → List β) (is : List α) (x : α) : (is ++ [x]).flatMap f = is.flatMap f ++ f x := by rw [List.flatMap_append]; simp
/-- A text in plain parts of at most 127 bytes. -/
def chunks : Nat → List UInt8 → List Ins
  | 0, _ => []
  | f + 1, l => if l = [] then [] else .plain (l.take 127) :: chunks f (l.drop 127)
theorem outD_len {base : List UInt8} {x : Ins} (h : okD base x) : (outD base x).length = (match x with | .plain p => p.length | .copy _ n => n) := by
  cases x with
  | plain p => rfl
  | copy o n =>
    unfold okD at h
    unfold outD
    simp only [List.length_take, List.length_drop]
    omega
end Go.Proofs.YtaaimcbicpgjoaaGreatDoor

/- Slices of the call's own whose row may bear the run-time's mark behind its last cell, as that of a text's bytes. No condition: for all programs. -/
set_option linter.unusedVariables false
namespace Vc
open Go

/-- As 'Own', but the row may bear the mark behind its cells. -/
def OwnZ (w : World) (base : Nat) (e : TypeId) (l : Sl) (xs : List Value) : Prop :=
  xs.length = l.len ∧ ((l.a = none ∧ l.len = 0 ∧ l.cap = 0) ∨
    ∃ g cur fz, l.a = some ⟨g, 0, none⟩ ∧ base ≤ g ∧ w.heap[g]? = some (.cells cur e fz) ∧ (cur.size ≤ fz.1 ∨ fz.2 = 0) ∧ l.len ≤ l.cap ∧ l.cap ≤ maxLen ∧ cur.size = l.cap ∧ cur.toList.take l.len = xs)
section
variable {w w1 : World} {base : Nat} {e : TypeId} {l : Sl} {xs : List Value}
theorem OwnZ.of (h : Own w base e l xs) : OwnZ w base e l xs := by
  refine ⟨h.1, ?_⟩
  rcases h.2 with hn | ⟨g, cur, ha, hb, hg, hl, hm, hs, ht⟩
  · exact .inl hn
  · exact .inr ⟨g, cur, (0, 0), ha, hb, hg, .inr rfl, hl, hm, hs, ht⟩
theorem OwnZ.len (h : OwnZ w base e l xs) : l.len = xs.length := h.1.symm
theorem OwnZ.blk (h : OwnZ w base e l xs) {x : Addr} (hx : l.a = some x) : base ≤ x.block ∧ x.block < w.heap.size := by
  rcases h.2 with ⟨ha, _⟩ | ⟨g, cur, fz, ha, hb, hg, _⟩
  · rw [ha] at hx; cases hx
  · rw [ha] at hx; cases hx; exact ⟨hb, lt_blk hg⟩
theorem OwnZ.keep (h : OwnZ w base e l xs) {X : Nat → Prop} (hf : Fr X w w1) (hx : ∀ x, l.a = some x → ¬ X x.block) : OwnZ w1 base e l xs := by
  refine ⟨h.1, ?_⟩
  rcases h.2 with hn | ⟨g, cur, fz, ha, hb, hg, r⟩
  · exact .inl hn
  · exact .inr ⟨g, cur, fz, ha, hb, hf.keep hg (hx _ ha), r⟩
theorem OwnZ.cap (h : OwnZ w base e l xs) : l.len ≤ l.cap := by
  rcases h.2 with ⟨_, h2, h3⟩ | ⟨_, _, _, _, _, _, _, hl, _⟩
  · omega
  · exact hl
theorem OwnZ.reads (h : OwnZ w base e l xs) : Reads w l.a xs := fun i v hv => by
  rcases h.2 with ⟨_, h2, _⟩ | ⟨g, cur, fz, ha, hb, hg, hz, hl, hm, hs, ht⟩
  · have h1 := h.1
    rw [h2] at h1
    rw [List.length_eq_zero_iff.1 h1] at hv; simp at hv
  · refine ⟨_, ha, ?_⟩
    rw [add_lit, cell_blk hg, Nat.zero_add]
    rw [← ht, List.getElem?_take] at hv
    split at hv
    · simpa using hv
    · cases hv
theorem OwnZ.nil (w : World) (base : Nat) (e : TypeId) : OwnZ w base e ⟨none, 0, 0⟩ [] := ⟨rfl, .inl ⟨rfl, rfl, rfl⟩⟩
theorem frozen_z {b : Nat} {cs : Array Value} {t : TypeId} {fz : Nat × Nat} (h : w.heap[b]? = some (.cells cs t fz)) (hz : cs.size ≤ fz.1 ∨ fz.2 = 0) {i : Nat} (hi : i < cs.size) : w.frozen? ⟨b, i, none⟩ = false := by
  obtain ⟨lo, hi'⟩ := fz
  simp only [World.frozen?, h]
  rcases hz with hz | hz
  · have : ¬ lo ≤ i := by simp only at hz; omega
    simp [this]
  · simp only at hz; simp [hz]
/-- One element set. -/
theorem OwnZ.set (h : OwnZ w base e l xs) {i : Nat} (hi : i < xs.length) :
    ∃ x, l.a = some x ∧ w.cell? (x.add i) = some xs[i] ∧ Wr w (x.add i) ∧ ∀ v, OwnZ (w.setCell (x.add i) v) base e l (xs.set i v) ∧ Fr (At l) w (w.setCell (x.add i) v) := by
  obtain ⟨x, hx, hc⟩ := h.reads.at hi
  rcases h.2 with ⟨_, h2, _⟩ | ⟨g, cur, fz, ha, hb, hg, hz, hl, hm, hs, ht⟩
  · have := h.1; omega
  · rw [ha] at hx; cases hx
    have hil : i < cur.size := by have := h.1; omega
    refine ⟨_, ha, hc, ⟨⟨_, hc⟩, by rw [add_lit, Nat.zero_add]; exact frozen_z hg hz hil⟩, fun v => ⟨⟨by simpa using h.1, .inr ⟨g, cur.setIfInBounds i v, fz, ha, hb, ?_, by simpa using hz, hl, hm, by simpa using hs, ?_⟩⟩, .set _ _ _ ⟨_, ha, add_block _ _⟩⟩⟩
    · rw [add_lit, Nat.zero_add]; exact set_blk hg i v
    · rw [Array.toList_setIfInBounds, List.take_set, ht]
end
theorem setCells_blk (g : Nat) (e : TypeId) (fz : Nat × Nat) : ∀ (vs : List Value) (o : Nat) (cur : Array Value) (w : World), w.heap[g]? = some (.cells cur e fz) → o + vs.length ≤ cur.size →
    ∃ cur', (w.setCells g o vs).heap[g]? = some (.cells cur' e fz) ∧ cur'.size = cur.size ∧ cur'.toList.take (o + vs.length) = cur.toList.take o ++ vs
  | [], o, cur, w, h, hl => ⟨cur, h, rfl, by simp⟩
  | v :: r, o, cur, w, h, hl => by
    have h1 := set_blk h o v
    simp only [List.length_cons] at hl
    obtain ⟨cur', h2, h3, h4⟩ := setCells_blk g e fz r (o + 1) (cur.setIfInBounds o v) (w.setCell ⟨g, o, none⟩ v) h1 (by rw [Array.size_setIfInBounds]; omega)
    refine ⟨cur', h2, by simpa using h3, ?_⟩
    rw [List.length_cons, show o + (r.length + 1) = o + 1 + r.length by omega, h4, Array.toList_setIfInBounds, List.take_set]
    have ho : o < cur.toList.length := by simp; omega
    rw [List.take_succ_eq_append_getElem ho, List.set_append_right _ _ (by rw [List.length_take]; omega)]
    have : o - (cur.toList.take o).length = 0 := by rw [List.length_take]; omega
    rw [this]; simp
theorem setCells_fr (g : Nat) : ∀ (vs : List Value) (o : Nat) (w : World), Fr (· = g) w (w.setCells g o vs)
  | [], o, w => .refl _ _
  | v :: r, o, w => (Fr.set (· = g) w (a := ⟨g, o, none⟩) v rfl).trans' (setCells_fr g r (o + 1) _)
section
variable {P : Program} {t e : TypeId} {z : Value} {bytes : Nat} {w : World} {base : Nat} {l : Sl} {xs : List Value}
theorem append_z (el : El P t e z bytes) (h : OwnZ w base e l xs) (x : Addr) (c : Nat) (news : List Value) (hn : ∀ j u, news[j]? = some u → w.cell? (x.add j) = some u) (h1 : ∀ u ∈ news, u.oneCell' = true)
    (hm : xs.length + news.length ≤ maxLen) (hb : (xs.length + news.length) * bytes ≤ 140737488355328) (hbase : base ≤ w.heap.size) :
    ∃ w' l', (Builtin.append_ #[t, t] t #[.slice l.a l.len l.cap, .slice (some x) news.length c]).run P w = .ok (.slice l'.a l'.len l'.cap) w' ∧ OwnZ w' base e l' (xs ++ news) ∧ Fr (At l) w w' ∧ Since w l l' := by
  obtain ⟨i, hi, hi2⟩ := Option.map_eq_some_iff.1 el.info
  simp only [Prod.mk.injEq] at hi2
  obtain ⟨hz, hs1, hby⟩ := hi2
  have hlen := h.1
  rcases h.2 with ⟨ha, hl0, hc0⟩ | ⟨g, cur, fz, ha, hbg, hg, hzz, hl, hmx, hs, ht⟩
  · have hx : xs = [] := List.eq_nil_of_length_eq_zero (by omega)
    have ho : Own w base e l xs := ⟨hlen, .inl ⟨ha, hl0, hc0⟩⟩
    obtain ⟨w', l', hr, o', f'⟩ := append_run el ho x c news hn h1 hm hb hbase
    exact ⟨w', l', hr, .of o', f', since_run el ho x c news hn h1 hm hb hr⟩
  · have hml : maxLen ≤ 9223372036854775807 := by decide
    by_cases hroom : l.len + news.length ≤ l.cap
    · have hf := run_firstCells_some (P := P) w i.size news.length x news.length c news (by rw [hs1]; omega) hn
      have hst := run_storeCells_cells (P := P) g l.len news 0 w (fun j hj => by rw [Nat.add_zero, cell_blk hg]; simp; omega) (fun j hj => by rw [Nat.add_zero]; exact frozen_z hg hzz (by omega)) h1
      rw [Nat.add_zero] at hst
      obtain ⟨cur', k1, k2, k3⟩ := setCells_blk g e fz news l.len cur w hg (by omega)
      refine ⟨w.setCells g l.len news, ⟨l.a, l.len + news.length, l.cap⟩, ?_, ⟨by simp only [List.length_append]; omega, .inr ⟨g, cur', fz, ha, hbg, k1, by rw [k2]; exact hzz, hroom, hmx, by rw [k2]; exact hs, by simp only; rw [k3, ht]⟩⟩,
        (setCells_fr g news l.len w).mono fun k _ hk => ⟨_, ha, hk⟩, fun y hy => .inl ⟨y, hy, rfl⟩⟩
      rw [ha]
      rw [hs1] at hf
      simp [Builtin.append_, run_underlying el.sl, Go.sizeOf, typeInfo, hi, hs1, Builtin.lenOf, hroom, hf, Addr.add_lit, hst]
    · have holds : ∀ j u, xs[j]? = some u → w.cell? ((⟨g, 0, none⟩ : Addr).add j) = some u := fun j u hu => by
        obtain ⟨q, hq, hc⟩ := h.reads j u hu
        rw [ha] at hq; cases hq; exact hc
      have hr := run_append_grow (P := P) w t t e i z el.sl hi hz ⟨g, 0, none⟩ l.len l.cap xs (by rw [hs1]; omega) holds x news.length c news (by rw [hs1]; omega) hn (by omega) (by omega) (growslice_fits (by omega) (by rw [hby, ← hlen]; exact hb))
      have hge := grownCap_ge w (l.len + news.length) l.cap e
      have hcm2 : grownCap w (l.len + news.length) l.cap e ≤ maxLen := grownCap_le_maxLen w (l.len + news.length) l.cap e (by omega)
      rw [← ha] at hr
      refine ⟨_, ⟨some ⟨w.heap.size, 0, none⟩, l.len + news.length, grownCap w (l.len + news.length) l.cap e⟩, hr, ⟨by simp only [List.length_append]; omega, .inr ⟨w.heap.size, _, (0, 0), rfl, hbase, heap_alloc_new w.drew _, .inr rfl, hge, hcm2, ?_, ?_⟩⟩, ⟨rfl, rfl, rfl, by simp, fun k hk _ => alloc_old w.drew _ hk⟩, fun y hy => by cases hy; exact .inr (Nat.le_refl _)⟩
      · have := el.one
        simp only [Array.size_append, List.size_toArray, size_zeroCells, this, Nat.mul_one]
        omega
      · simp only [Array.toList_append, List.append_assoc]
        rw [← List.append_assoc]
        have : l.len + news.length = (xs ++ news).length := by rw [List.length_append]; omega
        rw [this]; exact List.take_left
theorem append_one_z (el : El P t e z bytes) (h : OwnZ w base e l xs) {v : Value} (hv : v.oneCell' = true)
    (hm : xs.length + 1 ≤ maxLen) (hb : (xs.length + 1) * bytes ≤ 140737488355328) (hbase : base ≤ w.heap.size) {w2 : World} (hw2 : w2 = w.alloc (.cells #[v] e)) :
    ∃ w' l', (Builtin.append_ #[t, t] t #[.slice l.a l.len l.cap, .slice (some ⟨w.heap.size, 0, none⟩) 1 1]).run P w2 = .ok (.slice l'.a l'.len l'.cap) w' ∧ OwnZ w' base e l' (xs ++ [v]) ∧
      Fr (At l) w w' ∧ Since w l l' := by
  subst hw2
  have h2 : OwnZ (w.alloc (.cells #[v] e)) base e l xs := h.keep (.alloc (fun _ => False) _ _) (by simp)
  obtain ⟨w', l', hr, ho, hf, hs⟩ := append_z el h2 ⟨w.heap.size, 0, none⟩ 1 [v] (fun j u hu => by
      cases j with
      | zero => simp at hu; subst hu; rw [add_lit, cell_blk (alloc_new w _)]; rfl
      | succ j => simp at hu) (by simpa using hv) (by simpa using hm) (by simpa using hb) (by simp; omega)
  refine ⟨w', l', hr, ho, (Fr.alloc _ _ _).trans' hf, fun y hy => ?_⟩
  rcases hs y hy with hx | hn
  · exact .inl hx
  · simp only [World.alloc, Array.size_push] at hn
    exact .inr (by omega)
theorem append_all_z (el : El P t e z bytes) (h : OwnZ w base e l xs) {src : Option Addr} (c : Nat) {news : List Value} (hr : Reads w src news) (h1 : ∀ u ∈ news, u.oneCell' = true)
    (hm : xs.length + news.length ≤ maxLen) (hb : (xs.length + news.length) * bytes ≤ 140737488355328) (hbase : base ≤ w.heap.size) {m : Nat} (hlen : news.length = m) :
    ∃ w' l', (Builtin.append_ #[t, t] t #[.slice l.a l.len l.cap, .slice src m c]).run P w = .ok (.slice l'.a l'.len l'.cap) w' ∧ OwnZ w' base e l' (xs ++ news) ∧
      Fr (At l) w w' ∧ Since w l l' := by
  subst hlen
  cases src with
  | some x => exact append_z el h x c news (fun j u hu => by obtain ⟨y, hy, hc⟩ := hr j u hu; cases hy; exact hc) h1 hm hb hbase
  | none =>
    have hn : news = [] := by
      cases news with
      | nil => rfl
      | cons v r => obtain ⟨y, hy, _⟩ := hr 0 v rfl; cases hy
    subst hn
    refine ⟨w, l, ?_, by simpa using h, .refl _ _, .refl _ _⟩
    obtain ⟨i, hi, hi2⟩ := Option.map_eq_some_iff.1 el.info
    have hcap := h.cap
    cases ha : l.a <;> simp [Builtin.append_, run_underlying el.sl, Go.sizeOf, typeInfo, hi, Builtin.lenOf, Builtin.firstCells, hcap, storeCells]
/-- '[]byte(s)'. -/
theorem bytes_of {src dst : TypeId} (hs : P.underlying src = some .string) (hd : P.underlying dst = some (.slice e)) (he : P.underlying e = some (.int .u8)) (s : ByteArray) (hl : s.size ≤ maxLen) (w : World) :
    ∃ w' l', (convert src dst (.string s)).run P w = .ok (.slice l'.a l'.len l'.cap) w' ∧ OwnZ w' w.heap.size e l' (byteV s.data.toList) ∧ Fr (fun _ => False) w w' := by
  have hr := run_bytes_of_string (P := P) w src dst e s hs hd he
  have hge := grownCap_ge w s.size 0 e
  have hcm2 : grownCap w s.size 0 e ≤ maxLen := grownCap_le_maxLen w s.size 0 e hl
  refine ⟨_, ⟨some ⟨w.heap.size, 0, none⟩, s.size, grownCap w s.size 0 e⟩, hr, ⟨by simp, .inr ⟨w.heap.size, _, _, rfl, Nat.le_refl _, heap_alloc_new w.drew _, .inl (Nat.le_refl _), hge, hcm2, ?_, ?_⟩⟩, ⟨rfl, rfl, rfl, by simp, fun k hk _ => alloc_old w.drew _ hk⟩⟩
  · have : s.data.size = s.size := rfl
    simp only [bytesRow, Array.size_append, Array.size_map, Array.size_replicate, this]; omega
  · have : s.size = (byteV s.data.toList).length := by simp
    simp only [bytesRow, Array.toList_append, Array.toList_map]
    rw [this]; exact List.take_left
end
end Vc

/- A slice of the call's own that begins anywhere in its row: reading it, cutting its front off, appending to it. No condition: for all programs. -/
set_option linter.unusedVariables false
namespace Vc
open Go

/-- As 'Own', but the slice may begin anywhere in its row. -/
def OwnO (w : World) (base : Nat) (e : TypeId) (l : Sl) (xs : List Value) : Prop :=
  xs.length = l.len ∧ ((l.a = none ∧ l.len = 0 ∧ l.cap = 0) ∨
    ∃ g o cur, l.a = some ⟨g, o, none⟩ ∧ base ≤ g ∧ w.heap[g]? = some (.cells cur e (0, 0)) ∧ l.len ≤ l.cap ∧ l.cap ≤ maxLen ∧ o + l.cap ≤ cur.size ∧ (cur.toList.drop o).take l.len = xs)
section
variable {w w1 : World} {base : Nat} {e : TypeId} {l : Sl} {xs : List Value}
theorem OwnO.of (h : Own w base e l xs) : OwnO w base e l xs := by
  refine ⟨h.1, ?_⟩
  rcases h.2 with hn | ⟨g, cur, ha, hb, hg, hl, hm, hs, ht⟩
  · exact .inl hn
  · exact .inr ⟨g, 0, cur, ha, hb, hg, hl, hm, by omega, by rw [List.drop_zero]; exact ht⟩
theorem OwnO.len (h : OwnO w base e l xs) : l.len = xs.length := h.1.symm
theorem OwnO.blk (h : OwnO w base e l xs) {x : Addr} (hx : l.a = some x) : base ≤ x.block ∧ x.block < w.heap.size := by
  rcases h.2 with ⟨ha, _⟩ | ⟨g, o, cur, ha, hb, hg, _⟩
  · rw [ha] at hx; cases hx
  · rw [ha] at hx; cases hx; exact ⟨hb, lt_blk hg⟩
theorem OwnO.keep (h : OwnO w base e l xs) {X : Nat → Prop} (hf : Fr X w w1) (hx : ∀ x, l.a = some x → ¬ X x.block) : OwnO w1 base e l xs := by
  refine ⟨h.1, ?_⟩
  rcases h.2 with hn | ⟨g, o, cur, ha, hb, hg, r⟩
  · exact .inl hn
  · exact .inr ⟨g, o, cur, ha, hb, hf.keep hg (hx _ ha), r⟩
theorem OwnO.reads (h : OwnO w base e l xs) : Reads w l.a xs := fun i v hv => by
  rcases h.2 with ⟨_, h2, _⟩ | ⟨g, o, cur, ha, hb, hg, hl, hm, hs, ht⟩
  · have h1 := h.1
    rw [h2] at h1
    rw [List.length_eq_zero_iff.1 h1] at hv; simp at hv
  · refine ⟨_, ha, ?_⟩
    rw [add_lit, cell_blk hg]
    rw [← ht, List.getElem?_take] at hv
    split at hv
    · rw [List.getElem?_drop] at hv
      simpa using hv
    · cases hv
theorem OwnO.sub (h : OwnO w base e l xs) {k : Nat} (hk : k ≤ l.len) : OwnO w base e ⟨subA l.a l.cap k 1, l.len - k, l.cap - k⟩ (xs.drop k) := by
  have h1 := h.1
  refine ⟨by rw [List.length_drop, h1], ?_⟩
  rcases h.2 with ⟨hn, hl, hc⟩ | ⟨g, o, cur, ha, hb, hg, hl, hm, hs, ht⟩
  · refine .inl ⟨?_, by simp only; omega, by simp only; omega⟩
    unfold subA
    rw [hn]
    split <;> rfl
  · by_cases hck : l.cap = k
    · refine .inr ⟨g, o, cur, by unfold subA; rw [if_pos hck, ha], hb, hg, by simp only; omega, by simp only; omega, by simp only; omega, ?_⟩
      simp only
      rw [show l.len - k = 0 by omega, List.take_zero, List.drop_eq_nil_of_le (by omega)]
    · refine .inr ⟨g, o + k, cur, by unfold subA; rw [if_neg hck, ha, Option.map_some, add_lit, Nat.mul_one], hb, hg, by simp only; omega, by simp only; omega, by simp only; omega, ?_⟩
      simp only
      rw [← ht, List.drop_take, List.drop_drop]
end
section
variable {P : Program} {t e : TypeId} {z : Value} {bytes : Nat} {w : World} {base : Nat} {l : Sl} {xs : List Value}
theorem append_o (el : El P t e z bytes) (h : OwnO w base e l xs) (x : Addr) (c : Nat) (news : List Value) (hn : ∀ j u, news[j]? = some u → w.cell? (x.add j) = some u) (h1 : ∀ u ∈ news, u.oneCell' = true)
    (hm : xs.length + news.length ≤ maxLen) (hb : (xs.length + news.length) * bytes ≤ 140737488355328) (hbase : base ≤ w.heap.size) :
    ∃ w' l', (Builtin.append_ #[t, t] t #[.slice l.a l.len l.cap, .slice (some x) news.length c]).run P w = .ok (.slice l'.a l'.len l'.cap) w' ∧ OwnO w' base e l' (xs ++ news) ∧ Fr (At l) w w' ∧ Since w l l' := by
  obtain ⟨i, hi, hi2⟩ := Option.map_eq_some_iff.1 el.info
  simp only [Prod.mk.injEq] at hi2
  obtain ⟨hz, hs1, hby⟩ := hi2
  have hlen := h.1
  rcases h.2 with ⟨ha, hl0, hc0⟩ | ⟨g, o, cur, ha, hbg, hg, hl, hmx, hs, ht⟩
  · have ho : Own w base e l xs := ⟨hlen, .inl ⟨ha, hl0, hc0⟩⟩
    obtain ⟨w', l', hr, o', f'⟩ := append_run el ho x c news hn h1 hm hb hbase
    exact ⟨w', l', hr, .of o', f', since_run el ho x c news hn h1 hm hb hr⟩
  · have hml : maxLen ≤ 9223372036854775807 := by decide
    by_cases hroom : l.len + news.length ≤ l.cap
    · have hf := run_firstCells_some (P := P) w i.size news.length x news.length c news (by rw [hs1]; omega) hn
      have hst := run_storeCells_cells (P := P) g (o + l.len) news 0 w (fun j hj => by rw [Nat.add_zero, cell_blk hg]; simp; omega) (fun j hj => by rw [Nat.add_zero]; exact frozen_z hg (.inr rfl) (by omega)) h1
      rw [Nat.add_zero] at hst
      obtain ⟨cur', k1, k2, k3⟩ := setCells_blk g e (0, 0) news (o + l.len) cur w hg (by omega)
      refine ⟨w.setCells g (o + l.len) news, ⟨l.a, l.len + news.length, l.cap⟩, ?_, ⟨by simp only [List.length_append]; omega, .inr ⟨g, o, cur', ha, hbg, k1, hroom, hmx, by rw [k2]; exact hs, ?_⟩⟩,
        (setCells_fr g news (o + l.len) w).mono fun k _ hk => ⟨_, ha, hk⟩, fun y hy => .inl ⟨y, hy, rfl⟩⟩
      · rw [ha]
        rw [hs1] at hf
        simp [Builtin.append_, run_underlying el.sl, Go.sizeOf, typeInfo, hi, hs1, Builtin.lenOf, hroom, hf, Addr.add_lit, hst]
      · have hol : o ≤ (cur.toList.take (o + l.len)).length := by rw [List.length_take]; simp; omega
        have e1 : (cur'.toList.drop o).take (l.len + news.length) = (cur'.toList.take (o + l.len + news.length)).drop o := by
          rw [List.drop_take, show o + l.len + news.length - o = l.len + news.length by omega]
        simp only
        rw [e1, k3, List.drop_append_of_le_length hol, List.drop_take, show o + l.len - o = l.len by omega, ht]
    · have holds : ∀ j u, xs[j]? = some u → w.cell? ((⟨g, o, none⟩ : Addr).add j) = some u := fun j u hu => by
        obtain ⟨q, hq, hc⟩ := h.reads j u hu
        rw [ha] at hq; cases hq; exact hc
      have hr := run_append_grow (P := P) w t t e i z el.sl hi hz ⟨g, o, none⟩ l.len l.cap xs (by rw [hs1]; omega) holds x news.length c news (by rw [hs1]; omega) hn (by omega) (by omega) (growslice_fits (by omega) (by rw [hby, ← hlen]; exact hb))
      have hge := grownCap_ge w (l.len + news.length) l.cap e
      have hcm2 : grownCap w (l.len + news.length) l.cap e ≤ maxLen := grownCap_le_maxLen w (l.len + news.length) l.cap e (by omega)
      rw [← ha] at hr
      refine ⟨_, ⟨some ⟨w.heap.size, 0, none⟩, l.len + news.length, grownCap w (l.len + news.length) l.cap e⟩, hr, ⟨by simp only [List.length_append]; omega, .inr ⟨w.heap.size, 0, _, rfl, hbase, heap_alloc_new w.drew _, hge, hcm2, ?_, ?_⟩⟩, ⟨rfl, rfl, rfl, by simp, fun k hk _ => alloc_old w.drew _ hk⟩, fun y hy => by cases hy; exact .inr (Nat.le_refl _)⟩
      · have := el.one
        simp only [Array.size_append, List.size_toArray, size_zeroCells, this, Nat.mul_one]
        omega
      · simp only [Array.toList_append, List.append_assoc, List.drop_zero]
        rw [← List.append_assoc]
        have : l.len + news.length = (xs ++ news).length := by rw [List.length_append]; omega
        rw [this]; exact List.take_left
theorem append_one_o (el : El P t e z bytes) (h : OwnO w base e l xs) {v : Value} (hv : v.oneCell' = true)
    (hm : xs.length + 1 ≤ maxLen) (hb : (xs.length + 1) * bytes ≤ 140737488355328) (hbase : base ≤ w.heap.size) {w2 : World} (hw2 : w2 = w.alloc (.cells #[v] e)) :
    ∃ w' l', (Builtin.append_ #[t, t] t #[.slice l.a l.len l.cap, .slice (some ⟨w.heap.size, 0, none⟩) 1 1]).run P w2 = .ok (.slice l'.a l'.len l'.cap) w' ∧ OwnO w' base e l' (xs ++ [v]) ∧
      Fr (At l) w w' ∧ Since w l l' := by
  subst hw2
  have h2 : OwnO (w.alloc (.cells #[v] e)) base e l xs := h.keep (.alloc (fun _ => False) _ _) (by simp)
  obtain ⟨w', l', hr, ho, hf, hs⟩ := append_o el h2 ⟨w.heap.size, 0, none⟩ 1 [v] (fun j u hu => by
      cases j with
      | zero => simp at hu; subst hu; rw [add_lit, cell_blk (alloc_new w _)]; rfl
      | succ j => simp at hu) (by simpa using hv) (by simpa using hm) (by simpa using hb) (by simp; omega)
  refine ⟨w', l', hr, ho, (Fr.alloc _ _ _).trans' hf, fun y hy => ?_⟩
  rcases hs y hy with hx | hn
  · exact .inl hx
  · simp only [World.alloc, Array.size_push] at hn
    exact .inr (by omega)
end
end Vc

/- The shapes of the types of this seat, a row a type. No condition. -/
namespace Go.Proofs.YtaaimcbicpgjoaaGreatDoor
open Vc
def tyL : List Sh := [
  .tup [],
  .one (.any),
  .one (.int .i64),
  .one (.int .i64),
  .one (.bool),
  .one (.int .u8),
  .one (.int .u8),
  .agg [.int .i64, .int .i64, .bool, .int .u8],
  .agg [.int .i64, .int .i64, .bool, .int .u8],
  .one (.str),
  .one (.str),
  .one (.str),
  .one (.int .u64),
  .agg [.str, .int .u64],
  .agg [.str, .int .u64],
  .one (.ptr),
  .one (.ptr),
  .one (.ptr),
  .agg [.ptr],
  .agg [.ptr],
  .one (.any),
  .one (.int .i32),
  .one (.slice),
  .one (.int .i64),
  .tup [(.one (.str)), (.one (.int .i64))],
  .one (.any),
  .one (.any),
  .one (.slice),
  .tup [(.one (.slice)), (.one (.int .i64))],
  .one (.any),
  .one (.slice),
  .one (.int .u32),
  .agg [.int .i64, .int .i64, .int .i64, .str, .int .i64, .str, .int .u32],
  .agg [.int .i64, .int .i64, .int .i64, .str, .int .i64, .str, .int .u32],
  .one (.any),
  .agg [.int .i64, .str],
  .agg [.int .i64, .str],
  .agg [.int .i64, .str, .bool, .int .i64, .bool],
  .agg [.int .i64, .str, .bool, .int .i64, .bool],
  .agg [.str, .int .i64, .int .u32],
  .agg [.str, .int .i64, .int .u32],
  .one (.any),
  .one (.any),
  .one (.ptr),
  .tup [(.one (.ptr)), (.one (.int .i64))],
  .one (.any),
  .one (.any),
  .one (.any),
  .tup [(.agg [.str, .int .i64, .int .u32]), (.one (.int .i64))],
  .one (.any),
  .tup [(.agg [.int .i64, .int .i64, .int .i64, .str, .int .i64, .str, .int .u32]), (.one (.int .i64))],
  .one (.any),
  .one (.slice),
  .one (.any),
  .one (.any),
  .one (.any),
  .one (.any),
  .one (.int .u64),
  .one (.slice),
  .one (.any),
  .one (.slice),
  .one (.any),
  .one (.any),
  .tup [(.one (.str)), (.one (.bool))],
  .one (.any),
  .one (.any),
  .one (.any),
  .tup [(.one (.int .i64)), (.one (.int .i64))],
  .one (.any),
  .one (.any),
  .one (.any),
  .one (.any),
  .one (.any),
  .one (.any),
  .one .any,
  .one (.int .u64),
  .one .any,
  .one .any,
  .one .any,
  .one (.any),
  .tup [(.one (.int .i64)), (.one (.bool))],
  .one (.any),
  .one (.any),
  .one (.int .i64),
  .tup [(.one (.int .i64)), (.one (.bool))],
  .one (.ptr),
  .agg [.str, .int .i64],
  .agg [.str, .int .i64],
  .tup [(.one (.int .i64)), (.one (.int .i64))],
  .one (.any),
  .tup [(.one (.str)), (.one (.int .i64)), (.one (.int .i64))],
  .one (.any),
  .one (.any),
  .agg [.int .u32],
  .agg [.int .u32],
  .one (.any),
  .one (.any),
  .one (.any),
  .one (.map),
  .one (.any),
  .one (.slice),
  .agg [.slice, .str, .int .u64],
  .agg [.slice, .str, .int .u64],
  .agg [.slice, .str, .int .u64],
  .agg [.slice, .str, .int .u64],
  .one (.any),
  .one (.any),
  .one (.any),
  .one (.ptr),
  .agg [.slice, .int .u64, .int .i64],
  .agg [.slice, .int .u64, .int .i64],
  .one (.ptr),
  .tup [(.one (.ptr)), (.one (.ptr))],
  .one (.any),
  .one (.any),
  .tup [(.one (.int .u32)), (.one (.int .i64))],
  .one (.any),
  .tup [(.one (.int .i64)), (.one (.int .u32)), (.one (.int .i64))],
  .one (.any),
  .one (.any),
  .one (.ptr),
  .one (.any),
  .one (.any),
  .one (.any),
  .one (.any),
  .one (.any),
  .one (.int .i64),
  .tup [(.one (.int .i64)), (.one (.int .i64))],
  .one (.any),
  .one (.any),
  .one (.any),
  .one (.any),
  .one (.any),
  .one (.any),
  .one (.ptr),
  .one (.ptr),
  .one (.any),
  .agg [.ptr, .slice, .int .i64],
  .agg [.ptr, .slice, .int .i64],
  .one (.any),
  .agg [.int .u32, .int .u32],
  .agg [.int .u32, .int .u32],
  .tup [(.one (.ptr)), (.one (.int .i64))],
  .one (.any),
  .one (.ptr),
  .agg [.int .i64, .int .i64, .int .i64, .int .i64, .int .i64, .int .i64, .int .i64, .int .i64, .int .i64, .int .i64, .int .i64, .int .i64, .int .i64, .int .i64, .int .i64, .int .i64],
  .agg [.slice, .int .i64, .int .i64, .int .i64, .int .i64, .int .i64, .int .i64, .int .i64, .int .i64, .int .i64, .int .i64, .int .i64, .int .i64, .int .i64, .int .i64, .int .i64, .int .i64, .slice],
  .agg [.slice, .int .i64, .int .i64, .int .i64, .int .i64, .int .i64, .int .i64, .int .i64, .int .i64, .int .i64, .int .i64, .int .i64, .int .i64, .int .i64, .int .i64, .int .i64, .int .i64, .slice],
  .one (.ptr),
  .one (.any),
  .one .any,
  .one (.any),
  .one (.any),
  .one (.int .u64),
  .one (.any),
  .one (.any),
  .one (.any),
  .one (.ptr),
  .one (.any),
  .agg [.str, .int .i64, .int .u64, .int .i64, .int .i64],
  .agg [.str, .int .i64, .int .u64, .int .i64, .int .i64],
  .tup [(.one (.int .u32)), (.one (.bool))],
  .one (.any),
  .tup [(.one (.ptr)), (.one (.ptr)), (.one (.int .i64))],
  .one (.any),
  .one (.any),
  .one (.any),
  .one (.any),
  .one (.ptr),
  .one .any,
  .one (.any),
  .tup [(.one (.slice)), (.one (.str))],
  .one (.any),
  .one (.ptr),
  .one (.any),
  .one (.any),
  .one (.any),
  .one .any,
  .one (.any),
  .one (.any),
  .one (.any),
  .one .any,
  .one .any,
  .one (.any),
  .one .any,
  .one .any,
  .agg [.ptr, .ptr, .ptr, .str],
  .agg [.ptr, .ptr, .ptr, .str],
  .agg [],
  .agg [],
  .agg [],
  .one (.int .u8),
  .one (.int .u8),
  .one (.any),
  .one (.ptr),
  .one (.int .i32),
  .one (.int .i32),
  .agg [.int .u64, .int .u64, .int .u32, .int .u8, .int .u8, .int .u8, .int .u8, .any, .ptr, .int .i32, .int .i32],
  .agg [.int .u64, .int .u64, .int .u32, .int .u8, .int .u8, .int .u8, .int .u8, .any, .ptr, .int .i32, .int .i32],
  .one (.any)]
def nth : List Sh → Nat → Sh
  | [], _ => .one .any
  | s :: _, 0 => s
  | _ :: r, n + 1 => nth r n
def ty (n : Nat) : Sh := nth tyL n
abbrev F_main_main : Nat := 0
abbrev F_gosem_cut : Nat := 1
abbrev F_gosem_cut_init : Nat := 2
abbrev F_cartularytop_CartularyPacks : Nat := 3
abbrev F_pack_Build : Nat := 4
abbrev F_cartularylaw11_Short : Nat := 5
abbrev F_pack_All : Nat := 6
abbrev F_object_Id : Nat := 7
abbrev F_packidx_Build : Nat := 8
abbrev F_sums_Hex : Nat := 9
abbrev F_packidx_Parse : Nat := 10
abbrev F_packidx_Idx_Len : Nat := 11
abbrev F_packidx_Idx_Sum : Nat := 12
abbrev F_packidx_Idx_Find : Nat := 13
abbrev F_pack_Read : Nat := 14
abbrev F_packidx_Idx_Match : Nat := 15
abbrev F_sums_Crc32 : Nat := 16
abbrev F_sums_Big : Nat := 17
abbrev F_object_Check : Nat := 18
abbrev F_pack_headOf : Nat := 19
abbrev F_zlib_Write : Nat := 20
abbrev F_delta_Make : Nat := 21
abbrev F_sums_Unhex : Nat := 22
abbrev F_pack_backOf : Nat := 23
abbrev F_sha_Sum1 : Nat := 24
abbrev F_cartularylaw01_Few : Nat := 25
abbrev F_pack_Count : Nat := 26
abbrev F_object_Encode : Nat := 27
abbrev F_slices_Clone : Nat := 28
abbrev F_slices_SortFunc : Nat := 29
abbrev F_packidx_Build_1 : Nat := 30
abbrev F_strings_Compare : Nat := 31
abbrev F_sums_Id : Nat := 32
abbrev F_sums_FromBig : Nat := 33
abbrev F_slices_BinarySearchFunc : Nat := 34
abbrev F_packidx_Idx_Find_1 : Nat := 35
abbrev F_pack_Read_1 : Nat := 36
abbrev F_pack_reader_head : Nat := 37
abbrev F_pack_reader_back : Nat := 38
abbrev F_zlib_Read : Nat := 39
abbrev F_packidx_Idx_Match_1 : Nat := 40
abbrev F_strings_HasPrefix : Nat := 41
abbrev F_sums_Crc_Write : Nat := 42
abbrev F_sums_Crc_Sum : Nat := 43
abbrev F_object_Name : Nat := 44
abbrev F_zlib_frame : Nat := 45
abbrev F_inflate_Deflate : Nat := 46
abbrev F_delta_sized : Nat := 47
abbrev F_delta_Make_1 : Nat := 48
abbrev F_delta_copyOf : Nat := 49
abbrev F_sums_digit : Nat := 50
abbrev F_sha_Hash1_Write : Nat := 51
abbrev F_sha_Hash1_Sum : Nat := 52
abbrev F_strconv_Itoa : Nat := 53
abbrev F_slices_pdqsortCmpFunc : Nat := 54
abbrev F_bits_Len : Nat := 55
abbrev F_bytealg_CompareString : Nat := 56
abbrev F_pack_reader_byte : Nat := 57
abbrev F_zlib_Head : Nat := 58
abbrev F_inflate_Inflate : Nat := 59
abbrev F_sums_Adler32 : Nat := 60
abbrev F_stringslite_HasPrefix : Nat := 61
abbrev F_inflate_fixed : Nat := 62
abbrev F_bitin_Writer_Bits : Nat := 63
abbrev F_huff_Table_Code : Nat := 64
abbrev F_bitin_Writer_Code : Nat := 65
abbrev F_inflate_symbolOf : Nat := 66
abbrev F_inflate_lengthBase : Nat := 67
abbrev F_inflate_distBase : Nat := 68
abbrev F_bitin_Writer_Text : Nat := 69
abbrev F_inflate_Stored : Nat := 70
abbrev F_sha_hash_write : Nat := 71
abbrev F_sha_start1 : Nat := 72
abbrev F_sha_block1 : Nat := 73
abbrev F_sha_hash_sum : Nat := 74
abbrev F_slices_insertionSortCmpFunc : Nat := 76
abbrev F_slices_heapSortCmpFunc : Nat := 77
abbrev F_slices_breakPatternsCmpFunc : Nat := 78
abbrev F_slices_choosePivotCmpFunc : Nat := 79
abbrev F_slices_reverseRangeCmpFunc : Nat := 80
abbrev F_slices_partialInsertionSortCmpFunc : Nat := 81
abbrev F_slices_partitionEqualCmpFunc : Nat := 82
abbrev F_slices_partitionCmpFunc : Nat := 83
abbrev F_bits_Len32 : Nat := 84
abbrev F_bits_Len64 : Nat := 85
abbrev F_bytealg_abigen_runtime_cmpstring : Nat := 86
abbrev F_bitin_New : Nat := 87
abbrev F_inflate_state_run : Nat := 88
abbrev F_bitin_Reader_Used : Nat := 89
abbrev F_sums_Adler_Write : Nat := 90
abbrev F_sums_Adler_Sum : Nat := 91
abbrev F_huff_New : Nat := 92
abbrev F_bitin_Writer_Bytes : Nat := 93
abbrev F_sums_Little : Nat := 94
abbrev F_sha_word : Nat := 95
abbrev F_bits_RotateLeft32 : Nat := 96
abbrev F_strconv_FormatInt : Nat := 97
abbrev F_slices_siftDownCmpFunc : Nat := 98
abbrev F_slices_nextPowerOfTwo : Nat := 99
abbrev F_slices_xorshift_Next : Nat := 100
abbrev F_slices_medianAdjacentCmpFunc : Nat := 101
abbrev F_slices_medianCmpFunc : Nat := 102
abbrev F_bitin_Reader_Bits : Nat := 103
abbrev F_inflate_state_stored : Nat := 104
abbrev F_inflate_state_tables : Nat := 105
abbrev F_huff_Table_Read : Nat := 106
abbrev F_inflate_state_put : Nat := 107
abbrev F_inflate_state_repeat : Nat := 108
abbrev F_bitin_Writer_Align : Nat := 109
abbrev F_strconv_small : Nat := 110
abbrev F_strconv_numDigits : Nat := 111
abbrev F_strconv_formatBase10 : Nat := 112
abbrev F_strconv_formatBits : Nat := 113
abbrev F_slices_order2CmpFunc : Nat := 114
abbrev F_bitin_Reader_Peek : Nat := 115
abbrev F_bitin_Reader_Skip : Nat := 116
abbrev F_bitin_Reader_Bytes : Nat := 117
abbrev F_sums_FromLittle : Nat := 118
abbrev F_bitin_Reader_Left : Nat := 119
abbrev F_inflate_order : Nat := 120
abbrev F_strconv_log10Pow2 : Nat := 121
abbrev F_strconv_bool2 : Nat := 122
abbrev F_strconv_isPowerOfTwo : Nat := 123
abbrev F_bits_TrailingZeros : Nat := 124
abbrev F_bitin_Reader_fill : Nat := 125
abbrev F_bitin_Reader_Align : Nat := 126
abbrev F_bits_TrailingZeros32 : Nat := 127
abbrev F_bits_TrailingZeros64 : Nat := 128
abbrev F_runtime_boundsError_Error : Nat := 129
abbrev F_runtime_boundsError_RuntimeError : Nat := 130
abbrev F_runtime_errorString_Error : Nat := 131
abbrev F_runtime_errorString_RuntimeError : Nat := 132
abbrev F_runtime_plainError_Error : Nat := 133
abbrev F_runtime_plainError_RuntimeError : Nat := 134
abbrev F_runtime_errorAddressString_Error : Nat := 135
abbrev F_runtime_errorAddressString_RuntimeError : Nat := 136
abbrev F_runtime_TypeAssertionError_Error : Nat := 137
abbrev F_runtime_TypeAssertionError_RuntimeError : Nat := 138
abbrev F_runtime_PanicNilError_Error : Nat := 139
abbrev F_runtime_PanicNilError_RuntimeError : Nat := 140
abbrev F_abi_Type_Align : Nat := 141
abbrev F_maps_unhashableTypeError_Error : Nat := 142
abbrev F_maps_unhashableTypeError_RuntimeError : Nat := 143
abbrev F_abi_Kind_String : Nat := 144
abbrev F_var_s_door_gosem_cut_vars_holds_initialisers_alone_see_the_manifest_s_row_cutvarsword_look_11_test_files_too_ : Nat := 145
abbrev F_strconv_uint64pow10_is_laid_by_its_own_initialiser_plain_data_look_11_ : Nat := 146
abbrev F_bits_deBruijn32tab_is_laid_by_its_own_initialiser_plain_data_look_11_ : Nat := 147
abbrev F_bits_deBruijn64tab_is_laid_by_its_own_initialiser_plain_data_look_11_ : Nat := 148
abbrev F_var_s_door_the_look_of_gosem_cut_vars_went_over_the_folder_that_the_caller_named_as_the_repository_s_root_look_11_ : Nat := 149
abbrev F_gosem_cut_vars : Nat := 150
abbrev T_int64 : Nat := 2
abbrev T_int : Nat := 3
abbrev T_bool : Nat := 4
abbrev T_uint8 : Nat := 5
abbrev T_abi_BoundsErrorCode : Nat := 6
abbrev T_runtime_boundsError : Nat := 8
abbrev T_string : Nat := 9
abbrev T_runtime_errorString : Nat := 10
abbrev T_runtime_plainError : Nat := 11
abbrev T_uintptr : Nat := 12
abbrev T_runtime_errorAddressString : Nat := 14
abbrev T_P_runtime_TypeAssertionError : Nat := 15
abbrev T_P_runtime_PanicNilError : Nat := 16
abbrev T_P_abi_Type : Nat := 17
abbrev T_maps_unhashableTypeError : Nat := 19
abbrev T_int32 : Nat := 21
abbrev T_S_pack_Item : Nat := 22
abbrev T_api_Errno : Nat := 23
abbrev T_S_pack_Entry : Nat := 27
abbrev T_S_packidx_Row : Nat := 30
abbrev T_uint32 : Nat := 31
abbrev T_pack_Entry : Nat := 33
abbrev T_api_Object : Nat := 36
abbrev T_pack_Item : Nat := 38
abbrev T_packidx_Row : Nat := 40
abbrev T_P_packidx_Idx : Nat := 43
abbrev T_S_string : Nat := 52
abbrev T_uint64 : Nat := 57
abbrev T_S_int : Nat := 58
abbrev T_S_uint8 : Nat := 60
abbrev T_256_int : Nat := 74
abbrev T_uint : Nat := 75
abbrev T_257_int : Nat := 76
abbrev T_packidx_Idx : Nat := 78
abbrev T_pack_wrong : Nat := 83
abbrev T_P_pack_reader : Nat := 85
abbrev T_pack_reader : Nat := 87
abbrev T_sums_Crc : Nat := 94
abbrev T_map_string_int : Nat := 98
abbrev T_S_uint32 : Nat := 100
abbrev T_sha_hash : Nat := 102
abbrev T_sha_Hash1 : Nat := 104
abbrev T_P_sums_Crc : Nat := 108
abbrev T_bitin_Writer : Nat := 110
abbrev T_P_huff_Table : Nat := 111
abbrev T_P_sha_Hash1 : Nat := 120
abbrev T_slices_sortedHint : Nat := 126
abbrev T_P_inflate_state : Nat := 134
abbrev T_P_bitin_Reader : Nat := 135
abbrev T_inflate_state : Nat := 138
abbrev T_sums_Adler : Nat := 141
abbrev T_P_bitin_Writer : Nat := 144
abbrev T_16_int : Nat := 145
abbrev T_huff_Table : Nat := 147
abbrev T_P_sha_hash : Nat := 148
abbrev T_sha_block : Nat := 149
abbrev T_80_uint32 : Nat := 150
abbrev T_slices_xorshift : Nat := 153
abbrev T_P_int : Nat := 157
abbrev T_bitin_Reader : Nat := 160
abbrev T_P_sums_Adler : Nat := 168
abbrev T_24_uint8 : Nat := 169
abbrev T_P_slices_xorshift : Nat := 173
abbrev T_19_int : Nat := 177
abbrev T_20_uint64 : Nat := 181
abbrev T_65_uint8 : Nat := 182
abbrev T_32_uint8 : Nat := 184
abbrev T_64_uint8 : Nat := 185
abbrev T_runtime_TypeAssertionError : Nat := 187
abbrev T_0_P_runtime_PanicNilError : Nat := 188
abbrev T_runtime_PanicNilError : Nat := 190
abbrev T_abi_TFlag : Nat := 191
abbrev T_abi_Kind : Nat := 192
abbrev T_P_uint8 : Nat := 194
abbrev T_abi_NameOff : Nat := 195
abbrev T_abi_TypeOff : Nat := 196
abbrev T_abi_Type : Nat := 198
abbrev G_bytealg_MaxLen : Nat := 0
abbrev G_strconv_uint64pow10 : Nat := 1
abbrev G_bits_deBruijn32tab : Nat := 2
abbrev G_bits_deBruijn64tab : Nat := 3
end Go.Proofs.YtaaimcbicpgjoaaGreatDoor

/- Slices of bytes of this seat. No condition. -/
set_option linter.unusedVariables false
namespace Go.Proofs.YtaaimcbicpgjoaaGreatDoor
open Go Vc Go.Proofs

theorem elByte : El Tryz.prog T_S_uint8 T_uint8 (.int .u8 0) 1 := ⟨by kernel_rfl, by kernel_rfl, rfl⟩
theorem elByteH : El Tryz.prog T_S_uint8 T_uint8 (.int .u8 0) 1 := elByte
theorem own_empty (w : World) (e : TypeId) : Vc.Own (w.alloc (.cells #[] e)) w.heap.size e ⟨some ⟨w.heap.size, 0, none⟩, 0, 0⟩ [] :=
  ⟨rfl, .inr ⟨w.heap.size, #[], rfl, Nat.le_refl _, alloc_new _ _, Nat.le_refl _, Nat.zero_le _, rfl, rfl⟩⟩
theorem byteV_one (l : List UInt8) : ∀ u ∈ byteV l, u.oneCell' = true := fun u h => by
  obtain ⟨b, _, rfl⟩ := List.mem_map.1 h; rfl
end Go.Proofs.YtaaimcbicpgjoaaGreatDoor

/- Formulas of 4 Go functions of this seat (written by a program of the author's, vcgen.py), and that each is enough for the call. No condition. -/
set_option linter.unusedVariables false
namespace Go.Proofs.YtaaimcbicpgjoaaGreatDoor
open Go Vc Go.Proofs
set_option maxRecDepth 100000
/-- delta.sized -/
def vc_delta_sized (x0 : Int) (w : World) (R : Value → World → Prop) : Prop :=
 ∃ I1 : Int → Sl → World → Prop, ∃ I2 : Int → Sl → World → Nat, (I1 x0 (Sl.mk none 0 0) w ∧
 ∀ n3 : Int,
 ∀ l4 : Sl,
 ∀ w5 : World,
 (I1 n3 l4 w5 →
 (((decide (n3 ≥ 128) = true →
 ∀ w6 : World,
 (w6 = World.alloc w5 (Obj.cells (Array.mk [Value.int IntKind.u8 (IntKind.wrap IntKind.u8 (↑(BitVec.toNat (BitVec.ofInt 8 (IntKind.wrap IntKind.u8 n3) ||| BitVec.ofInt 8 128)) : Int))]) 5) →
 ∃ w7 : World, ∃ l8 : Sl, (Sem.run Tryz.prog (Builtin.append_ (Array.mk [60, 60]) 60 (Array.mk [Value.slice l4.1 l4.2 l4.3, Value.slice (some (Addr.mk (Array.size (World.heap w5)) 0 none)) 1 1])) w6 = Result.ok (Value.slice l8.1 l8.2 l8.3) w7 ∧
 ((0 : Int) ≤ (7 : Int) ∧
 (I1 (Int.fdiv n3 (2 ^ min (Int.toNat 7) 64)) (Sl.mk l8.1 l8.2 l8.3) w7 ∧
 I2 (Int.fdiv n3 (2 ^ min (Int.toNat 7) 64)) (Sl.mk l8.1 l8.2 l8.3) w7 < I2 n3 l4 w5)))))) ∧
 (decide (n3 ≥ 128) = false →
 ∀ w9 : World,
 (w9 = World.alloc w5 (Obj.cells (Array.mk [Value.int IntKind.u8 (IntKind.wrap IntKind.u8 n3)]) 5) →
 ∃ w10 : World, ∃ l11 : Sl, (Sem.run Tryz.prog (Builtin.append_ (Array.mk [60, 60]) 60 (Array.mk [Value.slice l4.1 l4.2 l4.3, Value.slice (some (Addr.mk (Array.size (World.heap w5)) 0 none)) 1 1])) w9 = Result.ok (Value.slice l11.1 l11.2 l11.3) w10 ∧
 R (Value.slice l11.1 l11.2 l11.3) w10))))))
theorem vc_delta_sized_ok {x0 : Int} {w : World} {R : Value → World → Prop} {R' : Ending → World → Prop} (h : vc_delta_sized x0 w R) (hR : ∀ v w', R v w' → R' (.returned v) w') :
    Calls Tryz.prog 47 #[.int .i64 x0] w R' :=
  calls_of_body (vs := [(.int .i64 x0, false)]) (ty := ty) (ann := ⟨[], [(2, [(0, .int .i64), (3, .slice)])], [], []⟩) (c := Tryz.f47.body.getD .skip) (by kernel_rfl) Tryz.func47 (by kernel_rfl) (by kernel_rfl) (Eq.mp (by kernel_rfl) h) hR
/-- delta.copyOf -/
def vc_delta_copyOf (x0 : Int) (x1 : Int) (w : World) (R : Value → World → Prop) : Prop :=
 ∀ w1 : World,
 (w1 = World.alloc w (Obj.cells (Array.mk [Value.int IntKind.u8 128]) 5) →
 ∃ I2 : Sl → Int → World → Prop, ∃ I3 : Sl → Int → World → Nat, (I2 (Sl.mk (some (Addr.mk (Array.size (World.heap w)) 0 none)) 1 1) 0 w1 ∧
 ∀ l4 : Sl,
 ∀ n5 : Int,
 ∀ w6 : World,
 (I2 l4 n5 w6 →
 (((decide (n5 < 7) = true →
 (0 ≤ IntKind.wrap IntKind.i64 (8 * n5) ∧
 ∃ I7 : Int → World → Prop, ((((decide (n5 ≥ 4) = true →
 (0 ≤ IntKind.wrap IntKind.i64 (8 * IntKind.wrap IntKind.i64 (n5 - 4)) ∧
 I7 (IntKind.wrap IntKind.i64 (↑(BitVec.toNat (BitVec.ofInt 64 (Int.fdiv x1 (2 ^ min (Int.toNat (IntKind.wrap IntKind.i64 (8 * IntKind.wrap IntKind.i64 (n5 - 4)))) 64)) &&& BitVec.ofInt 64 255)) : Int)) w6))) ∧
 (decide (n5 ≥ 4) = false →
 I7 (IntKind.wrap IntKind.i64 (↑(BitVec.toNat (BitVec.ofInt 64 (Int.fdiv x0 (2 ^ min (Int.toNat (IntKind.wrap IntKind.i64 (8 * n5))) 64)) &&& BitVec.ofInt 64 255)) : Int)) w6)) ∧
 ∀ n8 : Int,
 ∀ w9 : World,
 (I7 n8 w9 →
 ∃ I10 : Bool → World → Prop, (((((n8 != 0) = true →
 ((((n5 == 6) = true →
 I10 (!x1 == 65536) w9)) ∧
 ((n5 == 6) = false →
 I10 (!false) w9)))) ∧
 ((n8 != 0) = false →
 I10 false w9)) ∧
 ∀ b11 : Bool,
 ∀ w12 : World,
 (I10 b11 w12 →
 (((b11 = true →
 ∀ w13 : World,
 (Drew w12 w13 →
 (((0 : Int) ≤ (0 : Int) ∧
 0 < (↑l4.2 : Int)) ∧
 ∃ a14 : Addr, (l4.1 = some a14 ∧
 ∃ n15 : Int, (World.cell? w13 (Addr.add a14 (Int.toNat 0 * 1)) = some (Value.int IntKind.u8 n15) ∧
 (0 ≤ n5 ∧
 (((0 : Int) ≤ (0 : Int) ∧
 0 < (↑l4.2 : Int)) ∧
 ∃ a16 : Addr, (l4.1 = some a16 ∧
 (Wr w13 (Addr.add a16 (Int.toNat 0 * 1)) ∧
 ∀ w17 : World,
 (w17 = World.setCell w13 (Addr.add a16 (Int.toNat 0 * 1)) (Value.int IntKind.u8 (IntKind.wrap IntKind.u8 (↑(BitVec.toNat (BitVec.ofInt 8 n15 ||| BitVec.ofInt 8 (IntKind.wrap IntKind.u8 (1 * 2 ^ min (Int.toNat n5) 8)))) : Int))) →
 ∀ w18 : World,
 (w18 = World.alloc w17 (Obj.cells (Array.mk [Value.int IntKind.u8 (IntKind.wrap IntKind.u8 n8)]) 5) →
 ∃ w19 : World, ∃ l20 : Sl, (Sem.run Tryz.prog (Builtin.append_ (Array.mk [60, 60]) 60 (Array.mk [Value.slice l4.1 l4.2 l4.3, Value.slice (some (Addr.mk (Array.size (World.heap w17)) 0 none)) 1 1])) w18 = Result.ok (Value.slice l20.1 l20.2 l20.3) w19 ∧
 (I2 (Sl.mk l20.1 l20.2 l20.3) (IntKind.wrap IntKind.i64 (n5 + 1)) w19 ∧
 I3 (Sl.mk l20.1 l20.2 l20.3) (IntKind.wrap IntKind.i64 (n5 + 1)) w19 < I3 l4 n5 w6)))))))))))))) ∧
 (b11 = false →
 (I2 (Sl.mk l4.1 l4.2 l4.3) (IntKind.wrap IntKind.i64 (n5 + 1)) w12 ∧
 I3 (Sl.mk l4.1 l4.2 l4.3) (IntKind.wrap IntKind.i64 (n5 + 1)) w12 < I3 l4 n5 w6)))))))))) ∧
 (decide (n5 < 7) = false →
 R (Value.slice l4.1 l4.2 l4.3) w6)))))
theorem vc_delta_copyOf_ok {x0 : Int} {x1 : Int} {w : World} {R : Value → World → Prop} {R' : Ending → World → Prop} (h : vc_delta_copyOf x0 x1 w R) (hR : ∀ v w', R v w' → R' (.returned v) w') :
    Calls Tryz.prog 49 #[.int .i64 x0, .int .i64 x1] w R' :=
  calls_of_body (vs := [(.int .i64 x0, false), (.int .i64 x1, false)]) (ty := ty) (ann := ⟨[(8, [(7, .int .i64)]), (9, [(35, .bool)])], [(3, [(5, .slice), (9, .int .i64)])], [(9, .tail 7)], []⟩) (c := Tryz.f49.body.getD .skip) (by kernel_rfl) Tryz.func49 (by kernel_rfl) (by kernel_rfl) (Eq.mp (by kernel_rfl) h) hR
/-- delta.Make$1 -/
def vc_delta_Make_1 (c0 : Addr) (c1 : Addr) (w : World) (R : Value → World → Prop) : Prop :=
 ∃ I1 : World → Prop, ∃ I2 : World → Nat, (I1 w ∧
 ∀ w3 : World,
 (I1 w3 →
 ∃ l4 : Sl, (World.cell? w3 c0 = some (Value.slice l4.1 l4.2 l4.3) ∧
 (((decide ((↑l4.2 : Int) > 0) = true →
 ∃ l5 : Sl, (World.cell? w3 c0 = some (Value.slice l5.1 l5.2 l5.3) ∧
 ∀ w6 : World,
 (Drew w3 w6 →
 ∃ I7 : World → Prop, (I7 w6 ∧
 ∃ l8 : Sl, ((∀ w9 : World,
 (I7 w9 →
 World.cell? w9 c1 = some (Value.slice l8.1 l8.2 l8.3))) ∧
 ∃ l10 : Sl, ((∀ w11 : World,
 (I7 w11 →
 World.cell? w11 c0 = some (Value.slice l10.1 l10.2 l10.3))) ∧
 (((0 ≤ if 127 < (↑l5.2 : Int) then 127 else (↑l5.2 : Int)) ∧
 ((if 127 < (↑l5.2 : Int) then 127 else (↑l5.2 : Int)) ≤ (↑l10.3 : Int))) ∧
 ∀ w12 : World,
 ((w12 = World.alloc w6 (Obj.cells (Array.mk [Value.int IntKind.u8 (IntKind.wrap IntKind.u8 (if 127 < (↑l5.2 : Int) then 127 else (↑l5.2 : Int)))]) 5)) →
 (I7 w12 ∧
 ∃ w13 : World, ∃ l14 : Sl, (Sem.run Tryz.prog (Builtin.append_ (Array.mk [60, 60]) 60 (Array.mk [Value.slice l8.1 l8.2 l8.3, Value.slice (some (Addr.mk (Array.size (World.heap w6)) 0 none)) 1 1])) w12 = Result.ok (Value.slice l14.1 l14.2 l14.3) w13 ∧
 (I7 w13 ∧
 ∃ w15 : World, ∃ l16 : Sl, ((Sem.run Tryz.prog (Builtin.append_ (Array.mk [60, 60]) 60 (Array.mk [Value.slice l14.1 l14.2 l14.3, Value.slice (subA l10.1 l10.3 0 1) (Int.toNat (if 127 < (↑l5.2 : Int) then 127 else (↑l5.2 : Int))) l10.3])) w13 = Result.ok (Value.slice l16.1 l16.2 l16.3) w15) ∧
 (I7 w15 ∧
 (Wr w15 c1 ∧
 ∀ w17 : World,
 (w17 = World.setCell w15 c1 (Value.slice l16.1 l16.2 l16.3) →
 ∃ l18 : Sl, (World.cell? w17 c0 = some (Value.slice l18.1 l18.2 l18.3) ∧
 (((0 ≤ if 127 < (↑l5.2 : Int) then 127 else (↑l5.2 : Int)) ∧
 ((if 127 < (↑l5.2 : Int) then 127 else (↑l5.2 : Int)) ≤ (↑l18.2 : Int))) ∧
 (Wr w17 c0 ∧
 ∀ w19 : World,
 ((w19 = World.setCell w17 c0 (Value.slice (subA l18.1 l18.3 (Int.toNat (if 127 < (↑l5.2 : Int) then 127 else (↑l5.2 : Int))) 1) (l18.2 - Int.toNat (if 127 < (↑l5.2 : Int) then 127 else (↑l5.2 : Int))) (l18.3 - Int.toNat (if 127 < (↑l5.2 : Int) then 127 else (↑l5.2 : Int))))) →
 (I1 w19 ∧
 I2 w19 < I2 w3))))))))))))))))))))) ∧
 (decide ((↑l4.2 : Int) > 0) = false →
 R (Value.tuple (Array.mk [])) w3)))))
theorem vc_delta_Make_1_ok {c0 : Addr} {c1 : Addr} {w : World} {R : Value → World → Prop} {R' : Ending → World → Prop} (h : vc_delta_Make_1 c0 c1 w R) (hR : ∀ v w', R v w' → R' (.returned v) w') :
    Calls Tryz.prog 48 #[.pointer (some c0), .pointer (some c1)] w R' :=
  calls_of_body (vs := [(.pointer (some c0), true), (.pointer (some c1), true)]) (ty := ty) (ann := ⟨[], [(0, [])], [(2, .held [(0, true), (1, true), (2, true), (5, true), (6, true), (7, true), (3, false), (4, false), (8, false), (9, false)])], []⟩) (c := Tryz.f48.body.getD .skip) (by kernel_rfl) Tryz.func48 (by kernel_rfl) (by kernel_rfl) (Eq.mp (by kernel_rfl) h) hR
/-- delta.Make -/
def vc_delta_Make (x0 : ByteArray) (x1 : ByteArray) (w : World) (R : Value → World → Prop) : Prop :=
 Calls Tryz.prog (47 : Nat) (Array.mk [Value.int IntKind.i64 (↑(ByteArray.size x0) : Int)]) (w) (fun e1 w2 =>
 ∃ l3 : Sl, (e1 = Ending.returned (Value.slice l3.1 l3.2 l3.3) ∧
 Calls Tryz.prog (47 : Nat) (Array.mk [Value.int IntKind.i64 (↑(ByteArray.size x1) : Int)]) (w2) (fun e4 w5 =>
 ∃ l6 : Sl, (e4 = Ending.returned (Value.slice l6.1 l6.2 l6.3) ∧
 ∃ w7 : World, ∃ l8 : Sl, (Sem.run Tryz.prog (Builtin.append_ (Array.mk [60, 60]) 60 (Array.mk [Value.slice l3.1 l3.2 l3.3, Value.slice l6.1 l6.2 l6.3])) w5 = Result.ok (Value.slice l8.1 l8.2 l8.3) w7 ∧
 ∀ w9 : World,
 (w9 = World.alloc w7 (Obj.cells (Array.mk [Value.slice none 0 0]) 60) →
 (Wr w9 (Addr.mk (Array.size (World.heap w7)) 0 none) ∧
 ∀ w10 : World,
 (w10 = World.setCell w9 (Addr.mk (Array.size (World.heap w7)) 0 none) (Value.slice l8.1 l8.2 l8.3) →
 ∀ w11 : World,
 (w11 = World.alloc w10 (Obj.map (Array.mk []) 0) →
 ∃ I12 : Int → World → Prop, ∃ I13 : Int → World → Nat, (I12 0 w11 ∧
 ∀ n14 : Int,
 ∀ w15 : World,
 (I12 n14 w15 →
 (((decide (IntKind.wrap IntKind.i64 (n14 + 4) ≤ (↑(ByteArray.size x0) : Int)) = true →
 ((0 ≤ n14 ∧
 (n14 ≤ IntKind.wrap IntKind.i64 (n14 + 4) ∧
 IntKind.wrap IntKind.i64 (n14 + 4) ≤ (↑(ByteArray.size x0) : Int))) ∧
 ∃ w16 : World, ∃ n17 : Int, ∃ b18 : Bool, (Sem.run Tryz.prog (Instr.lookup 98 (Value.map (some (Array.size (World.heap w10)))) (Value.string (ByteArray.extract x0 (Int.toNat n14) (Int.toNat (IntKind.wrap IntKind.i64 (n14 + 4))))) true) w15 = Result.ok (Value.tuple (Array.mk [Value.int IntKind.i64 n17, Value.bool b18])) w16 ∧
 ((((!b18) = true →
 ((0 ≤ n14 ∧
 (n14 ≤ IntKind.wrap IntKind.i64 (n14 + 4) ∧
 IntKind.wrap IntKind.i64 (n14 + 4) ≤ (↑(ByteArray.size x0) : Int))) ∧
 ∃ w19 : World, (Sem.run Tryz.prog (Instr.mapUpdate 98 (Value.map (some (Array.size (World.heap w10)))) (Value.string (ByteArray.extract x0 (Int.toNat n14) (Int.toNat (IntKind.wrap IntKind.i64 (n14 + 4))))) (Value.int IntKind.i64 n14)) w16 = Result.ok PUnit.unit w19 ∧
 (I12 (IntKind.wrap IntKind.i64 (n14 + 1)) w19 ∧
 I13 (IntKind.wrap IntKind.i64 (n14 + 1)) w19 < I13 n14 w15))))) ∧
 ((!b18) = false →
 (I12 (IntKind.wrap IntKind.i64 (n14 + 1)) w16 ∧
 I13 (IntKind.wrap IntKind.i64 (n14 + 1)) w16 < I13 n14 w15))))))) ∧
 (decide (IntKind.wrap IntKind.i64 (n14 + 4) ≤ (↑(ByteArray.size x0) : Int)) = false →
 ∀ w20 : World,
 (w20 = World.alloc w15 (Obj.cells (Array.mk [Value.slice none 0 0]) 60) →
 ∃ I21 : Int → World → Prop, ∃ I22 : Int → World → Nat, (I21 0 w20 ∧
 ∀ n23 : Int,
 ∀ w24 : World,
 (I21 n23 w24 →
 (((decide (n23 < (↑(ByteArray.size x1) : Int)) = true →
 ∃ I25 : Int → Bool → World → Prop, ((((decide (IntKind.wrap IntKind.i64 (n23 + 4) ≤ (↑(ByteArray.size x1) : Int)) = true →
 ((0 ≤ n23 ∧
 (n23 ≤ IntKind.wrap IntKind.i64 (n23 + 4) ∧
 IntKind.wrap IntKind.i64 (n23 + 4) ≤ (↑(ByteArray.size x1) : Int))) ∧
 ∃ w26 : World, ∃ n27 : Int, ∃ b28 : Bool, (Sem.run Tryz.prog (Instr.lookup 98 (Value.map (some (Array.size (World.heap w10)))) (Value.string (ByteArray.extract x1 (Int.toNat n23) (Int.toNat (IntKind.wrap IntKind.i64 (n23 + 4))))) true) w24 = Result.ok (Value.tuple (Array.mk [Value.int IntKind.i64 n27, Value.bool b28])) w26 ∧
 I25 n27 b28 w26)))) ∧
 (decide (IntKind.wrap IntKind.i64 (n23 + 4) ≤ (↑(ByteArray.size x1) : Int)) = false →
 I25 0 false w24)) ∧
 ∀ n29 : Int,
 ∀ b30 : Bool,
 ∀ w31 : World,
 (I25 n29 b30 w31 →
 ∃ I32 : Int → World → Prop, ((∃ I33 : Int → World → Prop, ∃ I34 : Int → World → Nat, (I33 0 w31 ∧
 ∀ n35 : Int,
 ∀ w36 : World,
 (I33 n35 w36 →
 (((b30 = true →
 (((decide (n35 < 65536) = true →
 (((decide (IntKind.wrap IntKind.i64 (n29 + n35) < (↑(ByteArray.size x0) : Int)) = true →
 (((decide (IntKind.wrap IntKind.i64 (n23 + n35) < (↑(ByteArray.size x1) : Int)) = true →
 ((0 ≤ IntKind.wrap IntKind.i64 (n29 + n35) ∧
 IntKind.wrap IntKind.i64 (n29 + n35) < (↑(ByteArray.size x0) : Int)) ∧
 ((0 ≤ IntKind.wrap IntKind.i64 (n23 + n35) ∧
 IntKind.wrap IntKind.i64 (n23 + n35) < (↑(ByteArray.size x1) : Int)) ∧
 ∀ w37 : World,
 (Drew w36 w37 →
 ((((byteAt x0 (IntKind.wrap IntKind.i64 (n29 + n35)) == byteAt x1 (IntKind.wrap IntKind.i64 (n23 + n35))) = true →
 (I33 (IntKind.wrap IntKind.i64 (n35 + 1)) w37 ∧
 I34 (IntKind.wrap IntKind.i64 (n35 + 1)) w37 < I34 n35 w36))) ∧
 ((byteAt x0 (IntKind.wrap IntKind.i64 (n29 + n35)) == byteAt x1 (IntKind.wrap IntKind.i64 (n23 + n35))) = false →
 I32 n35 w37))))))) ∧
 (decide (IntKind.wrap IntKind.i64 (n23 + n35) < (↑(ByteArray.size x1) : Int)) = false →
 ∀ w38 : World,
 (Drew w36 w38 →
 I32 n35 w38))))) ∧
 (decide (IntKind.wrap IntKind.i64 (n29 + n35) < (↑(ByteArray.size x0) : Int)) = false →
 ∀ w39 : World,
 (Drew w36 w39 →
 I32 n35 w39))))) ∧
 (decide (n35 < 65536) = false →
 ∀ w40 : World,
 (Drew w36 w40 →
 I32 n35 w40))))) ∧
 (b30 = false →
 ∀ w41 : World,
 (Drew w36 w41 →
 I32 n35 w41)))))) ∧
 ∀ n42 : Int,
 ∀ w43 : World,
 (I32 n42 w43 →
 (((decide (n42 < 4) = true →
 ∀ w44 : World,
 (Drew w43 w44 →
 ∃ I45 : World → Prop, (I45 w44 ∧
 ∃ l46 : Sl, ((∀ w47 : World,
 (I45 w47 →
 World.cell? w47 (Addr.mk (Array.size (World.heap w15)) 0 none) = some (Value.slice l46.1 l46.2 l46.3))) ∧
 ((0 ≤ n23 ∧
 n23 < (↑(ByteArray.size x1) : Int)) ∧
 ∀ w48 : World,
 (w48 = World.alloc w44 (Obj.cells (Array.mk [Value.int IntKind.u8 (byteAt x1 n23)]) 5) →
 (I45 w48 ∧
 ∃ w49 : World, ∃ l50 : Sl, (Sem.run Tryz.prog (Builtin.append_ (Array.mk [60, 60]) 60 (Array.mk [Value.slice l46.1 l46.2 l46.3, Value.slice (some (Addr.mk (Array.size (World.heap w44)) 0 none)) 1 1])) w48 = Result.ok (Value.slice l50.1 l50.2 l50.3) w49 ∧
 (I45 w49 ∧
 (Wr w49 (Addr.mk (Array.size (World.heap w15)) 0 none) ∧
 ∀ w51 : World,
 (w51 = World.setCell w49 (Addr.mk (Array.size (World.heap w15)) 0 none) (Value.slice l50.1 l50.2 l50.3) →
 (I21 (IntKind.wrap IntKind.i64 (n23 + 1)) w51 ∧
 I22 (IntKind.wrap IntKind.i64 (n23 + 1)) w51 < I22 n23 w24))))))))))))) ∧
 (decide (n42 < 4) = false →
 Calls Tryz.prog (48 : Nat) (Array.mk [Value.pointer (some (Addr.mk (Array.size (World.heap w15)) 0 none)), Value.pointer (some (Addr.mk (Array.size (World.heap w7)) 0 none))]) (w43) (fun e52 w53 =>
 (e52 = Ending.returned (Value.tuple (Array.mk [])) ∧
 ∀ w54 : World,
 (Drew w53 w54 →
 ∃ I55 : World → Prop, (I55 w54 ∧
 ∃ l56 : Sl, ((∀ w57 : World,
 (I55 w57 →
 World.cell? w57 (Addr.mk (Array.size (World.heap w7)) 0 none) = some (Value.slice l56.1 l56.2 l56.3))) ∧
 Calls Tryz.prog (49 : Nat) (Array.mk [Value.int IntKind.i64 n29, Value.int IntKind.i64 n42]) (w54) (fun e58 w59 =>
 ∃ l60 : Sl, (e58 = Ending.returned (Value.slice l60.1 l60.2 l60.3) ∧
 (I55 w59 ∧
 ∃ w61 : World, ∃ l62 : Sl, (Sem.run Tryz.prog (Builtin.append_ (Array.mk [60, 60]) 60 (Array.mk [Value.slice l56.1 l56.2 l56.3, Value.slice l60.1 l60.2 l60.3])) w59 = Result.ok (Value.slice l62.1 l62.2 l62.3) w61 ∧
 (I55 w61 ∧
 (Wr w61 (Addr.mk (Array.size (World.heap w7)) 0 none) ∧
 ∀ w63 : World,
 (w63 = World.setCell w61 (Addr.mk (Array.size (World.heap w7)) 0 none) (Value.slice l62.1 l62.2 l62.3) →
 (I21 (IntKind.wrap IntKind.i64 (n23 + n42)) w63 ∧
 I22 (IntKind.wrap IntKind.i64 (n23 + n42)) w63 < I22 n23 w24))))))))))))))))))))) ∧
 (decide (n23 < (↑(ByteArray.size x1) : Int)) = false →
 Calls Tryz.prog (48 : Nat) (Array.mk [Value.pointer (some (Addr.mk (Array.size (World.heap w15)) 0 none)), Value.pointer (some (Addr.mk (Array.size (World.heap w7)) 0 none))]) (w24) (fun e64 w65 =>
 (e64 = Ending.returned (Value.tuple (Array.mk [])) ∧
 Calls Tryz.prog (47 : Nat) (Array.mk [Value.int IntKind.i64 (↑(ByteArray.size x0) : Int)]) (w65) (fun e66 w67 =>
 ∃ l68 : Sl, (e66 = Ending.returned (Value.slice l68.1 l68.2 l68.3) ∧
 Calls Tryz.prog (47 : Nat) (Array.mk [Value.int IntKind.i64 (↑(ByteArray.size x1) : Int)]) (w67) (fun e69 w70 =>
 ∃ l71 : Sl, (e69 = Ending.returned (Value.slice l71.1 l71.2 l71.3) ∧
 ∃ w72 : World, ∃ l73 : Sl, (Sem.run Tryz.prog (Builtin.append_ (Array.mk [60, 60]) 60 (Array.mk [Value.slice l68.1 l68.2 l68.3, Value.slice l71.1 l71.2 l71.3])) w70 = Result.ok (Value.slice l73.1 l73.2 l73.3) w72 ∧
 ∃ I74 : ByteArray → Sl → World → Prop, ∃ I75 : ByteArray → Sl → World → Nat, (I74 x1 (Sl.mk l73.1 l73.2 l73.3) w72 ∧
 ∀ s76 : ByteArray,
 ∀ l77 : Sl,
 ∀ w78 : World,
 (I74 s76 l77 w78 →
 (((decide ((↑(ByteArray.size s76) : Int) > 0) = true →
 ∀ w79 : World,
 (Drew w78 w79 →
 ∃ I80 : World → Prop, (I80 w79 ∧
 (((0 ≤ if 127 < (↑(ByteArray.size s76) : Int) then 127 else (↑(ByteArray.size s76) : Int)) ∧
 ((if 127 < (↑(ByteArray.size s76) : Int) then 127 else (↑(ByteArray.size s76) : Int)) ≤ (↑(ByteArray.size s76) : Int))) ∧
 ∀ w81 : World,
 ((w81 = World.alloc w79 (Obj.cells (Array.mk [Value.int IntKind.u8 (IntKind.wrap IntKind.u8 (if 127 < (↑(ByteArray.size s76) : Int) then 127 else (↑(ByteArray.size s76) : Int)))]) 5)) →
 (I80 w81 ∧
 ∃ w82 : World, ∃ l83 : Sl, (Sem.run Tryz.prog (Builtin.append_ (Array.mk [60, 60]) 60 (Array.mk [Value.slice l77.1 l77.2 l77.3, Value.slice (some (Addr.mk (Array.size (World.heap w79)) 0 none)) 1 1])) w81 = Result.ok (Value.slice l83.1 l83.2 l83.3) w82 ∧
 (I80 w82 ∧
 ∃ w84 : World, ∃ l85 : Sl, ((Sem.run Tryz.prog (Builtin.append_ (Array.mk [60, 9]) 60 (Array.mk [Value.slice l83.1 l83.2 l83.3, Value.string (ByteArray.extract s76 0 (Int.toNat (if 127 < (↑(ByteArray.size s76) : Int) then 127 else (↑(ByteArray.size s76) : Int))))])) w82 = Result.ok (Value.slice l85.1 l85.2 l85.3) w84) ∧
 (I80 w84 ∧
 (((0 ≤ if 127 < (↑(ByteArray.size s76) : Int) then 127 else (↑(ByteArray.size s76) : Int)) ∧
 ((if 127 < (↑(ByteArray.size s76) : Int) then 127 else (↑(ByteArray.size s76) : Int)) ≤ (↑(ByteArray.size s76) : Int))) ∧
 ((I74 (ByteArray.extract s76 (Int.toNat (if 127 < (↑(ByteArray.size s76) : Int) then 127 else (↑(ByteArray.size s76) : Int))) (ByteArray.size s76)) (Sl.mk l85.1 l85.2 l85.3) w84) ∧
 (I75 (ByteArray.extract s76 (Int.toNat (if 127 < (↑(ByteArray.size s76) : Int) then 127 else (↑(ByteArray.size s76) : Int))) (ByteArray.size s76)) (Sl.mk l85.1 l85.2 l85.3) w84 < I75 s76 l77 w78)))))))))))))) ∧
 (decide ((↑(ByteArray.size s76) : Int) > 0) = false →
 ∃ l86 : Sl, (World.cell? w78 (Addr.mk (Array.size (World.heap w7)) 0 none) = some (Value.slice l86.1 l86.2 l86.3) ∧
 (((decide ((↑l77.2 : Int) < (↑l86.2 : Int)) = true →
 ∃ w87 : World, ∃ s88 : ByteArray, (Sem.run Tryz.prog (convert 60 9 (Value.slice l77.1 l77.2 l77.3)) w78 = Result.ok (Value.string s88) w87 ∧
 R (Value.string s88) w87))) ∧
 (decide ((↑l77.2 : Int) < (↑l86.2 : Int)) = false →
 ∃ l89 : Sl, (World.cell? w78 (Addr.mk (Array.size (World.heap w7)) 0 none) = some (Value.slice l89.1 l89.2 l89.3) ∧
 ∃ w90 : World, ∃ s91 : ByteArray, (Sem.run Tryz.prog (convert 60 9 (Value.slice l89.1 l89.2 l89.3)) w78 = Result.ok (Value.string s91) w90 ∧
 R (Value.string s91) w90))))))))))))))))))))))))))))))))))
theorem vc_delta_Make_ok {x0 : ByteArray} {x1 : ByteArray} {w : World} {R : Value → World → Prop} {R' : Ending → World → Prop} (h : vc_delta_Make x0 x1 w R) (hR : ∀ v w', R v w' → R' (.returned v) w') :
    Calls Tryz.prog 21 #[.string x0, .string x1] w R' :=
  calls_of_body (vs := [(.string x0, false), (.string x1, false)]) (ty := ty) (ann := ⟨[(17, [(14, .int .i64), (15, .bool)]), (19, [(13, .int .i64)])], [(4, [(7, .int .i64)]), (12, [(12, .int .i64)]), (17, [(13, .int .i64)]), (27, [(1, .str), (16, .slice)])], [(17, .quiet), (20, .held [(0, true), (1, true), (2, true), (3, true), (4, false), (5, false), (6, false)]), (23, .held [(0, true), (1, true), (2, true), (3, false), (4, false), (5, false)]), (29, .held [(0, true), (1, true), (2, true), (5, true), (6, true), (7, true), (3, false), (4, false), (8, false), (9, true)])], []⟩) (c := Tryz.f21.body.getD .skip) (by kernel_rfl) Tryz.func21 (by kernel_rfl) (by kernel_rfl) (Eq.mp (by kernel_rfl) h) hR
end Go.Proofs.YtaaimcbicpgjoaaGreatDoor

/- The package delta's writer of numbers and copies. Conditions: numbers below 16384, places below 2^32, lengths below 65536. -/
set_option linter.unusedVariables false
namespace Go.Proofs.YtaaimcbicpgjoaaGreatDoor
open Go Vc Go.Proofs

theorem byteV_length (l : List UInt8) : (byteV l).length = l.length := List.length_map ..
theorem dshr (a s : Nat) (hs : s ≤ 64) : Int.fdiv (a : Int) (2 ^ min s 64) = ((a / 2 ^ s : Nat) : Int) := by
  have e : (2 : Int) ^ s = ((2 ^ s : Nat) : Int) := by rw [Int.natCast_pow]; rfl
  rw [show min s 64 = s by omega, e, Int.fdiv_eq_ediv_of_nonneg _ (Int.natCast_nonneg _), ← Int.natCast_ediv]
theorem dand255 (v s : Nat) (hs : s ≤ 64) (hv : v < 9223372036854775808) : IntKind.i64.wrap (((BitVec.ofInt 64 (Int.fdiv (v : Int) (2 ^ min s 64)) &&& BitVec.ofInt 64 255).toNat : Nat) : Int) = ((v / 2 ^ s % 256 : Nat) : Int) := by
  have hle : v / 2 ^ s ≤ v := Nat.div_le_self _ _
  rw [dshr v s hs, show (255 : Int) = ((255 : Nat) : Int) from rfl, and_nat 64 _ _ (by omega) (by omega), show (255 : Nat) = 2 ^ 8 - 1 from rfl, Nat.and_two_pow_sub_one_eq_mod, wrap_i64 (by omega) (by omega)]
theorem dor128 (k : Nat) : IntKind.u8.wrap (((BitVec.ofInt 8 (IntKind.u8.wrap (k : Int)) ||| BitVec.ofInt 8 128).toNat : Nat) : Int) = ((k % 128 + 128 : Nat) : Int) := by
  have h : ∀ c, c < 256 → c ||| 128 = c % 128 + 128 := by decide +kernel
  have e : IntKind.u8.wrap (k : Int) = ((k % 256 : Nat) : Int) := by rw [wrap_u8_mod]; omega
  rw [e, show (128 : Int) = ((128 : Nat) : Int) from rfl, or_nat 8 _ _ (by omega) (by omega), h _ (by omega), wrap_u8 (by omega) (by omega)]
  omega
theorem sized_spec (n : Nat) (hn : n < 16384) (w : World) : Calls Tryz.prog F_delta_sized #[.int .i64 (n : Int)] w fun e w' =>
    ∃ l : Sl, e = .returned (.slice l.a l.len l.cap) ∧ Vc.Own w' w.heap.size T_uint8 l (byteV (sizedL n)) ∧ Fr (fun _ => False) w w' := by
  refine vc_delta_sized_ok (R := fun v w' => ∃ l : Sl, v = .slice l.a l.len l.cap ∧ Vc.Own w' w.heap.size T_uint8 l (byteV (sizedL n)) ∧ Fr (fun _ => False) w w') ?_ (fun v w' ⟨l, h1, h2⟩ => ⟨l, by rw [h1], h2⟩)
  refine ⟨fun m l w' => ∃ (k : Nat) (bs : List UInt8), m = k ∧ Vc.Own w' w.heap.size T_uint8 l (byteV bs) ∧ bs ++ sizedL k = sizedL n ∧ (bs = [] ∨ k < 128) ∧ bs.length ≤ 1 ∧ k < 16384 ∧ Fr (fun _ => False) w w', fun m _ _ => m.toNat,
    ⟨n, [], rfl, Vc.Own.nil _ _ _, rfl, .inl rfl, Nat.zero_le _, hn, .refl _ _⟩, ?_⟩
  rintro m l w5 ⟨k, bs, rfl, ho, he, hbs, hb1, hk, hf⟩
  have hle := ho.len
  rw [byteV_length] at hle
  refine ⟨fun hge w6 h6 => ?_, fun hlt w9 h9 => ?_⟩
  · have hge := of_decide_eq_true hge
    have hk128 : 128 ≤ k := by omega
    have hb0 : bs = [] := hbs.resolve_right (by omega)
    subst hb0
    rw [dor128] at h6
    obtain ⟨w7, l8, hr, ho7, hf7, hs7⟩ := append_one' elByte ho (v := .int .u8 ((k % 128 + 128 : Nat) : Int)) rfl (by simp [byteV, maxLen]) (by simp [byteV]) hf.size h6
    refine ⟨w7, l8, hr, by decide, ?_⟩
    rw [show Int.toNat 7 = 7 from rfl, dshr k 7 (by omega)]
    have hk2 : k / 2 ^ 7 < 128 := by omega
    have hok := sizedL_big hk128
    refine ⟨⟨k / 2 ^ 7, [UInt8.ofNat (k % 128 + 128)], rfl, ?_, ?_, .inr hk2, Nat.le_refl _, by omega, ?_⟩, by dsimp only; omega⟩
    · rw [byteV_snoc _ _ (by omega)] at ho7
      exact ho7
    · rw [← he, List.nil_append, hok]
      unfold sizedL
      rw [if_pos hk2]; rfl
    · exact hf.trans hf7 fun q hq ⟨y, hy, e⟩ => by have := (ho.blk hy).1; omega
  · have hlt := of_decide_eq_false hlt
    have hk128 : k < 128 := by omega
    rw [wrap_u8 (by omega) (by omega)] at h9
    obtain ⟨w10, l11, hr, ho10, hf10, hs10⟩ := append_one' elByte ho (v := .int .u8 (k : Int)) rfl (by rw [byteV_length]; unfold maxLen; omega) (by rw [byteV_length]; omega) hf.size h9
    refine ⟨w10, l11, hr, l11, rfl, ?_, hf.trans hf10 fun q hq ⟨y, hy, e⟩ => by have := (ho.blk hy).1; omega⟩
    rw [byteV_snoc _ _ (by omega)] at ho10
    rw [← he, show sizedL k = [UInt8.ofNat k] by unfold sizedL; rw [if_pos hk128]]
    exact ho10
theorem dorbit (f i : Nat) (hi : i < 7) (hf : f < 2 ^ i) : IntKind.u8.wrap (((BitVec.ofInt 8 ((128 + f : Nat) : Int) ||| BitVec.ofInt 8 (IntKind.u8.wrap (1 * 2 ^ min i 8))).toNat : Nat) : Int) = ((128 + (f + 2 ^ i) : Nat) : Int) := by
  have h : ∀ i, i < 7 → ∀ f, f < 2 ^ i → (128 + f) ||| 2 ^ i = 128 + (f + 2 ^ i) ∧ 128 + (f + 2 ^ i) < 256 ∧ 2 ^ i < 256 := by decide
  obtain ⟨h1, h2, h3⟩ := h i hi f hf
  have e : (1 : Int) * 2 ^ min i 8 = ((2 ^ i : Nat) : Int) := by rw [show min i 8 = i by omega, Int.one_mul, Int.natCast_pow]; rfl
  rw [e, show IntKind.u8.wrap ((2 ^ i : Nat) : Int) = ((2 ^ i : Nat) : Int) from wrap_u8 (by omega) (by omega), or_nat 8 _ _ (by omega) (by omega), h1, wrap_u8 (by omega) (by omega)]
theorem copyOf_spec (o n : Nat) (ho : o < 4294967296) (hn : n < 65536) (w : World) : Calls Tryz.prog F_delta_copyOf #[.int .i64 (o : Int), .int .i64 (n : Int)] w fun e w' =>
    ∃ l : Sl, e = .returned (.slice l.a l.len l.cap) ∧ Vc.Own w' w.heap.size T_uint8 l (byteV (encD (.copy o n))) ∧ Fr (fun _ => False) w w' := by
  refine vc_delta_copyOf_ok (R := fun v w' => ∃ l : Sl, v = .slice l.a l.len l.cap ∧ Vc.Own w' w.heap.size T_uint8 l (byteV (encD (.copy o n))) ∧ Fr (fun _ => False) w w') ?_ (fun v w' ⟨l, h1, h2⟩ => ⟨l, by rw [h1], h2⟩)
  intro w1 h1
  have f1 : Fr (fun _ => False) w w1 := by rw [h1]; exact .alloc _ _ _
  have ho1 : Vc.Own w1 w.heap.size T_uint8 ⟨some ⟨w.heap.size, 0, none⟩, 1, 1⟩ (byteV [UInt8.ofNat 128]) :=
    ⟨rfl, .inr ⟨w.heap.size, #[.int .u8 128], rfl, Nat.le_refl _, by rw [h1]; exact alloc_new _ _, Nat.le_refl _, (show 1 ≤ maxLen by decide), rfl, rfl⟩⟩
  clear h1
  refine ⟨fun l m w' => ∃ i : Nat, m = i ∧ i ≤ 7 ∧ Vc.Own w' w.heap.size T_uint8 l (byteV (UInt8.ofNat (128 + cflag o n i) :: cpbs o n 0 i)) ∧ Fr (fun _ => False) w w', fun _ m _ => 7 - m.toNat, ⟨0, rfl, by decide, ho1, f1⟩, ?_⟩
  clear ho1 f1
  rintro l m w6 ⟨i, rfl, hi, ho6, hf6⟩
  refine ⟨fun hlt => ?_, fun hge => ?_⟩
  · have hlt := of_decide_eq_true hlt
    have hi7 : i < 7 := by omega
    have e1 : IntKind.i64.wrap ((i : Int) + 1) = ((i + 1 : Nat) : Int) := by rw [wrap_i64 (by omega) (by omega)]; omega
    have e8 : IntKind.i64.wrap (8 * (i : Int)) = ((8 * i : Nat) : Int) := by rw [wrap_i64 (by omega) (by omega)]; omega
    rw [e1, e8, Int.toNat_natCast, Int.toNat_natCast]
    refine ⟨by omega, fun v w' => v = ((cpb o n i : Nat) : Int) ∧ w' = w6, ⟨fun h4 => ?_, fun h4 => ?_⟩, ?_⟩
    · have h4 := of_decide_eq_true h4
      have e4 : IntKind.i64.wrap ((i : Int) - 4) = ((i - 4 : Nat) : Int) := by rw [wrap_i64 (by omega) (by omega)]; omega
      have e9 : IntKind.i64.wrap (8 * ((i - 4 : Nat) : Int)) = ((8 * (i - 4) : Nat) : Int) := by rw [wrap_i64 (by omega) (by omega)]; omega
      rw [e4, e9, Int.toNat_natCast, dand255 n _ (by omega) (by omega)]
      refine ⟨by omega, ?_, rfl⟩
      unfold cpb
      rw [if_neg (by omega), Nat.pow_mul]
    · have h4 := of_decide_eq_false h4
      rw [dand255 o _ (by omega) (by omega)]
      refine ⟨?_, rfl⟩
      unfold cpb
      rw [if_pos (by omega), Nat.pow_mul]
    · rintro v w9 ⟨rfl, hw⟩
      replace hw := hw.symm
      subst hw
      have hcb := cpb_lt o n i
      refine ⟨fun b w' => b = decide (cpb o n i ≠ 0) ∧ w' = w6, ⟨fun hne => ?_, fun heq => ?_⟩, ?_⟩
      · have hne : cpb o n i ≠ 0 := by have : ((cpb o n i : Nat) : Int) ≠ 0 := (by simpa using hne); omega
        rw [decide_eq_true hne]
        refine ⟨fun _ => ⟨?_, rfl⟩, fun _ => ⟨rfl, rfl⟩⟩
        have : ((n : Int) == 65536) = false := by rw [beq_eq_false_iff_ne]; omega
        rw [this]; rfl
      · have heq : cpb o n i = 0 := by have : ((cpb o n i : Nat) : Int) = 0 := (by simpa using heq); omega
        rw [heq]
        exact ⟨rfl, rfl⟩
      rintro b w12 ⟨rfl, hw⟩
      replace hw := hw.symm
      subst hw
      refine ⟨fun hne w13 d13 => ?_, fun heq => ⟨⟨i + 1, rfl, by omega, ?_, hf6⟩, by dsimp only; omega⟩⟩
      · have hne := of_decide_eq_true hne
        have ho13 := ho6.drew d13
        have hlen := ho6.len
        rw [byteV_length, List.length_cons] at hlen
        have hcl := cpbs_len o n 0 i
        have hfl := cflag_lt o n i
        obtain ⟨x, hx, hc, hwr, hset⟩ := ho13.set (i := 0) (by rw [byteV_length]; simp)
        have hfl2 : 128 + cflag o n i < 256 := by have : 2 ^ i ≤ 2 ^ 6 := Nat.pow_le_pow_right (by decide) (by omega); omega
        have hc0 : (byteV (UInt8.ofNat (128 + cflag o n i) :: cpbs o n 0 i))[0]'(by rw [byteV_length]; simp) = .int .u8 ((128 + cflag o n i : Nat) : Int) := by
          simp only [byteV, List.map_cons, List.getElem_cons_zero]
          rw [toNat_of _ hfl2]
        rw [hc0] at hc
        refine ⟨⟨by decide, by omega⟩, x, hx, _, hc, by omega, ⟨by decide, by omega⟩, x, hx, hwr, fun w17 h17 w18 h18 => ?_⟩
        rw [dorbit _ _ hi7 hfl] at h17
        obtain ⟨hos, hfs⟩ := hset (.int .u8 ((128 + (cflag o n i + 2 ^ i) : Nat) : Int))
        have hcd : cpd o n i = 1 := by unfold cpd; rw [if_neg hne]
        have hflag : cflag o n (i + 1) = cflag o n i + 2 ^ i := by rw [cflag, hcd, Nat.mul_one]
        have hos17 : Vc.Own w17 w.heap.size T_uint8 l (byteV (UInt8.ofNat (128 + cflag o n (i + 1)) :: cpbs o n 0 i)) := by
          rw [h17, hflag]
          have := hos
          have hfl3 : 128 + (cflag o n i + 2 ^ i) < 256 := by have := cflag_lt o n (i + 1); have : 2 ^ (i + 1) ≤ 2 ^ 7 := Nat.pow_le_pow_right (by decide) (by omega); omega
          simp only [byteV, List.map_cons, List.set_cons_zero] at this ⊢
          rw [toNat_of _ hfl3]
          exact this
        have hf17 : Fr (fun _ => False) w w17 := by
          rw [h17]
          exact (hf6.trans' (.drew _ d13)).trans hfs fun q hq ⟨y, hy, e⟩ => by have := (ho6.blk hy).1; omega
        rw [wrap_u8 (by omega) (by omega)] at h18
        obtain ⟨w19, l20, hr, ho19, hf19, hs19⟩ := append_one' elByte hos17 (v := .int .u8 ((cpb o n i : Nat) : Int)) rfl (by rw [byteV_length, List.length_cons]; unfold maxLen; omega) (by rw [byteV_length, List.length_cons]; omega) hf17.size h18
        refine ⟨w19, l20, hr, ⟨i + 1, rfl, by omega, ?_, hf17.trans hf19 fun q hq ⟨y, hy, e⟩ => by have := (hos17.blk hy).1; omega⟩, by dsimp only; omega⟩
        rw [byteV_snoc _ _ hcb, List.cons_append] at ho19
        rw [cpbs_snoc, show cpby o n i = [UInt8.ofNat (cpb o n i)] by unfold cpby; rw [if_neg hne]]
        exact ho19
      · have heq : cpb o n i = 0 := by simpa using heq
        have hcd : cpd o n i = 0 := by unfold cpd; rw [if_pos heq]
        rw [cflag, hcd, Nat.mul_zero, Nat.add_zero, cpbs_snoc, show cpby o n i = [] by unfold cpby; rw [if_pos heq], List.append_nil]
        exact ho6
  · have hge := of_decide_eq_false hge
    have : i = 7 := by omega
    subst this
    exact ⟨l, rfl, ho6, hf6⟩
end Go.Proofs.YtaaimcbicpgjoaaGreatDoor

/- Formulas of 1 Go functions of this seat (written by a program of the author's, vcgen.py), and that each is enough for the call. No condition. -/
set_option linter.unusedVariables false
namespace Go.Proofs.YtaaimcbicpgjoaaGreatDoor
open Go Vc Go.Proofs
set_option maxRecDepth 100000
/-- cartularylaw01.Few -/
def vc_cartularylaw01_Few (x0 : ByteArray) (x1 : Int) (w : World) (R : Value → World → Prop) : Prop :=
 (((decide ((↑(ByteArray.size x0) : Int) > x1) = true →
 ((0 ≤ x1 ∧
 x1 ≤ (↑(ByteArray.size x0) : Int)) ∧
 R (Value.string (ByteArray.extract x0 0 (Int.toNat x1))) w))) ∧
 (decide ((↑(ByteArray.size x0) : Int) > x1) = false →
 R (Value.string x0) w))
theorem vc_cartularylaw01_Few_ok {x0 : ByteArray} {x1 : Int} {w : World} {R : Value → World → Prop} {R' : Ending → World → Prop} (h : vc_cartularylaw01_Few x0 x1 w R) (hR : ∀ v w', R v w' → R' (.returned v) w') :
    Calls Tryz.prog 25 #[.string x0, .int .i64 x1] w R' :=
  calls_of_body (vs := [(.string x0, false), (.int .i64 x1, false)]) (ty := ty) (ann := ⟨[], [], [], []⟩) (c := Tryz.f25.body.getD .skip) (by kernel_rfl) Tryz.func25 (by kernel_rfl) (by kernel_rfl) (Eq.mp (by kernel_rfl) h) hR
end Go.Proofs.YtaaimcbicpgjoaaGreatDoor

/- The law's Few of a text. No condition. -/
set_option linter.unusedVariables false
namespace Go.Proofs.YtaaimcbicpgjoaaGreatDoor
open Go Vc Go.Proofs

theorem fewS_spec (s : ByteArray) (n : Nat) (w : World) : Calls Tryz.prog F_cartularylaw01_Few #[.string s, .int .i64 n] w fun e w' => e = .returned (.string (if s.size > n then s.extract 0 n else s)) ∧ w' = w := by
  refine vc_cartularylaw01_Few_ok (R := fun v w' => v = .string (if s.size > n then s.extract 0 n else s) ∧ w' = w) ?_ (fun v w' h => ⟨by rw [h.1], h.2⟩)
  refine ⟨fun h => ?_, fun h => ?_⟩
  · have h := of_decide_eq_true h
    rw [if_pos (by omega)]
    exact ⟨⟨by omega, by omega⟩, by simp, rfl⟩
  · have h := of_decide_eq_false h
    rw [if_neg (by omega)]
    exact ⟨rfl, rfl⟩
theorem fewS_len (s : ByteArray) (n : Nat) : (if s.size > n then s.extract 0 n else s).size ≤ n := by
  split
  · simp; omega
  · omega
end Go.Proofs.YtaaimcbicpgjoaaGreatDoor

/- Numbers as bytes, Adler's sum: in plain. No condition. -/
set_option linter.unusedVariables false
namespace SumM
/-- One byte more. -/
def adl1 (x : Nat × Nat) (c : UInt8) : Nat × Nat := ((x.1 + c.toNat) % 65521, (x.2 + (x.1 + c.toNat) % 65521) % 65521)
def adl (l : List UInt8) : Nat × Nat := l.foldl adl1 (1, 0)
/-- Adler's sum. -/
def adler (l : List UInt8) : Nat := 65536 * (adl l).2 + (adl l).1
theorem adl_snoc (l : List UInt8) (c : UInt8) : adl (l ++ [c]) = adl1 (adl l) c := by
  unfold adl; rw [List.foldl_append]; rfl
theorem adl_lt (l : List UInt8) : (adl l).1 < 65521 ∧ (adl l).2 < 65521 := by
  rcases List.eq_nil_or_concat l with rfl | ⟨r, c, rfl⟩
  · decide
  · rw [List.concat_eq_append, adl_snoc]
    exact ⟨Nat.mod_lt _ (by decide), Nat.mod_lt _ (by decide)⟩
theorem adler_lt (l : List UInt8) : adler l < 4294967296 := by
  have := adl_lt l
  unfold adler; omega
/-- The highest first, of n bytes. -/
def bigB (n x : Nat) : List UInt8 := (List.range n).map fun i => UInt8.ofNat (x / 256 ^ (n - 1 - i))
/-- The lowest first. -/
def littleB (n x : Nat) : List UInt8 := (List.range n).map fun i => UInt8.ofNat (x / 256 ^ i)
theorem bigB_length (n x : Nat) : (bigB n x).length = n := by simp [bigB]
theorem littleB_length (n x : Nat) : (littleB n x).length = n := by simp [littleB]
theorem littleB_succ (n x : Nat) : littleB (n + 1) x = littleB n x ++ [UInt8.ofNat (x / 256 ^ n)] := by
  unfold littleB; rw [List.range_succ, List.map_append]; rfl
theorem big_little (n x : Nat) : (littleB n x).reverse = bigB n x := by
  refine List.ext_getElem (by simp [bigB, littleB]) fun k h1 h2 => ?_
  rw [bigB_length] at h2
  simp only [List.getElem_reverse, littleB, bigB, List.getElem_map, List.getElem_range, List.length_map, List.length_range]
/-- The number of bytes, the highest first. -/
def num8 (l : List UInt8) : Nat := l.foldl (fun x c => 256 * x + c.toNat) 0
theorem num8_snoc (l : List UInt8) (c : UInt8) : num8 (l ++ [c]) = 256 * num8 l + c.toNat := by
  unfold num8; rw [List.foldl_append]; rfl
theorem num8_lt : ∀ (n : Nat) (l : List UInt8), l.length = n → num8 l < 256 ^ n
  | 0, l, h => by
    have : l = [] := List.length_eq_zero_iff.1 h
    subst this; decide
  | n + 1, l, h => by
    rcases List.eq_nil_or_concat l with rfl | ⟨r, c, rfl⟩
    · cases h
    · rw [List.concat_eq_append] at h ⊢
      rw [List.length_append, List.length_singleton] at h
      have h1 := num8_lt n r (by omega)
      have h2 := c.toNat_lt
      rw [num8_snoc, Nat.pow_succ]
      omega
theorem ofNat_eq {x y : Nat} (h : x % 256 = y % 256) : UInt8.ofNat x = UInt8.ofNat y := by
  rw [← UInt8.toNat_inj]; simpa using h
theorem bigB_succ (n x : Nat) : bigB (n + 1) x = bigB n (x / 256) ++ [UInt8.ofNat x] := by
  unfold bigB
  rw [List.range_succ, List.map_append]
  congr 1
  · refine List.map_congr_left fun i hi => ?_
    have hi := List.mem_range.1 hi
    rw [Nat.div_div_eq_div_mul, show n + 1 - 1 - i = (n - 1 - i) + 1 by omega, Nat.pow_succ, Nat.mul_comm]
  · simp
/-- A number of so many bytes says these bytes. -/
theorem bigB_num8 : ∀ (n : Nat) (l : List UInt8), l.length = n → bigB n (num8 l) = l
  | 0, l, h => by
    have : l = [] := List.length_eq_zero_iff.1 h
    subst this; rfl
  | n + 1, l, h => by
    rcases List.eq_nil_or_concat l with rfl | ⟨r, c, rfl⟩
    · cases h
    · rw [List.concat_eq_append] at h ⊢
      rw [List.length_append, List.length_singleton] at h
      have h2 := c.toNat_lt
      rw [num8_snoc, bigB_succ, show (256 * num8 r + c.toNat) / 256 = num8 r by omega, bigB_num8 n r (by omega)]
      congr 2
      rw [← UInt8.toNat_inj]
      simp
theorem num8_bigB : ∀ (n x : Nat), x < 256 ^ n → num8 (bigB n x) = x
  | 0, x, h => by have : x = 0 := by simpa using h
                  subst this; rfl
  | n + 1, x, h => by
    rw [Nat.pow_succ] at h
    rw [bigB_succ, num8_snoc, num8_bigB n (x / 256) (by omega)]
    simp; omega
end SumM
namespace Go.Proofs.YtaaimcbicpgjoaaGreatDoor
open Go Vc SumM Go.Proofs

theorem take_byt (s : ByteArray) {n : Nat} (h : n < s.size) : s.data.toList.take (n + 1) = s.data.toList.take n ++ [UInt8.ofNat (byt s n)] := by
  have hlt : n < s.data.toList.length := by simp only [Array.length_toList]; exact h
  have hb : byt s n = (s.data.toList[n]).toNat := by unfold byt; rw [List.getElem?_eq_getElem hlt]; rfl
  rw [List.take_succ_eq_append_getElem hlt, hb, UInt8.ofNat_toNat]
theorem take_size (s : ByteArray) : s.data.toList.take s.size = s.data.toList := List.take_of_length_le (by simp)
theorem toNat_byt (s : ByteArray) (n : Nat) : (UInt8.ofNat (byt s n)).toNat = byt s n := by
  have := byt_lt s n
  simp; omega
theorem byteV_wrap (l : List UInt8) (z : Int) (hz : 0 ≤ z) : byteV l ++ [.int .u8 (IntKind.u8.wrap z)] = byteV (l ++ [UInt8.ofNat z.toNat]) := by
  obtain ⟨x, rfl⟩ := Int.eq_ofNat_of_zero_le hz
  rw [wrap_u8_mod, show ((x : Int) % 256) = ((x % 256 : Nat) : Int) by omega, byteV_snoc l (x % 256) (Nat.mod_lt _ (by decide)), Int.toNat_natCast, ofNat_eq (Nat.mod_mod _ _)]
theorem shift_byte (x k : Nat) : Int.fdiv (x : Int) (2 ^ min (((8 * k : Nat) : Int)).toNat 64) = (if k ≤ 8 then ((x / 256 ^ k : Nat) : Int) else ((x / 2 ^ 64 : Nat) : Int)) := by
  have hc : ∀ j : Nat, (2 : Int) ^ j = ((2 ^ j : Nat) : Int) := fun j => by push_cast; rfl
  split
  · rw [show min (((8 * k : Nat) : Int)).toNat 64 = 8 * k by omega, hc, Int.fdiv_eq_ediv_of_nonneg _ (Int.natCast_nonneg _), ← Int.natCast_ediv, Nat.pow_mul]
  · rw [show min (((8 * k : Nat) : Int)).toNat 64 = 64 by omega, hc, Int.fdiv_eq_ediv_of_nonneg _ (Int.natCast_nonneg _), ← Int.natCast_ediv]
theorem bigB_get {n x i : Nat} (h : i < n) : (bigB n x).take (i + 1) = (bigB n x).take i ++ [UInt8.ofNat (x / 256 ^ (n - 1 - i))] := by
  rw [List.take_succ_eq_append_getElem (by rw [bigB_length]; exact h)]
  simp [bigB]
theorem pow_big {x k : Nat} (hx : x < 18446744073709551616) (h : 8 ≤ k) : x / 256 ^ k = 0 := by
  refine Nat.div_eq_of_lt ?_
  have : 256 ^ 8 ≤ 256 ^ k := Nat.pow_le_pow_right (by decide) h
  omega
theorem littleB_get {n x i : Nat} (h : i < n) : (littleB n x).take (i + 1) = (littleB n x).take i ++ [UInt8.ofNat (x / 256 ^ i)] := by
  rw [List.take_succ_eq_append_getElem (by rw [littleB_length]; exact h)]
  simp [littleB]
end Go.Proofs.YtaaimcbicpgjoaaGreatDoor

/- Formulas of 3 Go functions of this seat (written by a program of the author's, vcgen.py), and that each is enough for the call. No condition. -/
set_option linter.unusedVariables false
namespace Go.Proofs.YtaaimcbicpgjoaaGreatDoor
open Go Vc Go.Proofs
set_option maxRecDepth 100000
/-- pack.headOf -/
def vc_pack_headOf (x0 : Int) (x1 : Int) (w : World) (R : Value → World → Prop) : Prop :=
 ((0 : Int) ≤ (4 : Int) ∧
 ∀ w1 : World,
 (w1 = World.alloc w (Obj.cells (Array.mk [Value.int IntKind.u8 (IntKind.wrap IntKind.u8 (IntKind.wrap IntKind.i64 (↑(BitVec.toNat (BitVec.ofInt 64 (IntKind.wrap IntKind.i64 (x0 * 2 ^ min (Int.toNat 4) 64)) ||| BitVec.ofInt 64 (IntKind.wrap IntKind.i64 (↑(BitVec.toNat (BitVec.ofInt 64 x1 &&& BitVec.ofInt 64 15)) : Int)))) : Int)))]) 5) →
 ((0 : Int) ≤ (4 : Int) ∧
 ∃ I2 : Int → Sl → World → Prop, ∃ I3 : Int → Sl → World → Nat, (I2 (Int.fdiv x1 (2 ^ min (Int.toNat 4) 64)) (Sl.mk (some (Addr.mk (Array.size (World.heap w)) 0 none)) 1 1) w1 ∧
 ∀ n4 : Int,
 ∀ l5 : Sl,
 ∀ w6 : World,
 (I2 n4 l5 w6 →
 (((decide (n4 > 0) = true →
 ((0 ≤ IntKind.wrap IntKind.i64 ((↑l5.2 : Int) - 1) ∧
 IntKind.wrap IntKind.i64 ((↑l5.2 : Int) - 1) < (↑l5.2 : Int)) ∧
 ∃ a7 : Addr, (l5.1 = some a7 ∧
 ∃ n8 : Int, (World.cell? w6 (Addr.add a7 (Int.toNat (IntKind.wrap IntKind.i64 ((↑l5.2 : Int) - 1)) * 1)) = some (Value.int IntKind.u8 n8) ∧
 ((0 ≤ IntKind.wrap IntKind.i64 ((↑l5.2 : Int) - 1) ∧
 IntKind.wrap IntKind.i64 ((↑l5.2 : Int) - 1) < (↑l5.2 : Int)) ∧
 ∃ a9 : Addr, (l5.1 = some a9 ∧
 (Wr w6 (Addr.add a9 (Int.toNat (IntKind.wrap IntKind.i64 ((↑l5.2 : Int) - 1)) * 1)) ∧
 ∀ w10 : World,
 (w10 = World.setCell w6 (Addr.add a9 (Int.toNat (IntKind.wrap IntKind.i64 ((↑l5.2 : Int) - 1)) * 1)) (Value.int IntKind.u8 (IntKind.wrap IntKind.u8 (↑(BitVec.toNat (BitVec.ofInt 8 n8 ||| BitVec.ofInt 8 128)) : Int))) →
 ∀ w11 : World,
 (w11 = World.alloc w10 (Obj.cells (Array.mk [Value.int IntKind.u8 (IntKind.wrap IntKind.u8 (IntKind.wrap IntKind.i64 (↑(BitVec.toNat (BitVec.ofInt 64 n4 &&& BitVec.ofInt 64 127)) : Int)))]) 5) →
 ∃ w12 : World, ∃ l13 : Sl, (Sem.run Tryz.prog (Builtin.append_ (Array.mk [60, 60]) 60 (Array.mk [Value.slice l5.1 l5.2 l5.3, Value.slice (some (Addr.mk (Array.size (World.heap w10)) 0 none)) 1 1])) w11 = Result.ok (Value.slice l13.1 l13.2 l13.3) w12 ∧
 ((0 : Int) ≤ (7 : Int) ∧
 (I2 (Int.fdiv n4 (2 ^ min (Int.toNat 7) 64)) (Sl.mk l13.1 l13.2 l13.3) w12 ∧
 I3 (Int.fdiv n4 (2 ^ min (Int.toNat 7) 64)) (Sl.mk l13.1 l13.2 l13.3) w12 < I3 n4 l5 w6))))))))))))) ∧
 (decide (n4 > 0) = false →
 R (Value.slice l5.1 l5.2 l5.3) w6)))))))
theorem vc_pack_headOf_ok {x0 : Int} {x1 : Int} {w : World} {R : Value → World → Prop} {R' : Ending → World → Prop} (h : vc_pack_headOf x0 x1 w R) (hR : ∀ v w', R v w' → R' (.returned v) w') :
    Calls Tryz.prog 19 #[.int .i64 x0, .int .i64 x1] w R' :=
  calls_of_body (vs := [(.int .i64 x0, false), (.int .i64 x1, false)]) (ty := ty) (ann := ⟨[], [(3, [(1, .int .i64), (5, .slice)])], [], []⟩) (c := Tryz.f19.body.getD .skip) (by kernel_rfl) Tryz.func19 (by kernel_rfl) (by kernel_rfl) (Eq.mp (by kernel_rfl) h) hR
/-- pack.backOf -/
def vc_pack_backOf (x0 : Int) (w : World) (R : Value → World → Prop) : Prop :=
 ∀ w1 : World,
 (w1 = World.alloc w (Obj.cells (Array.mk [Value.int IntKind.u8 (IntKind.wrap IntKind.u8 (IntKind.wrap IntKind.i64 (↑(BitVec.toNat (BitVec.ofInt 64 x0 &&& BitVec.ofInt 64 127)) : Int)))]) 5) →
 ((0 : Int) ≤ (7 : Int) ∧
 ∃ I2 : Int → Sl → World → Prop, ∃ I3 : Int → Sl → World → Nat, (I2 (Int.fdiv x0 (2 ^ min (Int.toNat 7) 64)) (Sl.mk (some (Addr.mk (Array.size (World.heap w)) 0 none)) 1 1) w1 ∧
 ∀ n4 : Int,
 ∀ l5 : Sl,
 ∀ w6 : World,
 (I2 n4 l5 w6 →
 (((decide (n4 > 0) = true →
 ∀ w7 : World,
 (w7 = World.alloc w6 (Obj.cells (Array.mk [Value.int IntKind.u8 (IntKind.wrap IntKind.u8 (↑(BitVec.toNat (BitVec.ofInt 8 (IntKind.wrap IntKind.u8 (IntKind.wrap IntKind.i64 (↑(BitVec.toNat (BitVec.ofInt 64 (IntKind.wrap IntKind.i64 (n4 - 1)) &&& BitVec.ofInt 64 127)) : Int))) ||| BitVec.ofInt 8 128)) : Int))]) 5) →
 ∃ w8 : World, ∃ l9 : Sl, (Sem.run Tryz.prog (Builtin.append_ (Array.mk [60, 60]) 60 (Array.mk [Value.slice (some (Addr.mk (Array.size (World.heap w6)) 0 none)) 1 1, Value.slice l5.1 l5.2 l5.3])) w7 = Result.ok (Value.slice l9.1 l9.2 l9.3) w8 ∧
 ((0 : Int) ≤ (7 : Int) ∧
 (I2 (Int.fdiv (IntKind.wrap IntKind.i64 (n4 - 1)) (2 ^ min (Int.toNat 7) 64)) (Sl.mk l9.1 l9.2 l9.3) w8 ∧
 I3 (Int.fdiv (IntKind.wrap IntKind.i64 (n4 - 1)) (2 ^ min (Int.toNat 7) 64)) (Sl.mk l9.1 l9.2 l9.3) w8 < I3 n4 l5 w6)))))) ∧
 (decide (n4 > 0) = false →
 R (Value.slice l5.1 l5.2 l5.3) w6))))))
theorem vc_pack_backOf_ok {x0 : Int} {w : World} {R : Value → World → Prop} {R' : Ending → World → Prop} (h : vc_pack_backOf x0 w R) (hR : ∀ v w', R v w' → R' (.returned v) w') :
    Calls Tryz.prog 23 #[.int .i64 x0] w R' :=
  calls_of_body (vs := [(.int .i64 x0, false)]) (ty := ty) (ann := ⟨[], [(3, [(0, .int .i64), (3, .slice)])], [], []⟩) (c := Tryz.f23.body.getD .skip) (by kernel_rfl) Tryz.func23 (by kernel_rfl) (by kernel_rfl) (Eq.mp (by kernel_rfl) h) hR
/-- pack.Build -/
def vc_pack_Build (x0a : Option Addr) (x0n : Nat) (x0c : Nat) (w : World) (R : Value → World → Prop) : Prop :=
 (((decide ((↑x0n : Int) > 1000) = true →
 R (Value.tuple (Array.mk [Value.string (ByteArray.mk (Array.mk [])), Value.int IntKind.i64 2])) w)) ∧
 (decide ((↑x0n : Int) > 1000) = false →
 Calls Tryz.prog (17 : Nat) (Array.mk [Value.int IntKind.u64 (2 : Int), Value.int IntKind.i64 (4 : Int)]) (w) (fun e1 w2 =>
 ∃ s3 : ByteArray, (e1 = Ending.returned (Value.string s3) ∧
 (ByteArray.size (ByteArray.mk (Array.mk [80, 65, 67, 75])) + ByteArray.size s3 ≤ 9223372036854775807 ∧
 Calls Tryz.prog (17 : Nat) (Array.mk [Value.int IntKind.u64 (IntKind.wrap IntKind.u64 (↑x0n : Int)), Value.int IntKind.i64 4]) (w2) (fun e4 w5 =>
 ∃ s6 : ByteArray, (e4 = Ending.returned (Value.string s6) ∧
 (ByteArray.size (ByteArray.mk (Array.mk [80, 65, 67, 75]) ++ s3) + ByteArray.size s6 ≤ 9223372036854775807 ∧
 ∃ I7 : ByteArray → Sl → Int → World → Prop, ∃ I8 : ByteArray → Sl → Int → World → Nat, (I7 (ByteArray.mk (Array.mk [80, 65, 67, 75]) ++ s3 ++ s6) (Sl.mk none 0 0) 0 w5 ∧
 ∀ s9 : ByteArray,
 ∀ l10 : Sl,
 ∀ n11 : Int,
 ∀ w12 : World,
 (I7 s9 l10 n11 w12 →
 (((decide (n11 < (↑x0n : Int)) = true →
 ((0 ≤ n11 ∧
 n11 < (↑x0n : Int)) ∧
 ∃ a13 : Addr, (x0a = some a13 ∧
 ∃ n14 : Int, ∃ s15 : ByteArray, ∃ b16 : Bool, ∃ n17 : Int, ∃ b18 : Bool, (Sem.run Tryz.prog (loadVar 38 (Addr.add a13 (Int.toNat n11 * 5))) w12 = Result.ok (Value.agg (Array.mk [Value.int IntKind.i64 n14, Value.string s15, Value.bool b16, Value.int IntKind.i64 n17, Value.bool b18])) w12 ∧
 ∀ w19 : World,
 (w19 = World.alloc w12 (Obj.cells (Array.mk [Value.int IntKind.i64 0, Value.string (ByteArray.mk (Array.mk [])), Value.bool false, Value.int IntKind.i64 0, Value.bool false]) 38) →
 ∃ w20 : World, (Sem.run Tryz.prog (storeVar 38 (Addr.mk (Array.size (World.heap w12)) 0 none) (Value.agg (Array.mk [Value.int IntKind.i64 n14, Value.string s15, Value.bool b16, Value.int IntKind.i64 n17, Value.bool b18]))) w19 = Result.ok PUnit.unit w20 ∧
 ∃ n21 : Int, ∃ s22 : ByteArray, (Sem.run Tryz.prog (loadVar 36 (Addr.mk (Array.size (World.heap w12)) 0 none)) w20 = Result.ok (Value.agg (Array.mk [Value.int IntKind.i64 n21, Value.string s22])) w20 ∧
 Calls Tryz.prog (18 : Nat) (Array.mk [Value.agg (Array.mk [Value.int IntKind.i64 n21, Value.string s22])]) (w20) (fun e23 w24 =>
 ∃ n25 : Int, (e23 = Ending.returned (Value.int IntKind.i64 n25) ∧
 ((((n25 != 0) = true →
 R (Value.tuple (Array.mk [Value.string (ByteArray.mk (Array.mk [])), Value.int IntKind.i64 n25])) w24)) ∧
 ((n25 != 0) = false →
 ∃ I26 : World → Prop, ((∃ b27 : Bool, (World.cell? w24 (Addr.mk (Array.size (World.heap w12)) 2 none) = some (Value.bool b27) ∧
 (((b27 = true →
 ∃ n28 : Int, (World.cell? w24 (Addr.mk (Array.size (World.heap w12)) 3 none) = some (Value.int IntKind.i64 n28) ∧
 (((decide (n28 < 0) = true →
 R (Value.tuple (Array.mk [Value.string (ByteArray.mk (Array.mk [])), Value.int IntKind.i64 1])) w24)) ∧
 (decide (n28 < 0) = false →
 ∃ n29 : Int, (World.cell? w24 (Addr.mk (Array.size (World.heap w12)) 3 none) = some (Value.int IntKind.i64 n29) ∧
 (((decide (n29 ≥ n11) = true →
 R (Value.tuple (Array.mk [Value.string (ByteArray.mk (Array.mk [])), Value.int IntKind.i64 1])) w24)) ∧
 (decide (n29 ≥ n11) = false →
 I26 w24)))))))) ∧
 (b27 = false →
 I26 w24)))) ∧
 ∀ w30 : World,
 (I26 w30 →
 ∃ I31 : World → Prop, ((∃ b32 : Bool, (World.cell? w30 (Addr.mk (Array.size (World.heap w12)) 2 none) = some (Value.bool b32) ∧
 (((b32 = true →
 ∃ n33 : Int, (World.cell? w30 (Addr.mk (Array.size (World.heap w12)) 3 none) = some (Value.int IntKind.i64 n33) ∧
 ((0 ≤ n33 ∧
 n33 < (↑x0n : Int)) ∧
 ∃ a34 : Addr, (x0a = some a34 ∧
 ∃ n35 : Int, (World.cell? w30 (Addr.add a34 (Int.toNat n33 * 5)) = some (Value.int IntKind.i64 n35) ∧
 ∃ n36 : Int, (World.cell? w30 (Addr.mk (Array.size (World.heap w12)) 0 none) = some (Value.int IntKind.i64 n36) ∧
 ∀ w37 : World,
 (Drew w30 w37 →
 ((((n35 != n36) = true →
 R (Value.tuple (Array.mk [Value.string (ByteArray.mk (Array.mk [])), Value.int IntKind.i64 10])) w37)) ∧
 ((n35 != n36) = false →
 I31 w37)))))))))) ∧
 (b32 = false →
 ∀ w38 : World,
 (Drew w30 w38 →
 I31 w38))))) ∧
 ∀ w39 : World,
 (I31 w39 →
 ∀ w40 : World,
 (w40 = World.alloc w39 (Obj.cells (Array.mk [Value.int IntKind.i64 (↑(ByteArray.size s9) : Int)]) 3) →
 ∃ w41 : World, ∃ l42 : Sl, (Sem.run Tryz.prog (Builtin.append_ (Array.mk [58, 58]) 58 (Array.mk [Value.slice l10.1 l10.2 l10.3, Value.slice (some (Addr.mk (Array.size (World.heap w39)) 0 none)) 1 1])) w40 = Result.ok (Value.slice l42.1 l42.2 l42.3) w41 ∧
 ∃ b43 : Bool, (World.cell? w41 (Addr.mk (Array.size (World.heap w12)) 2 none) = some (Value.bool b43) ∧
 ((((!b43) = true →
 ∀ w44 : World,
 (Drew w41 w44 →
 ∃ I45 : World → Prop, (I45 w44 ∧
 ∃ n46 : Int, ((∀ w47 : World,
 (I45 w47 →
 World.cell? w47 (Addr.mk (Array.size (World.heap w12)) 0 none) = some (Value.int IntKind.i64 n46))) ∧
 ∃ s48 : ByteArray, ((∀ w49 : World,
 (I45 w49 →
 World.cell? w49 (Addr.mk (Array.size (World.heap w12)) 1 none) = some (Value.string s48))) ∧
 ∃ s50 : ByteArray, ((∀ w51 : World,
 (I45 w51 →
 World.cell? w51 (Addr.mk (Array.size (World.heap w12)) 1 none) = some (Value.string s50))) ∧
 Calls Tryz.prog (19 : Nat) (Array.mk [Value.int IntKind.i64 n46, Value.int IntKind.i64 (↑(ByteArray.size s48) : Int)]) (w44) (fun e52 w53 =>
 ∃ l54 : Sl, (e52 = Ending.returned (Value.slice l54.1 l54.2 l54.3) ∧
 ∃ I55 : World → Prop, ((∀ w56 : World,
 (I55 w56 →
 I45 w56)) ∧
 (I55 w53 ∧
 ∃ s57 : ByteArray, ((∀ w58 : World,
 (I55 w58 →
 Sem.run Tryz.prog (convert 60 9 (Value.slice l54.1 l54.2 l54.3)) w58 = Result.ok (Value.string s57) w58)) ∧
 Calls Tryz.prog (20 : Nat) (Array.mk [Value.string s50]) (w53) (fun e59 w60 =>
 ∃ s61 : ByteArray, (e59 = Ending.returned (Value.string s61) ∧
 ∃ I62 : World → Prop, ((∀ w63 : World,
 (I62 w63 →
 I55 w63)) ∧
 (I62 w60 ∧
 (ByteArray.size s57 + ByteArray.size s61 ≤ 9223372036854775807 ∧
 (ByteArray.size s9 + ByteArray.size (s57 ++ s61) ≤ 9223372036854775807 ∧
 (I7 (s9 ++ (s57 ++ s61)) (Sl.mk l42.1 l42.2 l42.3) (IntKind.wrap IntKind.i64 (n11 + 1)) w60 ∧
 I8 (s9 ++ (s57 ++ s61)) (Sl.mk l42.1 l42.2 l42.3) (IntKind.wrap IntKind.i64 (n11 + 1)) w60 < I8 s9 l10 n11 w12))))))))))))))))))) ∧
 ((!b43) = false →
 ∃ n64 : Int, (World.cell? w41 (Addr.mk (Array.size (World.heap w12)) 3 none) = some (Value.int IntKind.i64 n64) ∧
 ((0 ≤ n64 ∧
 n64 < (↑x0n : Int)) ∧
 ∃ a65 : Addr, (x0a = some a65 ∧
 ∃ n66 : Int, ∃ s67 : ByteArray, (Sem.run Tryz.prog (loadVar 36 (Addr.add a65 (Int.toNat n64 * 5))) w41 = Result.ok (Value.agg (Array.mk [Value.int IntKind.i64 n66, Value.string s67])) w41 ∧
 ∀ w68 : World,
 (w68 = World.alloc w41 (Obj.cells (Array.mk [Value.int IntKind.i64 0, Value.string (ByteArray.mk (Array.mk []))]) 36) →
 ∃ w69 : World, (Sem.run Tryz.prog (storeVar 36 (Addr.mk (Array.size (World.heap w41)) 0 none) (Value.agg (Array.mk [Value.int IntKind.i64 n66, Value.string s67]))) w68 = Result.ok PUnit.unit w69 ∧
 ∃ s70 : ByteArray, (World.cell? w69 (Addr.mk (Array.size (World.heap w41)) 1 none) = some (Value.string s70) ∧
 ∃ s71 : ByteArray, (World.cell? w69 (Addr.mk (Array.size (World.heap w12)) 1 none) = some (Value.string s71) ∧
 Calls Tryz.prog (21 : Nat) (Array.mk [Value.string s70, Value.string s71]) (w69) (fun e72 w73 =>
 ∃ s74 : ByteArray, (e72 = Ending.returned (Value.string s74) ∧
 (((decide ((↑(ByteArray.size s74) : Int) > 65000) = true →
 R (Value.tuple (Array.mk [Value.string (ByteArray.mk (Array.mk [])), Value.int IntKind.i64 2])) w73)) ∧
 (decide ((↑(ByteArray.size s74) : Int) > 65000) = false →
 ∃ b75 : Bool, (World.cell? w73 (Addr.mk (Array.size (World.heap w12)) 4 none) = some (Value.bool b75) ∧
 (((b75 = true →
 ∃ n76 : Int, ∃ s77 : ByteArray, (Sem.run Tryz.prog (loadVar 36 (Addr.mk (Array.size (World.heap w41)) 0 none)) w73 = Result.ok (Value.agg (Array.mk [Value.int IntKind.i64 n76, Value.string s77])) w73 ∧
 Calls Tryz.prog (7 : Nat) (Array.mk [Value.agg (Array.mk [Value.int IntKind.i64 n76, Value.string s77])]) (w73) (fun e78 w79 =>
 ∃ s80 : ByteArray, ∃ n81 : Int, (e78 = Ending.returned (Value.tuple (Array.mk [Value.string s80, Value.int IntKind.i64 n81])) ∧
 Calls Tryz.prog (22 : Nat) (Array.mk [Value.string s80]) (w79) (fun e82 w83 =>
 ∃ s84 : ByteArray, ∃ b85 : Bool, (e82 = Ending.returned (Value.tuple (Array.mk [Value.string s84, Value.bool b85])) ∧
 ∀ w86 : World,
 (Drew w83 w86 →
 ∃ I87 : World → Prop, (I87 w86 ∧
 Calls Tryz.prog (19 : Nat) (Array.mk [Value.int IntKind.i64 7, Value.int IntKind.i64 (↑(ByteArray.size s74) : Int)]) (w86) (fun e88 w89 =>
 ∃ l90 : Sl, (e88 = Ending.returned (Value.slice l90.1 l90.2 l90.3) ∧
 ∃ I91 : World → Prop, ((∀ w92 : World,
 (I91 w92 →
 I87 w92)) ∧
 (I91 w89 ∧
 ∃ s93 : ByteArray, ((∀ w94 : World,
 (I91 w94 →
 Sem.run Tryz.prog (convert 60 9 (Value.slice l90.1 l90.2 l90.3)) w94 = Result.ok (Value.string s93) w94)) ∧
 (ByteArray.size s93 + ByteArray.size s84 ≤ 9223372036854775807 ∧
 Calls Tryz.prog (20 : Nat) (Array.mk [Value.string s74]) (w89) (fun e95 w96 =>
 ∃ s97 : ByteArray, (e95 = Ending.returned (Value.string s97) ∧
 ∃ I98 : World → Prop, ((∀ w99 : World,
 (I98 w99 →
 I91 w99)) ∧
 (I98 w96 ∧
 (ByteArray.size (s93 ++ s84) + ByteArray.size s97 ≤ 9223372036854775807 ∧
 (ByteArray.size s9 + ByteArray.size (s93 ++ s84 ++ s97) ≤ 9223372036854775807 ∧
 (I7 (s9 ++ (s93 ++ s84 ++ s97)) (Sl.mk l42.1 l42.2 l42.3) (IntKind.wrap IntKind.i64 (n11 + 1)) w96 ∧
 I8 (s9 ++ (s93 ++ s84 ++ s97)) (Sl.mk l42.1 l42.2 l42.3) (IntKind.wrap IntKind.i64 (n11 + 1)) w96 < I8 s9 l10 n11 w12)))))))))))))))))))))) ∧
 (b75 = false →
 ∀ w100 : World,
 (Drew w73 w100 →
 ∃ I101 : World → Prop, (I101 w100 ∧
 ∃ n102 : Int, ((∀ w103 : World,
 (I101 w103 →
 World.cell? w103 (Addr.mk (Array.size (World.heap w12)) 3 none) = some (Value.int IntKind.i64 n102))) ∧
 ((0 ≤ n102 ∧
 n102 < (↑l42.2 : Int)) ∧
 ∃ a104 : Addr, (l42.1 = some a104 ∧
 ∃ n105 : Int, ((∀ w106 : World,
 (I101 w106 →
 World.cell? w106 (Addr.add a104 (Int.toNat n102 * 1)) = some (Value.int IntKind.i64 n105))) ∧
 Calls Tryz.prog (19 : Nat) (Array.mk [Value.int IntKind.i64 6, Value.int IntKind.i64 (↑(ByteArray.size s74) : Int)]) (w100) (fun e107 w108 =>
 ∃ l109 : Sl, (e107 = Ending.returned (Value.slice l109.1 l109.2 l109.3) ∧
 ∃ I110 : World → Prop, ((∀ w111 : World,
 (I110 w111 →
 I101 w111)) ∧
 (I110 w108 ∧
 ∃ s112 : ByteArray, ((∀ w113 : World,
 (I110 w113 →
 Sem.run Tryz.prog (convert 60 9 (Value.slice l109.1 l109.2 l109.3)) w113 = Result.ok (Value.string s112) w113)) ∧
 Calls Tryz.prog (23 : Nat) (Array.mk [Value.int IntKind.i64 (IntKind.wrap IntKind.i64 ((↑(ByteArray.size s9) : Int) - n105))]) (w108) (fun e114 w115 =>
 ∃ l116 : Sl, (e114 = Ending.returned (Value.slice l116.1 l116.2 l116.3) ∧
 ∃ I117 : World → Prop, ((∀ w118 : World,
 (I117 w118 →
 I110 w118)) ∧
 (I117 w115 ∧
 ∃ s119 : ByteArray, ((∀ w120 : World,
 (I117 w120 →
 Sem.run Tryz.prog (convert 60 9 (Value.slice l116.1 l116.2 l116.3)) w120 = Result.ok (Value.string s119) w120)) ∧
 (ByteArray.size s112 + ByteArray.size s119 ≤ 9223372036854775807 ∧
 Calls Tryz.prog (20 : Nat) (Array.mk [Value.string s74]) (w115) (fun e121 w122 =>
 ∃ s123 : ByteArray, (e121 = Ending.returned (Value.string s123) ∧
 ∃ I124 : World → Prop, ((∀ w125 : World,
 (I124 w125 →
 I117 w125)) ∧
 (I124 w122 ∧
 (ByteArray.size (s112 ++ s119) + ByteArray.size s123 ≤ 9223372036854775807 ∧
 (ByteArray.size s9 + ByteArray.size (s112 ++ s119 ++ s123) ≤ 9223372036854775807 ∧
 (I7 (s9 ++ (s112 ++ s119 ++ s123)) (Sl.mk l42.1 l42.2 l42.3) (IntKind.wrap IntKind.i64 (n11 + 1)) w122 ∧
 I8 (s9 ++ (s112 ++ s119 ++ s123)) (Sl.mk l42.1 l42.2 l42.3) (IntKind.wrap IntKind.i64 (n11 + 1)) w122 < I8 s9 l10 n11 w12)))))))))))))))))))))))))))))))))))))))))))))))))))))))))))) ∧
 (decide (n11 < (↑x0n : Int)) = false →
 Calls Tryz.prog (24 : Nat) (Array.mk [Value.string s9]) (w12) (fun e126 w127 =>
 ∃ s128 : ByteArray, (e126 = Ending.returned (Value.string s128) ∧
 (ByteArray.size s9 + ByteArray.size s128 ≤ 9223372036854775807 ∧
 R (Value.tuple (Array.mk [Value.string (s9 ++ s128), Value.int IntKind.i64 0])) w127)))))))))))))))
theorem vc_pack_Build_ok {x0a : Option Addr} {x0n : Nat} {x0c : Nat} {w : World} {R : Value → World → Prop} {R' : Ending → World → Prop} (h : vc_pack_Build x0a x0n x0c w R) (hR : ∀ v w', R v w' → R' (.returned v) w') :
    Calls Tryz.prog 4 #[.slice x0a x0n x0c] w R' :=
  calls_of_body (vs := [(.slice x0a x0n x0c, false)]) (ty := ty) (ann := ⟨[(13, []), (15, [])], [(6, [(4, .str), (5, .slice), (27, .int .i64)])], [(13, .quiet), (17, .heldS [(0, true), (1, true), (2, true), (3, true), (4, true), (5, true), (6, true), (7, true), (10, true), (11, true), (12, true), (8, false), (9, true), (13, false), (14, true), (15, true), (16, true)]), (25, .heldS [(0, true), (1, true), (2, true), (5, true), (7, true), (3, false), (4, true), (6, true), (8, false), (9, true), (10, true), (11, true)]), (26, .heldS [(0, true), (1, true), (2, true), (5, true), (6, true), (7, true), (8, true), (9, true), (10, true), (11, true), (12, true), (16, true), (3, false), (4, true), (13, false), (14, true), (15, true), (17, false), (18, true), (19, true), (20, true)])], []⟩) (c := Tryz.f4.body.getD .skip) (by kernel_rfl) Tryz.func4 (by kernel_rfl) (by kernel_rfl) (Eq.mp (by kernel_rfl) h) hR
end Go.Proofs.YtaaimcbicpgjoaaGreatDoor

/- Formulas of 1 Go functions of this seat (written by a program of the author's, vcgen.py), and that each is enough for the call. No condition. -/
set_option linter.unusedVariables false
namespace Go.Proofs.YtaaimcbicpgjoaaGreatDoor
open Go Vc Go.Proofs
set_option maxRecDepth 100000
/-- cartularylaw11.Short -/
def vc_cartularylaw11_Short (x0a : Option Addr) (x0n : Nat) (x0c : Nat) (x1 : Int) (w : World) (R : Value → World → Prop) : Prop :=
 ∀ w1 : World,
 (w1 = World.alloc w (Obj.cells (Array.mk []) 38) →
 ∃ I2 : Sl → Int → World → Prop, ∃ I3 : Sl → Int → World → Nat, (I2 (Sl.mk (some (Addr.mk (Array.size (World.heap w)) 0 none)) 0 0) 0 w1 ∧
 ∀ l4 : Sl,
 ∀ n5 : Int,
 ∀ w6 : World,
 (I2 l4 n5 w6 →
 (((decide (n5 < (↑x0n : Int)) = true →
 (((decide (n5 < x1) = true →
 ((0 ≤ n5 ∧
 n5 < (↑x0n : Int)) ∧
 ∃ a7 : Addr, (x0a = some a7 ∧
 ∃ n8 : Int, ∃ s9 : ByteArray, ∃ b10 : Bool, ∃ n11 : Int, ∃ b12 : Bool, (Sem.run Tryz.prog (loadVar 38 (Addr.add a7 (Int.toNat n5 * 5))) w6 = Result.ok (Value.agg (Array.mk [Value.int IntKind.i64 n8, Value.string s9, Value.bool b10, Value.int IntKind.i64 n11, Value.bool b12])) w6 ∧
 ∀ w13 : World,
 (w13 = World.alloc w6 (Obj.cells (Array.mk [Value.int IntKind.i64 0, Value.string (ByteArray.mk (Array.mk [])), Value.bool false, Value.int IntKind.i64 0, Value.bool false]) 38) →
 ∃ w14 : World, (Sem.run Tryz.prog (storeVar 38 (Addr.mk (Array.size (World.heap w6)) 0 none) (Value.agg (Array.mk [Value.int IntKind.i64 n8, Value.string s9, Value.bool b10, Value.int IntKind.i64 n11, Value.bool b12]))) w13 = Result.ok PUnit.unit w14 ∧
 ∃ s15 : ByteArray, (World.cell? w14 (Addr.mk (Array.size (World.heap w6)) 1 none) = some (Value.string s15) ∧
 Calls Tryz.prog (25 : Nat) (Array.mk [Value.string s15, Value.int IntKind.i64 400]) (w14) (fun e16 w17 =>
 ∃ s18 : ByteArray, (e16 = Ending.returned (Value.string s18) ∧
 (Wr w17 (Addr.mk (Array.size (World.heap w6)) 1 none) ∧
 ∀ w19 : World,
 (w19 = World.setCell w17 (Addr.mk (Array.size (World.heap w6)) 1 none) (Value.string s18) →
 ∃ n20 : Int, ∃ s21 : ByteArray, ∃ b22 : Bool, ∃ n23 : Int, ∃ b24 : Bool, (Sem.run Tryz.prog (loadVar 38 (Addr.mk (Array.size (World.heap w6)) 0 none)) w19 = Result.ok (Value.agg (Array.mk [Value.int IntKind.i64 n20, Value.string s21, Value.bool b22, Value.int IntKind.i64 n23, Value.bool b24])) w19 ∧
 ∀ w25 : World,
 (w25 = World.alloc w19 (Obj.cells (Array.mk [Value.int IntKind.i64 n20, Value.string s21, Value.bool b22, Value.int IntKind.i64 n23, Value.bool b24]) 38) →
 ∃ w26 : World, ∃ l27 : Sl, (Sem.run Tryz.prog (Builtin.append_ (Array.mk [22, 22]) 22 (Array.mk [Value.slice l4.1 l4.2 l4.3, Value.slice (some (Addr.mk (Array.size (World.heap w19)) 0 none)) 1 1])) w25 = Result.ok (Value.slice l27.1 l27.2 l27.3) w26 ∧
 (I2 (Sl.mk l27.1 l27.2 l27.3) (IntKind.wrap IntKind.i64 (n5 + 1)) w26 ∧
 I3 (Sl.mk l27.1 l27.2 l27.3) (IntKind.wrap IntKind.i64 (n5 + 1)) w26 < I3 l4 n5 w6)))))))))))))))) ∧
 (decide (n5 < x1) = false →
 R (Value.slice l4.1 l4.2 l4.3) w6)))) ∧
 (decide (n5 < (↑x0n : Int)) = false →
 R (Value.slice l4.1 l4.2 l4.3) w6)))))
theorem vc_cartularylaw11_Short_ok {x0a : Option Addr} {x0n : Nat} {x0c : Nat} {x1 : Int} {w : World} {R : Value → World → Prop} {R' : Ending → World → Prop} (h : vc_cartularylaw11_Short x0a x0n x0c x1 w R) (hR : ∀ v w', R v w' → R' (.returned v) w') :
    Calls Tryz.prog 5 #[.slice x0a x0n x0c, .int .i64 x1] w R' :=
  calls_of_body (vs := [(.slice x0a x0n x0c, false), (.int .i64 x1, false)]) (ty := ty) (ann := ⟨[], [(3, [(5, .slice), (6, .int .i64)])], [], []⟩) (c := Tryz.f5.body.getD .skip) (by kernel_rfl) Tryz.func5 (by kernel_rfl) (by kernel_rfl) (Eq.mp (by kernel_rfl) h) hR
end Go.Proofs.YtaaimcbicpgjoaaGreatDoor

/- The package pack's writers of heads; the law's Short. Conditions: sizes below 2048, places below 2^24. -/
set_option linter.unusedVariables false
namespace Go.Proofs.YtaaimcbicpgjoaaGreatDoor
open Go Vc Go.Proofs

theorem hfirst (kd n : Nat) (hk : kd < 8) (hn : n < 2048) : IntKind.u8.wrap (IntKind.i64.wrap (((BitVec.ofInt 64 (IntKind.i64.wrap ((kd : Int) * 2 ^ min (Int.toNat 4) 64)) ||| BitVec.ofInt 64 (IntKind.i64.wrap (((BitVec.ofInt 64 (n : Int) &&& BitVec.ofInt 64 15).toNat : Nat) : Int))).toNat : Nat) : Int)) = ((kd * 16 + n % 16 : Nat) : Int) := by
  have e1 : (kd : Int) * 2 ^ min (Int.toNat 4) 64 = ((2 ^ 4 * kd : Nat) : Int) := by
    rw [show (2 : Int) ^ min (Int.toNat 4) 64 = ((2 ^ 4 : Nat) : Int) from rfl, Int.natCast_mul, Int.mul_comm]
  have e2 : (BitVec.ofInt 64 (n : Int) &&& BitVec.ofInt 64 15).toNat = n % 16 := by
    rw [show (15 : Int) = ((15 : Nat) : Int) from rfl, and_nat 64 _ _ (by omega) (by omega), show (15 : Nat) = 2 ^ 4 - 1 from rfl, Nat.and_two_pow_sub_one_eq_mod]
  have hor : 2 ^ 4 * kd ||| n % 16 = 2 ^ 4 * kd + n % 16 := (Nat.two_pow_add_eq_or_of_lt (i := 4) (by omega) kd).symm
  rw [e1, e2, show IntKind.i64.wrap ((2 ^ 4 * kd : Nat) : Int) = ((2 ^ 4 * kd : Nat) : Int) from wrap_i64 (by omega) (by omega), show IntKind.i64.wrap ((n % 16 : Nat) : Int) = ((n % 16 : Nat) : Int) from wrap_i64 (by omega) (by omega),
    or_nat 64 _ _ (by omega) (by omega), hor, show IntKind.i64.wrap ((2 ^ 4 * kd + n % 16 : Nat) : Int) = ((2 ^ 4 * kd + n % 16 : Nat) : Int) from wrap_i64 (by omega) (by omega), wrap_u8 (by omega) (by omega)]
  omega
theorem hand127 (n : Nat) (hn : n < 4611686018427387904) : IntKind.u8.wrap (IntKind.i64.wrap (((BitVec.ofInt 64 (n : Int) &&& BitVec.ofInt 64 127).toNat : Nat) : Int)) = ((n % 128 : Nat) : Int) := by
  rw [show (127 : Int) = ((127 : Nat) : Int) from rfl, and_nat 64 _ _ (by omega) (by omega), show (127 : Nat) = 2 ^ 7 - 1 from rfl, Nat.and_two_pow_sub_one_eq_mod, show IntKind.i64.wrap ((n % 2 ^ 7 : Nat) : Int) = ((n % 2 ^ 7 : Nat) : Int) from wrap_i64 (by omega) (by omega), wrap_u8 (by omega) (by omega)]
theorem hor128 (c : Nat) (hc : c < 128) : IntKind.u8.wrap (((BitVec.ofInt 8 (c : Int) ||| BitVec.ofInt 8 128).toNat : Nat) : Int) = ((128 + c : Nat) : Int) := by
  have h : ∀ c, c < 128 → c ||| 128 = 128 + c := by decide +kernel
  rw [show (128 : Int) = ((128 : Nat) : Int) from rfl, or_nat 8 _ _ (by omega) (by omega), h c hc, wrap_u8 (by omega) (by omega)]
theorem headOf_spec (kd n : Nat) (hk : kd < 8) (hn : n < 2048) (w : World) : Calls Tryz.prog F_pack_headOf #[.int .i64 (kd : Int), .int .i64 (n : Int)] w fun e w' =>
    ∃ l : Sl, e = .returned (.slice l.a l.len l.cap) ∧ Vc.Own w' w.heap.size T_uint8 l (byteV (headL kd n)) ∧ Fr (fun _ => False) w w' := by
  refine vc_pack_headOf_ok (R := fun v w' => ∃ l : Sl, v = .slice l.a l.len l.cap ∧ Vc.Own w' w.heap.size T_uint8 l (byteV (headL kd n)) ∧ Fr (fun _ => False) w w') ?_ (fun v w' ⟨l, h1, h2⟩ => ⟨l, by rw [h1], h2⟩)
  refine ⟨by decide, fun w1 h1 => ⟨by decide, ?_⟩⟩
  rw [hfirst kd n hk hn] at h1
  have f1 : Fr (fun _ => False) w w1 := by rw [h1]; exact .alloc _ _ _
  have hc : kd * 16 + n % 16 < 128 := by omega
  have o1 : Vc.Own w1 w.heap.size T_uint8 ⟨some ⟨w.heap.size, 0, none⟩, 1, 1⟩ (byteV [UInt8.ofNat (kd * 16 + n % 16)]) :=
    ⟨rfl, .inr ⟨w.heap.size, #[.int .u8 ((kd * 16 + n % 16 : Nat) : Int)], rfl, Nat.le_refl _, by rw [h1]; exact alloc_new _ _, Nat.le_refl _, (show 1 ≤ maxLen by decide), rfl, by simp only [byteV, List.map_cons, List.map_nil]; rw [toNat_of _ (by omega)]; rfl⟩⟩
  clear h1
  rw [show Int.toNat 4 = 4 from rfl, dshr n 4 (by omega), show n / 2 ^ 4 = n / 16 from rfl]
  refine ⟨fun m l w' => (m = ((n / 16 : Nat) : Int) ∧ Vc.Own w' w.heap.size T_uint8 l (byteV [UInt8.ofNat (kd * 16 + n % 16)]) ∧ Fr (fun _ => False) w w') ∨ (m = 0 ∧ Vc.Own w' w.heap.size T_uint8 l (byteV (headL kd n)) ∧ Fr (fun _ => False) w w'), fun m _ _ => m.toNat, .inl ⟨rfl, o1, f1⟩, ?_⟩
  clear o1 f1
  rintro m l w6 (⟨rfl, o6, f6⟩ | ⟨rfl, o6, f6⟩)
  · have hl := o6.len
    rw [byteV_length, List.length_cons, List.length_nil] at hl
    have ei : IntKind.i64.wrap ((l.len : Int) - 1) = 0 := by rw [hl]; rfl
    rw [ei]
    refine ⟨fun hgt => ?_, fun hle => ?_⟩
    · have hgt := of_decide_eq_true hgt
      obtain ⟨x, hx, hcx, hwr, hset⟩ := o6.set (i := 0) (by rw [byteV_length]; simp)
      have hc0 : (byteV [UInt8.ofNat (kd * 16 + n % 16)])[0]'(by rw [byteV_length]; simp) = .int .u8 ((kd * 16 + n % 16 : Nat) : Int) := by
        simp only [byteV, List.map_cons, List.getElem_cons_zero]
        rw [toNat_of _ (by omega)]
      rw [hc0] at hcx
      refine ⟨⟨by decide, by omega⟩, x, hx, _, hcx, ⟨by decide, by omega⟩, x, hx, hwr, fun w10 h10 w11 h11 => ?_⟩
      rw [hor128 _ hc] at h10
      obtain ⟨hos, hfs⟩ := hset (.int .u8 ((128 + (kd * 16 + n % 16) : Nat) : Int))
      have o10 : Vc.Own w10 w.heap.size T_uint8 l (byteV [UInt8.ofNat (128 + (kd * 16 + n % 16))]) := by
        rw [h10]
        have := hos
        simp only [byteV, List.map_cons, List.map_nil, List.set_cons_zero] at this ⊢
        rw [toNat_of _ (by omega)]
        exact this
      have f10 : Fr (fun _ => False) w w10 := by
        rw [h10]
        exact f6.trans hfs fun q hq ⟨y, hy, e⟩ => by have := (o6.blk hy).1; omega
      rw [hand127 _ (by omega), show n / 16 % 128 = n / 16 by omega] at h11
      obtain ⟨w12, l13, hr, o12, f12, _⟩ := append_one' elByte o10 (v := .int .u8 ((n / 16 : Nat) : Int)) rfl (by rw [byteV_length]; simp [maxLen]) (by rw [byteV_length]; simp) f10.size h11
      rw [byteV_snoc _ _ (by omega)] at o12
      refine ⟨w12, l13, hr, by decide, .inr ⟨?_, ?_, f10.trans f12 fun q hq ⟨y, hy, e⟩ => by have := (o10.blk hy).1; omega⟩, ?_⟩
      · rw [show Int.toNat 7 = 7 from rfl, dshr _ 7 (by omega), show n / 16 / 2 ^ 7 = 0 by omega]; rfl
      · have : headL kd n = [UInt8.ofNat (128 + (kd * 16 + n % 16))] ++ [UInt8.ofNat (n / 16)] := by
          unfold headL
          rw [if_neg (by omega), show 128 + kd * 16 + n % 16 = 128 + (kd * 16 + n % 16) by omega]; rfl
        rw [this]; exact o12
      · rw [show Int.toNat 7 = 7 from rfl, dshr _ 7 (by omega), show n / 16 / 2 ^ 7 = 0 by omega]
        dsimp only
        omega
    · have hle := of_decide_eq_false hle
      refine ⟨l, rfl, ?_, f6⟩
      have : headL kd n = [UInt8.ofNat (kd * 16 + n % 16)] := by
        unfold headL
        rw [if_pos (by omega), show n % 16 = n by omega]
      rw [this]; exact o6
  · exact ⟨fun h => by have := of_decide_eq_true h; omega, fun _ => ⟨l, rfl, o6, f6⟩⟩
theorem backL_len (n : Nat) (hn : n < 16777216) : (backL n).length ≤ 4 := by
  unfold backL
  rw [List.length_append, List.length_map]
  have := bdig_len 3 (n / 128) (by omega)
  simp only [List.length_cons, List.length_nil]; omega
theorem backOf_spec (n : Nat) (hn : n < 16777216) (w : World) : Calls Tryz.prog F_pack_backOf #[.int .i64 (n : Int)] w fun e w' =>
    ∃ l : Sl, e = .returned (.slice l.a l.len l.cap) ∧ Vc.Own w' w.heap.size T_uint8 l (byteV (backL n)) ∧ Fr (fun _ => False) w w' := by
  refine vc_pack_backOf_ok (R := fun v w' => ∃ l : Sl, v = .slice l.a l.len l.cap ∧ Vc.Own w' w.heap.size T_uint8 l (byteV (backL n)) ∧ Fr (fun _ => False) w w') ?_ (fun v w' ⟨l, h1, h2⟩ => ⟨l, by rw [h1], h2⟩)
  have h4 := backL_len n hn
  intro w1 h1
  rw [hand127 n (by omega)] at h1
  have f1 : Fr (fun _ => False) w w1 := by rw [h1]; exact .alloc _ _ _
  have o1 : Vc.Own w1 w.heap.size T_uint8 ⟨some ⟨w.heap.size, 0, none⟩, 1, 1⟩ (byteV [UInt8.ofNat (n % 128)]) :=
    ⟨rfl, .inr ⟨w.heap.size, #[.int .u8 ((n % 128 : Nat) : Int)], rfl, Nat.le_refl _, by rw [h1]; exact alloc_new _ _, Nat.le_refl _, (show 1 ≤ maxLen by decide), rfl, by simp only [byteV, List.map_cons, List.map_nil]; rw [toNat_of _ (by omega)]; rfl⟩⟩
  clear h1
  rw [show Int.toNat 7 = 7 from rfl, dshr n 7 (by omega), show n / 2 ^ 7 = n / 128 from rfl]
  refine ⟨by decide, fun m l w' => ∃ (q : Nat) (bs : List UInt8), m = q ∧ q ≤ n ∧ (bdig q).map bhi ++ bs = backL n ∧ Vc.Own w' w.heap.size T_uint8 l (byteV bs) ∧ Fr (fun _ => False) w w', fun m _ _ => m.toNat, ⟨n / 128, [UInt8.ofNat (n % 128)], rfl, Nat.div_le_self _ _, rfl, o1, f1⟩, ?_⟩
  clear o1 f1
  rintro m l w6 ⟨q, bs, rfl, hq, hb, o6, f6⟩
  refine ⟨fun hgt w7 h7 => ?_, fun hle => ?_⟩
  · have hgt := of_decide_eq_true hgt
    obtain ⟨m, rfl⟩ : ∃ m, q = m + 1 := ⟨q - 1, by omega⟩
    have e1 : IntKind.i64.wrap (((m + 1 : Nat) : Int) - 1) = (m : Int) := by rw [wrap_i64 (by omega) (by omega)]; omega
    rw [e1] at h7 ⊢
    rw [hand127 m (by omega), hor128 _ (by omega)] at h7
    have f7 : Fr (fun _ => False) w6 w7 := by rw [h7]; exact .alloc _ _ _
    have o7 : Vc.Own w7 w6.heap.size T_uint8 ⟨some ⟨w6.heap.size, 0, none⟩, 1, 1⟩ (byteV [bhi (m % 128)]) :=
      ⟨rfl, .inr ⟨w6.heap.size, #[.int .u8 ((128 + m % 128 : Nat) : Int)], rfl, Nat.le_refl _, by rw [h7]; exact alloc_new _ _, Nat.le_refl _, (show 1 ≤ maxLen by decide), rfl, by simp only [byteV, List.map_cons, List.map_nil, bhi]; rw [toNat_of _ (by omega)]; rfl⟩⟩
    clear h7
    have hbl : bs.length ≤ 4 := by
      have := congrArg List.length hb
      rw [List.length_append] at this
      omega
    have hl6 := o6.len
    rw [byteV_length] at hl6
    obtain ⟨w8, l9, hr, o8, f8, _⟩ := append_all' elByte o7 l.cap (o6.keep f7 (by simp)).reads (byteV_one _) (by rw [byteV_length, byteV_length, List.length_cons, List.length_nil]; unfold maxLen; omega) (by rw [byteV_length, byteV_length, List.length_cons, List.length_nil]; omega) f7.size (m := l.len) (by rw [byteV_length]; omega)
    rw [← List.map_append] at o8
    have f6_8 : Fr (fun _ => False) w6 w8 := f7.trans f8 fun q hq ⟨y, hy, e⟩ => by have := (o7.blk hy).1; omega
    refine ⟨w8, l9, hr, by decide, ?_⟩
    rw [dshr m 7 (by omega), show m / 2 ^ 7 = m / 128 from rfl]
    refine ⟨⟨m / 128, [bhi (m % 128)] ++ bs, rfl, by omega, ?_, o8.mono f6.size, f6.trans' f6_8⟩, by dsimp only; omega⟩
    rw [← hb, bdig_succ, List.map_append, List.append_assoc]; rfl
  · have hle := of_decide_eq_false hle
    have hq0 : q = 0 := by omega
    subst hq0
    have h0 : bdig 0 = [] := by rw [bdig]
    rw [h0, List.map_nil, List.nil_append] at hb
    rw [hb] at o6
    exact ⟨l, rfl, o6, f6⟩
/-- An item that came in. -/
structure ItP where
  k : Int
  d : ByteArray
  del : Bool
  base : Int
  nm : Bool
def encIt (x : ItP) : List Value := [.int .i64 x.k, .string x.d, .bool x.del, .int .i64 x.base, .bool x.nm]
theorem elIt : ElK encIt 5 Tryz.prog T_S_pack_Item T_pack_Item (.agg #[.int .i64 0, .string ⟨#[]⟩, .bool false, .int .i64 0, .bool false]) 48 :=
  ⟨by kernel_rfl, by kernel_rfl, rfl, by decide, by kernel_rfl, fun _ => rfl, fun x u hu => by
    simp only [encIt, List.mem_cons, List.mem_nil_iff, or_false] at hu
    rcases hu with rfl | rfl | rfl | rfl | rfl <;> rfl⟩
def cutI (x : ItP) : ItP := { x with d := if x.d.size > 400 then x.d.extract 0 400 else x.d }
theorem boxI_store {w : World} {g : Nat} {cs : Array Value} (h : w.heap[g]? = some (.cells cs T_pack_Item (0, 0))) (hc : cs.size = 5) (x : ItP) :
    ∃ w', (storeVar T_pack_Item ⟨g, 0, none⟩ (.agg #[.int .i64 x.k, .string x.d, .bool x.del, .int .i64 x.base, .bool x.nm])).run Tryz.prog w = .ok () w' ∧ w'.heap[g]? = some (.cells (encIt x).toArray T_pack_Item (0, 0)) ∧ Fr (· = g) w w' :=
  ⟨_, run_storeVar_row (P := Tryz.prog) w g T_pack_Item T_pack_Item _ (encIt x).toArray h (by kernel_rfl) (by rw [hc]; rfl) (by simp [encIt, Value.oneCell']), setRow_heap w g _ (encIt x).toArray T_pack_Item (0, 0) h, ⟨rfl, rfl, rfl, by simp [World.setRow], fun k _ hk => setRow_other w g k _ (fun e => hk e)⟩⟩
theorem boxI_load {w : World} {g : Nat} {x : ItP} (h : w.heap[g]? = some (.cells (encIt x).toArray T_pack_Item (0, 0))) : (loadVar T_pack_Item ⟨g, 0, none⟩).run Tryz.prog w = .ok (.agg #[.int .i64 x.k, .string x.d, .bool x.del, .int .i64 x.base, .bool x.nm]) w :=
  load_agg (vs := encIt x) (agg_of (by kernel_rfl)) (by kernel_rfl) fun k v hv => by rw [add_lit, Nat.zero_add, cell_blk h]; simpa using hv
theorem short11_spec {w : World} {a : Option Addr} {n c : Nat} {xs : List ItP} (hr : ReadsK encIt 5 w a xs) (hn : xs.length = n) : Calls Tryz.prog F_cartularylaw11_Short #[.slice a n c, .int .i64 12] w fun e w' =>
    ∃ l : Sl, e = .returned (.slice l.a l.len l.cap) ∧ OwnK encIt 5 w' w.heap.size T_pack_Item l ((xs.take 12).map cutI) ∧ Fr (fun _ => False) w w' := by
  refine vc_cartularylaw11_Short_ok (R := fun v w' => ∃ l : Sl, v = .slice l.a l.len l.cap ∧ OwnK encIt 5 w' w.heap.size T_pack_Item l ((xs.take 12).map cutI) ∧ Fr (fun _ => False) w w') ?_ (fun v w' ⟨l, h1, h2⟩ => ⟨l, by rw [h1], h2⟩)
  intro w1 h1
  have f1 : Fr (fun _ => False) w w1 := by rw [h1]; exact .alloc _ _ _
  have o1 : OwnK encIt 5 w1 w.heap.size T_pack_Item ⟨some ⟨w.heap.size, 0, none⟩, 0, 0⟩ [] := by rw [h1]; exact OwnK.empty w _
  clear h1
  refine ⟨fun l m w' => ∃ k : Nat, m = k ∧ k ≤ xs.length ∧ k ≤ 12 ∧ OwnK encIt 5 w' w.heap.size T_pack_Item l ((xs.take k).map cutI) ∧ Fr (fun _ => False) w w', fun _ m _ => xs.length - m.toNat, ⟨0, rfl, Nat.zero_le _, Nat.zero_le _, o1, f1⟩, ?_⟩
  clear o1 f1
  rintro l m w6 ⟨k, rfl, hk, hk12, o6, f6⟩
  refine ⟨fun hlt => ⟨fun hlt2 => ?_, fun hge2 => ⟨l, rfl, ?_, f6⟩⟩, fun hge => ⟨l, rfl, ?_, f6⟩⟩
  · have hlt := of_decide_eq_true hlt
    have hlt2 := of_decide_eq_true hlt2
    have hkl : k < xs.length := by omega
    have hx : xs[k]? = some xs[k] := List.getElem?_eq_getElem hkl
    have htk : xs.take (k + 1) = xs.take k ++ [xs[k]] := (List.take_append_getElem hkl).symm
    generalize xs[k] = x at hx htk
    obtain ⟨ad, had, hld⟩ := (hr.keep f6 (by simp)).load elIt hx
    have e1 : IntKind.i64.wrap ((k : Int) + 1) = ((k + 1 : Nat) : Int) := by rw [wrap_i64 (by omega) (by omega)]; omega
    rw [e1, Int.toNat_natCast]
    refine ⟨⟨by omega, by omega⟩, ad, had, x.k, x.d, x.del, x.base, x.nm, hld, fun w13 h13 => ?_⟩
    have f13 : Fr (fun _ => False) w6 w13 := by rw [h13]; exact .alloc _ _ _
    have hb13 : w13.heap[w6.heap.size]? = some (.cells #[.int .i64 0, .string ⟨#[]⟩, .bool false, .int .i64 0, .bool false] T_pack_Item (0, 0)) := by rw [h13]; exact alloc_new _ _
    clear h13
    obtain ⟨w14, hr14, hb14, f14⟩ := boxI_store hb13 rfl x
    refine ⟨w14, hr14, x.d, by rw [cell_blk hb14]; rfl, (fewS_spec x.d 400 w14).mono ?_⟩
    rintro e w17 ⟨rfl, hw⟩
    replace hw := hw.symm
    subst hw
    refine ⟨_, rfl, wr_blk hb14 (Nat.lt_of_lt_of_eq (by decide : 1 < 5) rfl), fun w19 h19 => ?_⟩
    have hb19 : w19.heap[w6.heap.size]? = some (.cells (encIt (cutI x)).toArray T_pack_Item (0, 0)) := by rw [h19, set_blk hb14]; rfl
    have f19 : Fr (· = w6.heap.size) w14 w19 := by rw [h19]; exact Fr.set (· = w6.heap.size) w14 (a := ⟨w6.heap.size, 1, none⟩) _ rfl
    have f6_19 : Fr (fun _ => False) w6 w19 := (f13.trans f14 fun q hq e => by omega).trans f19 fun q hq e => by omega
    have g19 := f6.trans' f6_19
    refine ⟨_, _, _, _, _, boxI_load hb19, fun w25 h25 => ?_⟩
    have hlen : ((xs.take k).map cutI).length ≤ 12 := by rw [List.length_map, List.length_take]; omega
    obtain ⟨w26, l27, hr26, o26, f26, _⟩ := append_oneK (w2 := w25) elIt (o6.keep f6_19 (by simp)) (x := cutI x) (by unfold maxLen; omega) (by omega) g19.size h25
    refine ⟨w26, l27, hr26, ⟨k + 1, rfl, by omega, by omega, ?_, g19.trans f26 fun q hq ⟨y, hy, e⟩ => by have := (o6.blk hy).1; omega⟩, by dsimp only; omega⟩
    rw [htk, List.map_append]
    exact o26
  · have hge2 := of_decide_eq_false hge2
    rw [show (12 : Nat) = k by omega]
    exact o6
  · have hge := of_decide_eq_false hge
    have hk' : k = xs.length := by omega
    rw [List.take_of_length_le (show xs.length ≤ 12 by omega)]
    rw [hk', List.take_length] at o6
    exact o6
end Go.Proofs.YtaaimcbicpgjoaaGreatDoor

/- Formulas of 4 Go functions of this seat (written by a program of the author's, vcgen.py), and that each is enough for the call. No condition. -/
set_option linter.unusedVariables false
namespace Go.Proofs.YtaaimcbicpgjoaaGreatDoor
open Go Vc Go.Proofs
set_option maxRecDepth 100000
/-- (*pack.reader).byte -/
def vc_pack_reader_byte (x0 : Nat) (w : World) (R : Value → World → Prop) : Prop :=
 ∃ I1 : World → Prop, ((∃ n2 : Int, (World.cell? w (Addr.mk x0 1 none) = some (Value.int IntKind.i64 n2) ∧
 ∃ s3 : ByteArray, (World.cell? w (Addr.mk x0 0 none) = some (Value.string s3) ∧
 ∀ w4 : World,
 (Drew w w4 →
 (((decide (n2 ≥ (↑(ByteArray.size s3) : Int)) = true →
 False)) ∧
 (decide (n2 ≥ (↑(ByteArray.size s3) : Int)) = false →
 I1 w4)))))) ∧
 ∀ w5 : World,
 (I1 w5 →
 ∃ n6 : Int, (World.cell? w5 (Addr.mk x0 1 none) = some (Value.int IntKind.i64 n6) ∧
 (Wr w5 (Addr.mk x0 1 none) ∧
 ∀ w7 : World,
 (w7 = World.setCell w5 (Addr.mk x0 1 none) (Value.int IntKind.i64 (IntKind.wrap IntKind.i64 (n6 + 1))) →
 ∃ s8 : ByteArray, (World.cell? w7 (Addr.mk x0 0 none) = some (Value.string s8) ∧
 ∃ n9 : Int, (World.cell? w7 (Addr.mk x0 1 none) = some (Value.int IntKind.i64 n9) ∧
 ((0 ≤ IntKind.wrap IntKind.i64 (n9 - 1) ∧
 IntKind.wrap IntKind.i64 (n9 - 1) < (↑(ByteArray.size s8) : Int)) ∧
 ∀ w10 : World,
 (Drew w7 w10 →
 R (Value.int IntKind.i64 (IntKind.wrap IntKind.i64 (byteAt s8 (IntKind.wrap IntKind.i64 (n9 - 1))))) w10)))))))))
theorem vc_pack_reader_byte_ok {x0 : Nat} {w : World} {R : Value → World → Prop} {R' : Ending → World → Prop} (h : vc_pack_reader_byte x0 w R) (hR : ∀ v w', R v w' → R' (.returned v) w') :
    Calls Tryz.prog 57 #[.pointer (some ⟨x0, 0, none⟩)] w R' :=
  calls_of_body (vs := [(.pointer (some ⟨x0, 0, none⟩), true)]) (ty := ty) (ann := ⟨[(3, [])], [], [(1, .quiet), (4, .quiet)], []⟩) (c := Tryz.f57.body.getD .skip) (by kernel_rfl) Tryz.func57 (by kernel_rfl) (by kernel_rfl) (Eq.mp (by kernel_rfl) h) hR
/-- (*pack.reader).head -/
def vc_pack_reader_head (x0 : Nat) (w : World) (R : Value → World → Prop) : Prop :=
 Calls Tryz.prog (57 : Nat) (Array.mk [Value.pointer (some (Addr.mk x0 0 none))]) (w) (fun e1 w2 =>
 ∃ n3 : Int, (e1 = Ending.returned (Value.int IntKind.i64 n3) ∧
 ((0 : Int) ≤ (4 : Int) ∧
 ∃ I4 : Int → Int → Int → World → Prop, ∃ I5 : Int → Int → Int → World → Nat, (I4 n3 (IntKind.wrap IntKind.i64 (↑(BitVec.toNat (BitVec.ofInt 64 n3 &&& BitVec.ofInt 64 15)) : Int)) 4 w2 ∧
 ∀ n6 : Int,
 ∀ n7 : Int,
 ∀ n8 : Int,
 ∀ w9 : World,
 (I4 n6 n7 n8 w9 →
 (((decide (n6 ≥ 128) = true →
 Calls Tryz.prog (57 : Nat) (Array.mk [Value.pointer (some (Addr.mk x0 0 none))]) (w9) (fun e10 w11 =>
 ∃ n12 : Int, (e10 = Ending.returned (Value.int IntKind.i64 n12) ∧
 (((decide (n8 > 25) = true →
 False)) ∧
 (decide (n8 > 25) = false →
 (0 ≤ n8 ∧
 (I4 n12 (IntKind.wrap IntKind.i64 (↑(BitVec.toNat (BitVec.ofInt 64 n7 ||| BitVec.ofInt 64 (IntKind.wrap IntKind.i64 (IntKind.wrap IntKind.i64 (↑(BitVec.toNat (BitVec.ofInt 64 n12 &&& BitVec.ofInt 64 127)) : Int) * 2 ^ min (Int.toNat n8) 64)))) : Int)) (IntKind.wrap IntKind.i64 (n8 + 7)) w11 ∧
 I5 n12 (IntKind.wrap IntKind.i64 (↑(BitVec.toNat (BitVec.ofInt 64 n7 ||| BitVec.ofInt 64 (IntKind.wrap IntKind.i64 (IntKind.wrap IntKind.i64 (↑(BitVec.toNat (BitVec.ofInt 64 n12 &&& BitVec.ofInt 64 127)) : Int) * 2 ^ min (Int.toNat n8) 64)))) : Int)) (IntKind.wrap IntKind.i64 (n8 + 7)) w11 < I5 n6 n7 n8 w9)))))))) ∧
 (decide (n6 ≥ 128) = false →
 R (Value.tuple (Array.mk [Value.int IntKind.i64 (IntKind.wrap IntKind.i64 (↑(BitVec.toNat (BitVec.ofInt 64 (Int.fdiv n3 (2 ^ min (Int.toNat 4) 64)) &&& BitVec.ofInt 64 7)) : Int)), Value.int IntKind.i64 n7])) w9)))))))
theorem vc_pack_reader_head_ok {x0 : Nat} {w : World} {R : Value → World → Prop} {R' : Ending → World → Prop} (h : vc_pack_reader_head x0 w R) (hR : ∀ v w', R v w' → R' (.returned v) w') :
    Calls Tryz.prog 37 #[.pointer (some ⟨x0, 0, none⟩)] w R' :=
  calls_of_body (vs := [(.pointer (some ⟨x0, 0, none⟩), true)]) (ty := ty) (ann := ⟨[], [(3, [(4, .int .i64), (6, .int .i64), (7, .int .i64)])], [], []⟩) (c := Tryz.f37.body.getD .skip) (by kernel_rfl) Tryz.func37 (by kernel_rfl) (by kernel_rfl) (Eq.mp (by kernel_rfl) h) hR
/-- (*pack.reader).back -/
def vc_pack_reader_back (x0 : Nat) (w : World) (R : Value → World → Prop) : Prop :=
 Calls Tryz.prog (57 : Nat) (Array.mk [Value.pointer (some (Addr.mk x0 0 none))]) (w) (fun e1 w2 =>
 ∃ n3 : Int, (e1 = Ending.returned (Value.int IntKind.i64 n3) ∧
 ∃ I4 : Int → Int → World → Prop, ∃ I5 : Int → Int → World → Nat, (I4 n3 (IntKind.wrap IntKind.i64 (↑(BitVec.toNat (BitVec.ofInt 64 n3 &&& BitVec.ofInt 64 127)) : Int)) w2 ∧
 ∀ n6 : Int,
 ∀ n7 : Int,
 ∀ w8 : World,
 (I4 n6 n7 w8 →
 (((decide (n6 ≥ 128) = true →
 (((decide (n7 > 16777216) = true →
 False)) ∧
 (decide (n7 > 16777216) = false →
 Calls Tryz.prog (57 : Nat) (Array.mk [Value.pointer (some (Addr.mk x0 0 none))]) (w8) (fun e9 w10 =>
 ∃ n11 : Int, (e9 = Ending.returned (Value.int IntKind.i64 n11) ∧
 ((0 : Int) ≤ (7 : Int) ∧
 (I4 n11 (IntKind.wrap IntKind.i64 (↑(BitVec.toNat (BitVec.ofInt 64 (IntKind.wrap IntKind.i64 (IntKind.wrap IntKind.i64 (n7 + 1) * 2 ^ min (Int.toNat 7) 64)) ||| BitVec.ofInt 64 (IntKind.wrap IntKind.i64 (↑(BitVec.toNat (BitVec.ofInt 64 n11 &&& BitVec.ofInt 64 127)) : Int)))) : Int)) w10 ∧
 I5 n11 (IntKind.wrap IntKind.i64 (↑(BitVec.toNat (BitVec.ofInt 64 (IntKind.wrap IntKind.i64 (IntKind.wrap IntKind.i64 (n7 + 1) * 2 ^ min (Int.toNat 7) 64)) ||| BitVec.ofInt 64 (IntKind.wrap IntKind.i64 (↑(BitVec.toNat (BitVec.ofInt 64 n11 &&& BitVec.ofInt 64 127)) : Int)))) : Int)) w10 < I5 n6 n7 w8)))))))) ∧
 (decide (n6 ≥ 128) = false →
 R (Value.int IntKind.i64 n7) w8))))))
theorem vc_pack_reader_back_ok {x0 : Nat} {w : World} {R : Value → World → Prop} {R' : Ending → World → Prop} (h : vc_pack_reader_back x0 w R) (hR : ∀ v w', R v w' → R' (.returned v) w') :
    Calls Tryz.prog 38 #[.pointer (some ⟨x0, 0, none⟩)] w R' :=
  calls_of_body (vs := [(.pointer (some ⟨x0, 0, none⟩), true)]) (ty := ty) (ann := ⟨[], [(3, [(3, .int .i64), (4, .int .i64)])], [], []⟩) (c := Tryz.f38.body.getD .skip) (by kernel_rfl) Tryz.func38 (by kernel_rfl) (by kernel_rfl) (Eq.mp (by kernel_rfl) h) hR
/-- pack.Count -/
def vc_pack_Count (x0 : ByteArray) (w : World) (R : Value → World → Prop) : Prop :=
 (((decide ((↑(ByteArray.size x0) : Int) < 32) = true →
 R (Value.tuple (Array.mk [Value.int IntKind.i64 0, Value.int IntKind.i64 6])) w)) ∧
 (decide ((↑(ByteArray.size x0) : Int) < 32) = false →
 (((0 : Int) ≤ (4 : Int) ∧
 4 ≤ (↑(ByteArray.size x0) : Int)) ∧
 ((((!ByteArray.toList (ByteArray.extract x0 0 (Int.toNat 4)) == ByteArray.toList (ByteArray.mk (Array.mk [80, 65, 67, 75]))) = true →
 R (Value.tuple (Array.mk [Value.int IntKind.i64 0, Value.int IntKind.i64 3])) w)) ∧
 ((!ByteArray.toList (ByteArray.extract x0 0 (Int.toNat 4)) == ByteArray.toList (ByteArray.mk (Array.mk [80, 65, 67, 75]))) = false →
 (((0 : Int) ≤ (4 : Int) ∧
 ((4 : Int) ≤ (8 : Int) ∧
 8 ≤ (↑(ByteArray.size x0) : Int))) ∧
 Calls Tryz.prog (33 : Nat) (Array.mk [Value.string (ByteArray.extract x0 (Int.toNat 4) (Int.toNat 8))]) (w) (fun e1 w2 =>
 ∃ n3 : Int, (e1 = Ending.returned (Value.int IntKind.u64 n3) ∧
 ((((n3 != 2) = true →
 R (Value.tuple (Array.mk [Value.int IntKind.i64 0, Value.int IntKind.i64 3])) w2)) ∧
 ((n3 != 2) = false →
 (((0 : Int) ≤ (8 : Int) ∧
 ((8 : Int) ≤ (12 : Int) ∧
 12 ≤ (↑(ByteArray.size x0) : Int))) ∧
 Calls Tryz.prog (33 : Nat) (Array.mk [Value.string (ByteArray.extract x0 (Int.toNat 8) (Int.toNat 12))]) (w2) (fun e4 w5 =>
 ∃ n6 : Int, (e4 = Ending.returned (Value.int IntKind.u64 n6) ∧
 (((decide (n6 > 1000) = true →
 R (Value.tuple (Array.mk [Value.int IntKind.i64 0, Value.int IntKind.i64 2])) w5)) ∧
 (decide (n6 > 1000) = false →
 ∀ w7 : World,
 (Drew w5 w7 →
 ∃ I8 : World → Prop, (I8 w7 ∧
 ((0 ≤ IntKind.wrap IntKind.i64 ((↑(ByteArray.size x0) : Int) - 20) ∧
 IntKind.wrap IntKind.i64 ((↑(ByteArray.size x0) : Int) - 20) ≤ (↑(ByteArray.size x0) : Int)) ∧
 ((0 ≤ IntKind.wrap IntKind.i64 ((↑(ByteArray.size x0) : Int) - 20) ∧
 IntKind.wrap IntKind.i64 ((↑(ByteArray.size x0) : Int) - 20) ≤ (↑(ByteArray.size x0) : Int)) ∧
 Calls Tryz.prog (24 : Nat) (Array.mk [Value.string (ByteArray.extract x0 0 (Int.toNat (IntKind.wrap IntKind.i64 ((↑(ByteArray.size x0) : Int) - 20))))]) (w7) (fun e9 w10 =>
 ∃ s11 : ByteArray, (e9 = Ending.returned (Value.string s11) ∧
 (I8 w10 ∧
 ((((!ByteArray.toList s11 == ByteArray.toList (ByteArray.extract x0 (Int.toNat (IntKind.wrap IntKind.i64 ((↑(ByteArray.size x0) : Int) - 20))) (ByteArray.size x0))) = true →
 R (Value.tuple (Array.mk [Value.int IntKind.i64 0, Value.int IntKind.i64 5])) w10)) ∧
 ((!ByteArray.toList s11 == ByteArray.toList (ByteArray.extract x0 (Int.toNat (IntKind.wrap IntKind.i64 ((↑(ByteArray.size x0) : Int) - 20))) (ByteArray.size x0))) = false →
 R (Value.tuple (Array.mk [Value.int IntKind.i64 (IntKind.wrap IntKind.i64 n6), Value.int IntKind.i64 0])) w10))))))))))))))))))))))))
theorem vc_pack_Count_ok {x0 : ByteArray} {w : World} {R : Value → World → Prop} {R' : Ending → World → Prop} (h : vc_pack_Count x0 w R) (hR : ∀ v w', R v w' → R' (.returned v) w') :
    Calls Tryz.prog 26 #[.string x0] w R' :=
  calls_of_body (vs := [(.string x0, false)]) (ty := ty) (ann := ⟨[], [], [(8, .held [(0, true), (1, true), (2, true), (3, true), (4, true), (6, true), (7, true), (8, true), (9, true), (10, true), (5, false), (11, true)])], []⟩) (c := Tryz.f26.body.getD .skip) (by kernel_rfl) Tryz.func26 (by kernel_rfl) (by kernel_rfl) (Eq.mp (by kernel_rfl) h) hR
end Go.Proofs.YtaaimcbicpgjoaaGreatDoor

/- The package pack's reader of an entry's head, where what it reads is right: byte, head, back. Conditions: sizes below 2048, places below 2^24. -/
set_option linter.unusedVariables false
namespace Go.Proofs.YtaaimcbicpgjoaaGreatDoor
open Go Vc Go.Proofs

/-- The reader at place k of s: the rest is r. -/
def RdP (w : World) (B : Nat) (s : ByteArray) (r : List UInt8) (k : Nat) : Prop := w.heap[B]? = some (.cells #[.string s, .int .i64 (k : Int)] T_pack_reader (0, 0)) ∧ s.data.toList.drop k = r ∧ k ≤ s.size
theorem RdP.keep {w w' : World} {B : Nat} {s : ByteArray} {r : List UInt8} {k : Nat} (h : RdP w B s r k) {X : Nat → Prop} (hf : Fr X w w') (hx : ¬ X B) : RdP w' B s r k := ⟨hf.keep h.1 hx, h.2⟩
theorem RdP.size {w : World} {B : Nat} {s : ByteArray} {r : List UInt8} {k : Nat} (h : RdP w B s r k) : k + r.length = s.size := by
  have := congrArg List.length h.2.1
  rw [List.length_drop, bs_len] at this
  have := h.2.2
  omega
theorem RdP.c0 {w : World} {B : Nat} {s : ByteArray} {r : List UInt8} {k : Nat} (h : RdP w B s r k) : w.cell? ⟨B, 0, none⟩ = some (.string s) := by rw [cell_blk h.1]; rfl
theorem RdP.c1 {w : World} {B : Nat} {s : ByteArray} {r : List UInt8} {k : Nat} (h : RdP w B s r k) : w.cell? ⟨B, 1, none⟩ = some (.int .i64 (k : Int)) := by rw [cell_blk h.1]; rfl
/-- Its place is moved. -/
theorem RdP.move {w : World} {B : Nat} {s : ByteArray} {t r : List UInt8} {k : Nat} (h : RdP w B s (t ++ r) k) {n : Nat} (hn : t.length = n) : Wr w ⟨B, 1, none⟩ ∧ RdP (w.setCell ⟨B, 1, none⟩ (.int .i64 ((k + n : Nat) : Int))) B s r (k + n) ∧ Fr (· = B) w (w.setCell ⟨B, 1, none⟩ (.int .i64 ((k + n : Nat) : Int))) := by
  have hsz := h.size
  rw [List.length_append] at hsz
  refine ⟨wr_blk h.1 (Nat.lt_succ_self 1), ⟨by rw [set_blk h.1]; rfl, ?_, by omega⟩, Fr.set (· = B) w _ rfl⟩
  rw [← List.drop_drop, h.2.1, ← hn, List.drop_left]
theorem pbyte_spec {w : World} {B : Nat} {s : ByteArray} {c : UInt8} {r : List UInt8} {k : Nat} (h : RdP w B s (c :: r) k) (hs : s.size ≤ 4611686018427387904) :
    Calls Tryz.prog F_pack_reader_byte #[.pointer (some ⟨B, 0, none⟩)] w fun e w' => e = .returned (.int .i64 (c.toNat : Int)) ∧ RdP w' B s r (k + 1) ∧ Fr (· = B) w w' := by
  refine vc_pack_reader_byte_ok (R := fun v w' => v = .int .i64 (c.toNat : Int) ∧ RdP w' B s r (k + 1) ∧ Fr (· = B) w w') ?_ (fun v w' h => ⟨by rw [h.1], h.2⟩)
  have hsz := h.size
  rw [List.length_cons] at hsz
  refine ⟨fun w' => RdP w' B s (c :: r) k ∧ Fr (fun _ => False) w w', ⟨_, h.c1, s, h.c0, fun w4 d4 => ⟨fun he => ?_, fun _ => ⟨h.keep (.drew (fun _ => False) d4) (by simp), .drew _ d4⟩⟩⟩, ?_⟩
  · have := of_decide_eq_true he
    omega
  rintro w5 ⟨h5, f5⟩
  have e1 : IntKind.i64.wrap ((k : Int) + 1) = ((k + 1 : Nat) : Int) := by rw [wrap_i64 (by omega) (by omega)]; omega
  obtain ⟨hwr, h7, f7⟩ := (show RdP w5 B s ([c] ++ r) k from h5).move (n := 1) rfl
  refine ⟨_, h5.c1, hwr, fun w7 hw7 => ?_⟩
  rw [e1] at hw7
  subst hw7
  have e2 : IntKind.i64.wrap (((k + 1 : Nat) : Int) - 1) = ((k : Nat) : Int) := by rw [wrap_i64 (by omega) (by omega)]; omega
  refine ⟨s, h7.c0, _, h7.c1, ?_⟩
  rw [e2, byteAt_nat]
  have hbk : byt s k = c.toNat := by
    have hg : s.data.toList[k]? = some c := by
      have := congrArg (fun l : List UInt8 => l[0]?) h.2.1
      simpa [List.getElem?_drop] using this
    exact (bs_get? hg).2
  have hcl := UInt8.toNat_lt c
  refine ⟨⟨by omega, by omega⟩, fun w10 d10 => ⟨?_, h7.keep (.drew (fun _ => False) d10) (by simp), ((f5.mono fun _ _ h => h.elim).trans' f7).trans' (.drew _ d10)⟩⟩
  rw [hbk, wrap_i64 (by omega) (by omega)]
theorem por (a c s : Nat) (ha : a < 2 ^ s) (hs : s ≤ 40) (hc : c < 256) : IntKind.i64.wrap (((BitVec.ofInt 64 (a : Int) ||| BitVec.ofInt 64 (IntKind.i64.wrap ((c : Int) * 2 ^ min s 64))).toNat : Nat) : Int) = ((a + c * 2 ^ s : Nat) : Int) := by
  have hp : 2 ^ s ≤ 2 ^ 40 := Nat.pow_le_pow_right (by decide) hs
  have hcp : c * 2 ^ s ≤ 255 * 2 ^ 40 := Nat.mul_le_mul (by omega) hp
  have e : (2 : Int) ^ min s 64 = ((2 ^ s : Nat) : Int) := by rw [show min s 64 = s by omega, Int.natCast_pow]; rfl
  have hor : a ||| c * 2 ^ s = a + c * 2 ^ s := by
    rw [Nat.or_comm, Nat.mul_comm c, ← Nat.two_pow_add_eq_or_of_lt ha, Nat.add_comm]
  have e2 : (c : Int) * ((2 ^ s : Nat) : Int) = ((c * 2 ^ s : Nat) : Int) := by rw [Int.natCast_mul]
  generalize hP : 2 ^ s = P at *
  rw [e, e2]
  generalize hQ : c * P = Q at *
  rw [show IntKind.i64.wrap ((Q : Nat) : Int) = ((Q : Nat) : Int) from wrap_i64 (by omega) (by omega), or_nat 64 _ _ (by omega) (by omega), hor, wrap_i64 (by omega) (by omega)]
theorem pand127 (c : Nat) (hc : c < 256) : IntKind.i64.wrap (((BitVec.ofInt 64 (c : Int) &&& BitVec.ofInt 64 127).toNat : Nat) : Int) = ((c % 128 : Nat) : Int) := by
  rw [show (127 : Int) = ((127 : Nat) : Int) from rfl, and_nat 64 _ _ (by omega) (by omega), show (127 : Nat) = 2 ^ 7 - 1 from rfl, Nat.and_two_pow_sub_one_eq_mod, wrap_i64 (by omega) (by omega)]
theorem pand15 (c : Nat) (hc : c < 256) : IntKind.i64.wrap (((BitVec.ofInt 64 (c : Int) &&& BitVec.ofInt 64 15).toNat : Nat) : Int) = ((c % 16 : Nat) : Int) := by
  rw [show (15 : Int) = ((15 : Nat) : Int) from rfl, and_nat 64 _ _ (by omega) (by omega), show (15 : Nat) = 2 ^ 4 - 1 from rfl, Nat.and_two_pow_sub_one_eq_mod, wrap_i64 (by omega) (by omega)]
theorem pkind (c : Nat) (hc : c < 256) : IntKind.i64.wrap (((BitVec.ofInt 64 (Int.fdiv (c : Int) (2 ^ min (Int.toNat 4) 64)) &&& BitVec.ofInt 64 7).toNat : Nat) : Int) = ((c / 16 % 8 : Nat) : Int) := by
  have e : Int.fdiv (c : Int) (2 ^ min (Int.toNat 4) 64) = ((c / 16 : Nat) : Int) := by
    rw [show (2 : Int) ^ min (Int.toNat 4) 64 = ((16 : Nat) : Int) from rfl, Int.fdiv_eq_ediv_of_nonneg _ (Int.natCast_nonneg _), ← Int.natCast_ediv]
  rw [e, show (7 : Int) = ((7 : Nat) : Int) from rfl, and_nat 64 _ _ (by omega) (by omega), show (7 : Nat) = 2 ^ 3 - 1 from rfl, Nat.and_two_pow_sub_one_eq_mod, wrap_i64 (by omega) (by omega)]
theorem phead_spec {w : World} {B : Nat} {s : ByteArray} {kd n : Nat} (hk : kd < 8) (hn : n < 2048) {r : List UInt8} {k : Nat} (h : RdP w B s (headL kd n ++ r) k) (hs : s.size ≤ 4611686018427387904) :
    Calls Tryz.prog F_pack_reader_head #[.pointer (some ⟨B, 0, none⟩)] w fun e w' => e = .returned (.tuple #[.int .i64 (kd : Int), .int .i64 (n : Int)]) ∧ RdP w' B s r (k + (headL kd n).length) ∧ Fr (· = B) w w' := by
  refine vc_pack_reader_head_ok (R := fun v w' => v = .tuple #[.int .i64 (kd : Int), .int .i64 (n : Int)] ∧ RdP w' B s r (k + (headL kd n).length) ∧ Fr (· = B) w w') ?_ (fun v w' h => ⟨by rw [h.1], h.2⟩)
  by_cases h16 : n < 16
  · have hl : headL kd n = [UInt8.ofNat (kd * 16 + n)] := by unfold headL; rw [if_pos h16]
    rw [hl] at h ⊢
    refine (pbyte_spec h hs).mono ?_
    rintro e w2 ⟨rfl, r2, f2⟩
    refine ⟨_, rfl, ?_⟩
    rw [toNat_of _ (by omega), pand15 _ (by omega), pkind _ (by omega), show (kd * 16 + n) % 16 = n by omega, show (kd * 16 + n) / 16 % 8 = kd by omega]
    refine ⟨by decide, fun c v sh w' => c = ((kd * 16 + n : Nat) : Int) ∧ v = (n : Int) ∧ w' = w2, fun _ _ _ _ => 0, ⟨rfl, rfl, rfl⟩, ?_⟩
    rintro c v sh w9 ⟨rfl, rfl, hw⟩
    replace hw := hw.symm
    subst hw
    refine ⟨fun hge => ?_, fun _ => ⟨rfl, r2, f2⟩⟩
    have := of_decide_eq_true hge
    omega
  · have hl : headL kd n = [UInt8.ofNat (128 + kd * 16 + n % 16), UInt8.ofNat (n / 16)] := by unfold headL; rw [if_neg h16]
    rw [hl] at h ⊢
    refine (pbyte_spec h hs).mono ?_
    rintro e w2 ⟨rfl, r2, f2⟩
    refine ⟨_, rfl, ?_⟩
    rw [toNat_of _ (by omega), pand15 _ (by omega), pkind _ (by omega), show (128 + kd * 16 + n % 16) % 16 = n % 16 by omega, show (128 + kd * 16 + n % 16) / 16 % 8 = kd by omega]
    refine ⟨by decide, fun c v sh w' => (c = ((128 + kd * 16 + n % 16 : Nat) : Int) ∧ v = ((n % 16 : Nat) : Int) ∧ sh = 4 ∧ w' = w2) ∨ (c = ((n / 16 : Nat) : Int) ∧ v = (n : Int) ∧ RdP w' B s r (k + 2) ∧ Fr (· = B) w w'), fun c _ _ _ => if c ≥ 128 then 1 else 0, .inl ⟨rfl, rfl, rfl, rfl⟩, ?_⟩
    rintro c v sh w9 (⟨rfl, rfl, rfl, hw⟩ | ⟨rfl, rfl, r9, f9⟩)
    · replace hw := hw.symm
      subst hw
      refine ⟨fun _ => (pbyte_spec r2 hs).mono ?_, fun hlt => ?_⟩
      · rintro e w11 ⟨rfl, r11, f11⟩
        refine ⟨_, rfl, fun hb => (by cases hb), fun _ => ⟨by decide, ?_⟩⟩
        rw [toNat_of _ (by omega), pand127 _ (by omega)]
        have := por (n % 16) (n / 16 % 128) 4 (by omega) (by omega) (by omega)
        have e0 : IntKind.i64.wrap (((BitVec.ofInt 64 ((n % 16 : Nat) : Int) ||| BitVec.ofInt 64 (IntKind.i64.wrap (((n / 16 % 128 : Nat) : Int) * 2 ^ min (Int.toNat 4) 64))).toNat : Nat) : Int) = ((n % 16 + n / 16 % 128 * 2 ^ 4 : Nat) : Int) := this
        rw [e0, show n % 16 + n / 16 % 128 * 2 ^ 4 = n by omega]
        refine ⟨.inr ⟨rfl, rfl, r11, f2.trans' f11⟩, ?_⟩
        dsimp only
        rw [if_neg (by omega), if_pos (by omega)]
        decide
      · have := of_decide_eq_false hlt
        omega
    · refine ⟨fun hge => ?_, fun _ => ⟨rfl, r9, f9⟩⟩
      have := of_decide_eq_true hge
      omega
theorem pstep (u d : Nat) (hu : u ≤ 16777217) (hd : d < 128) : IntKind.i64.wrap (((BitVec.ofInt 64 (IntKind.i64.wrap (IntKind.i64.wrap (((u : Nat) : Int) - 1 + 1) * 2 ^ min (Int.toNat 7) 64)) ||| BitVec.ofInt 64 ((d : Nat) : Int)).toNat : Nat) : Int) = ((bfold u d : Nat) : Int) - 1 := by
  have e1 : IntKind.i64.wrap (((u : Nat) : Int) - 1 + 1) = ((u : Nat) : Int) := by rw [wrap_i64 (by omega) (by omega)]; omega
  have e2 : ((u : Nat) : Int) * 2 ^ min (Int.toNat 7) 64 = ((u * 128 : Nat) : Int) := by rw [show (2 : Int) ^ min (Int.toNat 7) 64 = ((128 : Nat) : Int) from rfl, Int.natCast_mul]
  have hor : u * 128 ||| d = u * 128 + d := by
    rw [Nat.mul_comm]
    exact (Nat.two_pow_add_eq_or_of_lt (i := 7) hd u).symm
  rw [e1, e2, show IntKind.i64.wrap ((u * 128 : Nat) : Int) = ((u * 128 : Nat) : Int) from wrap_i64 (by omega) (by omega), or_nat 64 _ _ (by omega) (by omega), hor, wrap_i64 (by omega) (by omega)]
  unfold bfold
  omega
theorem pback_spec {w : World} {B : Nat} {s : ByteArray} {n : Nat} (hn : n < 16777216) {r : List UInt8} {k : Nat} (h : RdP w B s (backL n ++ r) k) (hs : s.size ≤ 4611686018427387904) :
    Calls Tryz.prog F_pack_reader_back #[.pointer (some ⟨B, 0, none⟩)] w fun e w' => e = .returned (.int .i64 (n : Int)) ∧ RdP w' B s r (k + (backL n).length) ∧ Fr (· = B) w w' := by
  refine vc_pack_reader_back_ok (R := fun v w' => v = .int .i64 (n : Int) ∧ RdP w' B s r (k + (backL n).length) ∧ Fr (· = B) w w') ?_ (fun v w' h => ⟨by rw [h.1], h.2⟩)
  obtain ⟨ds, hds⟩ : ∃ ds, bdig (n / 128) = ds := ⟨_, rfl⟩
  have hval : ds.foldl bfold 0 = n / 128 := by rw [← hds]; exact bdig_val _
  have hlt : ∀ d ∈ ds, d < 128 := by rw [← hds]; exact bdig_lt _
  unfold backL at h ⊢
  rw [hds] at h ⊢
  have htot : (ds.map bhi ++ [UInt8.ofNat (n % 128)]).length = ds.length + 1 := by rw [List.length_append, List.length_map]; rfl
  rw [htot]
  cases hd0 : ds with
  | nil =>
    rw [hd0] at h hval
    have hn0 : n / 128 = 0 := by rw [← hval]; rfl
    refine (pbyte_spec (show RdP w B s (UInt8.ofNat (n % 128) :: r) k from h) hs).mono ?_
    rintro e w2 ⟨rfl, r2, f2⟩
    refine ⟨_, rfl, ?_⟩
    rw [toNat_of _ (by omega), pand127 _ (by omega), show n % 128 % 128 = n by omega, show n % 128 = n by omega]
    refine ⟨fun c v w' => c = (n : Int) ∧ v = (n : Int) ∧ w' = w2, fun _ _ _ => 0, ⟨rfl, rfl, rfl⟩, ?_⟩
    rintro c v w8 ⟨rfl, rfl, hw⟩
    replace hw := hw.symm
    subst hw
    refine ⟨fun hge => ?_, fun _ => ⟨rfl, r2, f2⟩⟩
    have := of_decide_eq_true hge
    omega
  | cons d0 ds0 =>
    rw [hd0] at h hval hlt
    have hdl : d0 < 128 := hlt d0 List.mem_cons_self
    refine (pbyte_spec (show RdP w B s (bhi d0 :: (ds0.map bhi ++ [UInt8.ofNat (n % 128)] ++ r)) k from by simpa using h) hs).mono ?_
    rintro e w2 ⟨rfl, r2, f2⟩
    have hb0 : (bhi d0).toNat = 128 + d0 := toNat_of _ (by omega)
    refine ⟨_, rfl, ?_⟩
    rw [hb0, pand127 _ (by omega), show (128 + d0) % 128 = d0 by omega]
    refine ⟨fun c v w' => (c < 128 ∧ v = (n : Int) ∧ RdP w' B s r (k + ((d0 :: ds0).length + 1)) ∧ Fr (· = B) w w') ∨ (∃ (ds1 ds2 : List Nat), d0 :: ds0 = ds1 ++ ds2 ∧ ds1 ≠ [] ∧ c ≥ 128 ∧ v = ((ds1.foldl bfold 0 : Nat) : Int) - 1 ∧
        RdP w' B s (ds2.map bhi ++ [UInt8.ofNat (n % 128)] ++ r) (k + ds1.length) ∧ Fr (· = B) w w'), fun c v _ => if c ≥ 128 then n + 1 - v.toNat else 0,
      .inr ⟨[d0], ds0, rfl, List.cons_ne_nil _ _, by omega, by simp only [List.foldl_cons, List.foldl_nil, bfold]; omega, r2, f2⟩, ?_⟩
    rintro c v w8 (⟨hc, rfl, r8, f8⟩ | ⟨ds1, ds2, hsp, hne1, hc, rfl, r8, f8⟩)
    · refine ⟨fun hge => ?_, fun _ => ⟨rfl, r8, f8⟩⟩
      have := of_decide_eq_true hge
      omega
    · have hle : ds1.foldl bfold 0 ≤ n / 128 := by
        rw [← hval, hsp, List.foldl_append]
        exact bfold_le ds2 _
      have hp1 := bfold_pos ds1 hne1
      generalize hu : ds1.foldl bfold 0 = u at hle hp1 ⊢
      refine ⟨fun _ => ⟨fun hb => ?_, fun _ => ?_⟩, fun hb => ?_⟩
      · have := of_decide_eq_true hb
        omega
      · cases ds2 with
        | nil =>
          rw [List.append_nil] at hsp
          have hun : u = n / 128 := by rw [← hu, ← hsp]; exact hval
          refine (pbyte_spec (show RdP w8 B s (UInt8.ofNat (n % 128) :: r) (k + ds1.length) from r8) hs).mono ?_
          rintro e w10 ⟨rfl, r10, f10⟩
          refine ⟨_, rfl, by decide, ?_⟩
          rw [toNat_of _ (by omega), pand127 _ (by omega), pstep u (n % 128 % 128) (by omega) (by omega)]
          have hv : ((bfold u (n % 128 % 128) : Nat) : Int) - 1 = (n : Int) := by unfold bfold; omega
          rw [hv]
          refine ⟨.inl ⟨by omega, rfl, ?_, f8.trans' f10⟩, ?_⟩
          · rw [hsp, ← Nat.add_assoc]; exact r10
          · dsimp only
            rw [if_neg (by omega), if_pos hc]
            omega
        | cons d ds3 =>
          have hd : d < 128 := hlt d (by rw [hsp]; simp)
          have hbd : (bhi d).toNat = 128 + d := toNat_of _ (by omega)
          refine (pbyte_spec (show RdP w8 B s (bhi d :: (ds3.map bhi ++ [UInt8.ofNat (n % 128)] ++ r)) (k + ds1.length) from by simpa using r8) hs).mono ?_
          rintro e w10 ⟨rfl, r10, f10⟩
          refine ⟨_, rfl, by decide, ?_⟩
          have hfold : (ds1 ++ [d]).foldl bfold 0 = bfold u d := by rw [List.foldl_append, hu]; rfl
          have hle2 : bfold u d ≤ n / 128 := by
            rw [← hfold, ← hval, hsp, show ds1 ++ d :: ds3 = (ds1 ++ [d]) ++ ds3 by simp, List.foldl_append (l := ds1 ++ [d])]
            exact bfold_le ds3 _
          rw [hbd, pand127 _ (by omega), show (128 + d) % 128 = d by omega, pstep u d (by omega) hd]
          refine ⟨.inr ⟨ds1 ++ [d], ds3, by rw [hsp]; simp, by simp, by omega, by rw [hfold], ?_, f8.trans' f10⟩, ?_⟩
          · rw [List.length_append, List.length_cons, List.length_nil, ← Nat.add_assoc]; exact r10
          · dsimp only
            rw [if_pos (by omega), if_pos hc]
            unfold bfold at hle2 ⊢
            omega
      · have := of_decide_eq_false hb
        omega
end Go.Proofs.YtaaimcbicpgjoaaGreatDoor

/- Plain facts on codes by their lengths. -/
set_option linter.unusedVariables false
namespace HuffM
/-- How many of the numbers of n bits the codes of at most n bits take up. -/
def fin (ls : List Nat) : Nat → Nat
  | 0 => 0
  | n + 1 => 2 * fin ls n + ls.count (n + 1)
theorem fin_nil : ∀ m, fin [] m = 0
  | 0 => rfl
  | m + 1 => by simp [fin, fin_nil m]
theorem fin_cons (x : Nat) (ls : List Nat) : ∀ m, fin (x :: ls) m = fin ls m + (if 1 ≤ x ∧ x ≤ m then 2 ^ (m - x) else 0)
  | 0 => by simp only [fin]; rw [if_neg (by omega)]
  | m + 1 => by
    simp only [fin, fin_cons x ls m, List.count_cons]
    have hc : (if (x == m + 1) = true then 1 else 0) = if x = m + 1 then 1 else 0 := by
      by_cases h : x = m + 1
      · rw [if_pos h, if_pos (by simpa using h)]
      · rw [if_neg h, if_neg (by simpa using h)]
    rw [hc]
    by_cases h1 : 1 ≤ x ∧ x ≤ m
    · have h2 : 1 ≤ x ∧ x ≤ m + 1 := by omega
      have h3 : ¬ x = m + 1 := by omega
      rw [if_pos h1, if_pos h2, if_neg h3, show m + 1 - x = (m - x) + 1 by omega, Nat.pow_succ]; omega
    · by_cases h2 : x = m + 1
      · have h3 : 1 ≤ x ∧ x ≤ m + 1 := by omega
        rw [if_neg h1, if_pos h2, if_pos h3, show m + 1 - x = 0 by omega]; omega
      · have h3 : ¬ (1 ≤ x ∧ x ≤ m + 1) := by omega
        rw [if_neg h1, if_neg h2, if_neg h3]; omega
theorem fin_double (ls : List Nat) (n : Nat) : ∀ d, 2 ^ d * fin ls n ≤ fin ls (n + d)
  | 0 => by simp
  | d + 1 => by
    have := fin_double ls n d
    rw [← Nat.add_assoc, fin, Nat.pow_succ, Nat.mul_comm (2 ^ d) 2, Nat.mul_assoc]; omega
/-- Over-full at n: over-full at every greater length. -/
theorem over_later (ls : List Nat) {n m : Nat} (h : 2 ^ n < fin ls n) (hm : n ≤ m) : 2 ^ m < fin ls m := by
  have := fin_double ls n (m - n)
  rw [show n + (m - n) = m by omega] at this
  have h2 : 2 ^ m = 2 ^ (m - n) * 2 ^ n := by rw [← Nat.pow_add]; congr 1; omega
  have h3 : 2 ^ (m - n) * 2 ^ n < 2 ^ (m - n) * fin ls n := Nat.mul_lt_mul_of_pos_left h (Nat.two_pow_pos _)
  omega
/-- The symbols whose codes have n bits. -/
def syms (ls : List Nat) (n : Nat) : List Nat := (List.range ls.length).filter (fun s => ls[s]? == some n)
/-- The symbols by length, up to n bits. -/
def sorted (ls : List Nat) : Nat → List Nat
  | 0 => []
  | n + 1 => sorted ls n ++ syms ls (n + 1)
/-- A symbol's code. -/
def code (ls : List Nat) (s : Nat) : Nat := 2 * fin ls (ls.getD s 0 - 1) + (ls.take s).count (ls.getD s 0)
theorem filter_range_get (p : Nat → Bool) : ∀ (k r s : Nat), ((List.range k).filter p)[r]? = some s → p s = true ∧ s < k ∧ ((List.range s).filter p).length = r
  | 0, r, s, h => by simp at h
  | k + 1, r, s, h => by
    rw [List.range_succ, List.filter_append] at h
    by_cases hr : r < ((List.range k).filter p).length
    · rw [List.getElem?_append_left hr] at h
      obtain ⟨h1, h2, h3⟩ := filter_range_get p k r s h
      exact ⟨h1, by omega, h3⟩
    · rw [List.getElem?_append_right (by omega)] at h
      by_cases hp : p k = true
      · rw [List.filter_cons_of_pos hp] at h
        cases hq : r - ((List.range k).filter p).length with
        | zero =>
          rw [hq] at h
          simp only [List.filter_nil, List.getElem?_cons_zero, Option.some.injEq] at h
          subst h
          exact ⟨hp, by omega, by omega⟩
        | succ q => rw [hq] at h; simp at h
      · rw [List.filter_cons_of_neg hp] at h; simp at h
theorem filter_range_count (ls : List Nat) (n : Nat) : ∀ k, k ≤ ls.length → ((List.range k).filter (fun s => ls[s]? == some n)).length = (ls.take k).count n
  | 0, _ => rfl
  | k + 1, h => by
    rw [List.range_succ, List.filter_append, List.length_append, filter_range_count ls n k (by omega), List.take_succ_eq_append_getElem (by omega), List.count_append]
    congr 1
    rw [List.filter_cons, List.getElem?_eq_getElem (by omega)]
    by_cases hx : ls[k] = n
    · simp [hx]
    · simp [hx]
theorem syms_length (ls : List Nat) (n : Nat) : (syms ls n).length = ls.count n := by
  have := filter_range_count ls n ls.length (Nat.le_refl _)
  rwa [List.take_length] at this
theorem syms_get {ls : List Nat} {n r s : Nat} (h : (syms ls n)[r]? = some s) : ls[s]? = some n ∧ (ls.take s).count n = r := by
  obtain ⟨h1, h2, h3⟩ := filter_range_get _ _ _ _ h
  have h1 : ls[s]? = some n := by simpa using h1
  exact ⟨h1, by rw [← h3, filter_range_count ls n s (by omega)]⟩
theorem syms_mem {ls : List Nat} {n s : Nat} (h : ls[s]? = some n) : s ∈ syms ls n := by
  obtain ⟨h1, h2⟩ := List.getElem?_eq_some_iff.1 h
  simp [syms, h1, h2]
theorem sorted_mem {ls : List Nat} {n s : Nat} (h : ls[s]? = some n) (h1 : 1 ≤ n) : ∀ m, n ≤ m → s ∈ sorted ls m
  | 0, hm => by omega
  | m + 1, hm => by
    simp only [sorted, List.mem_append]
    by_cases hn : n = m + 1
    · subst hn; exact .inr (syms_mem h)
    · exact .inl (sorted_mem h h1 m (by omega))
theorem countP_step (m : Nat) : ∀ l : List Nat, l.countP (fun x => decide (1 ≤ x ∧ x ≤ m + 1)) = l.countP (fun x => decide (1 ≤ x ∧ x ≤ m)) + l.count (m + 1)
  | [] => rfl
  | x :: l => by
    simp only [List.countP_cons, List.count_cons, countP_step m l]
    by_cases h1 : x = m + 1
    · subst h1
      have h4 : ¬ (m + 1 ≤ m) := by omega
      simp [h4]; omega
    · by_cases h2 : 1 ≤ x ∧ x ≤ m
      · have h3 : 1 ≤ x ∧ x ≤ m + 1 := by omega
        simp [h1, h2, h3]; omega
      · have h3 : ¬ (1 ≤ x ∧ x ≤ m + 1) := by omega
        simp [h1, h2, h3]
/-- How many symbols have a code of at most n bits. -/
theorem sorted_length (ls : List Nat) : ∀ m, (sorted ls m).length = ls.countP (fun x => decide (1 ≤ x ∧ x ≤ m))
  | 0 => by simp only [sorted, List.length_nil]; rw [eq_comm, List.countP_eq_zero]; intro x _; simp; omega
  | m + 1 => by simp only [sorted, List.length_append, sorted_length ls m, syms_length, countP_step]
theorem sorted_le (ls : List Nat) (m : Nat) : (sorted ls m).length ≤ ls.length := by rw [sorted_length]; exact List.countP_le_length
end HuffM

/- Plain facts on bits of a text, the lowest of each byte first. -/
set_option linter.unusedVariables false
namespace BitsM
open Vc
/-- The first n bytes as a number, the first the lowest. -/
def V (s : ByteArray) : Nat → Nat
  | 0 => 0
  | n + 1 => V s n + byt s n * 2 ^ (8 * n)
theorem V_lt (s : ByteArray) : ∀ n, V s n < 2 ^ (8 * n)
  | 0 => by simp [V]
  | n + 1 => by
    have h := V_lt s n
    have hb := byt_lt s n
    have e : 2 ^ (8 * (n + 1)) = 256 * 2 ^ (8 * n) := by rw [Nat.mul_succ, Nat.pow_add]; omega
    have : byt s n * 2 ^ (8 * n) ≤ 255 * 2 ^ (8 * n) := Nat.mul_le_mul_right _ (by omega)
    simp only [V]; omega
/-- What is held: the bits from pos on of the first n bytes. -/
def held (s : ByteArray) (n pos : Nat) : Nat := V s n / 2 ^ pos
theorem held_lt (s : ByteArray) (n pos : Nat) (h : pos ≤ 8 * n) : held s n pos < 2 ^ (8 * n - pos) := by
  unfold held
  rw [Nat.div_lt_iff_lt_mul (Nat.two_pow_pos _), ← Nat.pow_add, Nat.sub_add_cancel h]
  exact V_lt s n
theorem held_succ (s : ByteArray) (n pos : Nat) (h : pos ≤ 8 * n) : held s (n + 1) pos = held s n pos + byt s n * 2 ^ (8 * n - pos) := by
  unfold held
  have e : 2 ^ (8 * n) = 2 ^ (8 * n - pos) * 2 ^ pos := by rw [← Nat.pow_add, Nat.sub_add_cancel h]
  simp only [V]
  rw [e, ← Nat.mul_assoc, Nat.add_mul_div_right _ _ (Nat.two_pow_pos _)]
theorem held_or (s : ByteArray) (n pos : Nat) (h : pos ≤ 8 * n) : held s n pos ||| byt s n * 2 ^ (8 * n - pos) = held s (n + 1) pos := by
  rw [held_succ s n pos h, Nat.or_comm, Nat.mul_comm, Nat.add_comm, ← Nat.two_pow_add_eq_or_of_lt (held_lt s n pos h)]
theorem held_skip (s : ByteArray) (n pos k : Nat) : held s n pos / 2 ^ k = held s n (pos + k) := by
  unfold held; rw [Nat.div_div_eq_div_mul, ← Nat.pow_add]
/-- The next k bits of the whole text, from pos on. -/
def nbits (s : ByteArray) (pos k : Nat) : Nat := V s s.size / 2 ^ pos % 2 ^ k
theorem V_split (s : ByteArray) (n : Nat) : ∀ d, ∃ q, V s (n + d) = V s n + q * 2 ^ (8 * n)
  | 0 => ⟨0, by simp⟩
  | d + 1 => by
    obtain ⟨q, hq⟩ := V_split s n d
    refine ⟨q + byt s (n + d) * 2 ^ (8 * d), ?_⟩
    show V s (n + d) + byt s (n + d) * 2 ^ (8 * (n + d)) = _
    rw [hq, Nat.add_mul, Nat.mul_assoc, ← Nat.pow_add]
    have : 8 * d + 8 * n = 8 * (n + d) := by omega
    rw [this]; omega
theorem held_bits (s : ByteArray) (n pos k : Nat) (hn : n ≤ s.size) (h : pos + k ≤ 8 * n ∨ n = s.size) : held s n pos % 2 ^ k = nbits s pos k := by
  rcases h with h | rfl
  · unfold held nbits
    obtain ⟨q, hq⟩ := V_split s n (s.size - n)
    rw [Nat.add_sub_cancel' hn] at hq
    rw [hq]
    have e : 2 ^ (8 * n) = 2 ^ (8 * n - pos - k) * 2 ^ k * 2 ^ pos := by
      rw [← Nat.pow_add, ← Nat.pow_add]; congr 1; omega
    rw [e, ← Nat.mul_assoc, ← Nat.mul_assoc, Nat.add_mul_div_right _ _ (Nat.two_pow_pos _)]
    rw [Nat.add_mul_mod_self_right]
  · rfl
theorem and_mask (x k : Nat) : x &&& (2 ^ k - 1) = x % 2 ^ k := Nat.and_two_pow_sub_one_eq_mod x k
end BitsM

/- Plain facts on lists of bits, the lowest of each byte first. -/
set_option linter.unusedVariables false
namespace BitsM
open Vc
def num : List Bool → Nat
  | [] => 0
  | b :: r => b.toNat + 2 * num r
theorem num_lt : ∀ l : List Bool, num l < 2 ^ l.length
  | [] => by simp [num]
  | b :: r => by
    have h := num_lt r
    have hb : b.toNat ≤ 1 := Bool.toNat_le b
    simp only [num, List.length_cons, Nat.pow_succ]; omega
theorem num_append : ∀ l r : List Bool, num (l ++ r) = num l + 2 ^ l.length * num r
  | [], r => by simp [num]
  | b :: l, r => by
    simp only [List.cons_append, num, num_append l r, List.length_cons, Nat.pow_succ]
    rw [Nat.mul_add, ← Nat.mul_assoc, Nat.mul_comm 2 (2 ^ l.length)]; omega
theorem num_drop (l : List Bool) (k : Nat) : num (l.drop k) = num l / 2 ^ k := by
  rcases Nat.lt_or_ge l.length k with h | h
  · rw [List.drop_eq_nil_of_le (by omega)]
    have h1 := num_lt l
    have h2 : 2 ^ l.length ≤ 2 ^ k := Nat.pow_le_pow_right (by decide) (by omega)
    rw [Nat.div_eq_of_lt (by omega)]; rfl
  · have h1 := num_append (l.take k) (l.drop k)
    rw [List.take_append_drop] at h1
    have h2 := num_lt (l.take k)
    rw [List.length_take, Nat.min_eq_left h] at h1 h2
    rw [h1, Nat.add_mul_div_left _ _ (Nat.two_pow_pos k), Nat.div_eq_of_lt h2, Nat.zero_add]
theorem num_take (l : List Bool) (k : Nat) : num (l.take k) = num l % 2 ^ k := by
  rcases Nat.lt_or_ge l.length k with h | h
  · rw [List.take_of_length_le (by omega)]
    have h1 := num_lt l
    have h2 : 2 ^ l.length ≤ 2 ^ k := Nat.pow_le_pow_right (by decide) (by omega)
    rw [Nat.mod_eq_of_lt (by omega)]
  · have h1 := num_append (l.take k) (l.drop k)
    rw [List.take_append_drop] at h1
    have h2 := num_lt (l.take k)
    rw [List.length_take, Nat.min_eq_left h] at h1 h2
    rw [h1, Nat.add_mul_mod_self_left, Nat.mod_eq_of_lt h2]
/-- The lowest n bits of x. -/
def lowB : Nat → Nat → List Bool
  | 0, _ => []
  | n + 1, x => (x % 2 == 1) :: lowB n (x / 2)
theorem lowB_length : ∀ n x, (lowB n x).length = n
  | 0, _ => rfl
  | n + 1, x => by simp [lowB, lowB_length n]
theorem num_lowB : ∀ n x, num (lowB n x) = x % 2 ^ n
  | 0, x => by simp [lowB, num, Nat.mod_one]
  | n + 1, x => by
    simp only [lowB, num, num_lowB n (x / 2)]
    rw [Nat.pow_succ', Nat.mod_mul]
    have : (x % 2 == 1).toNat = x % 2 := by rcases Nat.mod_two_eq_zero_or_one x with h | h <;> simp [h]
    omega
theorem lowB_get : ∀ (n x i : Nat), i < n → (lowB n x)[i]? = some (x.testBit i)
  | n + 1, x, 0, _ => by simp [lowB, Nat.testBit_zero]; rfl
  | n + 1, x, i + 1, h => by simp only [lowB, List.getElem?_cons_succ, lowB_get n (x / 2) i (by omega), Nat.testBit_succ]
/-- The bits of a text. -/
def sbits : List UInt8 → List Bool
  | [] => []
  | c :: r => lowB 8 c.toNat ++ sbits r
theorem sbits_length : ∀ l, (sbits l).length = 8 * l.length
  | [] => rfl
  | c :: r => by simp only [sbits, List.length_append, lowB_length, sbits_length r, List.length_cons]; omega
theorem sbits_append : ∀ l r, sbits (l ++ r) = sbits l ++ sbits r
  | [], r => rfl
  | c :: l, r => by simp [sbits, sbits_append l r]
theorem sbits_drop : ∀ (l : List UInt8) (k : Nat), sbits (l.drop k) = (sbits l).drop (8 * k)
  | l, 0 => by simp
  | [], k + 1 => by simp [sbits]
  | c :: l, k + 1 => by
    simp only [List.drop_succ_cons, sbits, sbits_drop l k]
    rw [show 8 * (k + 1) = (lowB 8 c.toNat).length + 8 * k by rw [lowB_length]; omega, ← List.drop_drop, List.drop_left]
theorem num_sbits_take (s : ByteArray) : ∀ n, n ≤ s.size → num (sbits (s.data.toList.take n)) = V s n
  | 0, _ => rfl
  | n + 1, h => by
    have hlt : n < s.data.toList.length := by simp only [Array.length_toList]; exact h
    rw [List.take_succ_eq_append_getElem hlt, sbits_append, num_append, num_sbits_take s n (by omega), sbits_length, List.length_take, Nat.min_eq_left (by omega)]
    have hb : byt s n = (s.data.toList[n]).toNat := by unfold byt; rw [List.getElem?_eq_getElem hlt]; rfl
    simp only [V, sbits, List.append_nil, num_lowB, hb]
    have := (s.data.toList[n]).toNat_lt
    rw [Nat.mod_eq_of_lt (by omega), Nat.mul_comm]
theorem num_sbits (s : ByteArray) : num (sbits s.data.toList) = V s s.size := by
  have := num_sbits_take s s.size (Nat.le_refl _)
  rwa [List.take_of_length_le (by simp)] at this
/-- The next k bits by the list. -/
theorem nbits_list (s : ByteArray) (pos k : Nat) : nbits s pos k = num (((sbits s.data.toList).drop pos).take k) := by
  rw [num_take, num_drop, num_sbits]; rfl
end BitsM

/- Plain facts on codes: bits with the highest first, no code begins another one, what reading comes to. -/
set_option linter.unusedVariables false
namespace HuffM
open BitsM
/-- The number of some bits, the highest first. -/
def hv (l : List Bool) : Nat := num l.reverse
theorem hv_snoc (l : List Bool) (b : Bool) : hv (l ++ [b]) = 2 * hv l + b.toNat := by
  simp only [hv, List.reverse_append, List.reverse_cons, List.reverse_nil, List.nil_append, List.singleton_append, num]; omega
theorem hv_lt (l : List Bool) : hv l < 2 ^ l.length := by have := num_lt l.reverse; rwa [List.length_reverse] at this
theorem hv_take (l : List Bool) {m n : Nat} (hm : m ≤ n) (hn : n ≤ l.length) : hv (l.take m) = hv (l.take n) / 2 ^ (n - m) := by
  have h1 : l.take m = (l.take n).take m := by rw [List.take_take, Nat.min_eq_left hm]
  rw [h1, hv, hv, List.reverse_take, List.length_take, Nat.min_eq_left hn, num_drop]
/-- A symbol's code, bit by bit, the highest first. -/
def cbits (ls : List Nat) (s : Nat) : List Bool := (lowB (ls.getD s 0) (code ls s)).reverse
theorem cbits_length (ls : List Nat) (s : Nat) : (cbits ls s).length = ls.getD s 0 := by simp [cbits, lowB_length]
theorem getD_of {ls : List Nat} {s n : Nat} (h : ls[s]? = some n) : ls.getD s 0 = n := by simp [h]
theorem count_take_lt {ls : List Nat} {s n : Nat} (h : ls[s]? = some n) : (ls.take s).count n < ls.count n := by
  obtain ⟨h1, h2⟩ := List.getElem?_eq_some_iff.1 h
  conv => rhs; rw [← List.take_append_drop s ls]
  rw [List.count_append, List.drop_eq_getElem_cons h1, h2]
  simp
theorem count_take_mono (ls : List Nat) (n : Nat) {s x : Nat} (h : s ≤ x) : (ls.take s).count n ≤ (ls.take x).count n := by
  have : ls.take s = (ls.take x).take s := by rw [List.take_take, Nat.min_eq_left h]
  rw [this]
  exact (List.take_sublist s (ls.take x)).count_le n
theorem count_take_step {ls : List Nat} {s n x : Nat} (h : ls[s]? = some n) (hx : s < x) : (ls.take s).count n < (ls.take x).count n := by
  have h1 := count_take_mono ls n (show s + 1 ≤ x by omega)
  obtain ⟨h2, h3⟩ := List.getElem?_eq_some_iff.1 h
  rw [List.take_succ_eq_append_getElem h2, List.count_append, h3] at h1
  simp at h1; omega
theorem code_lt {ls : List Nat} {s n : Nat} (h : ls[s]? = some n) (h1 : 1 ≤ n) : code ls s < fin ls n := by
  obtain ⟨m, rfl⟩ : ∃ m, n = m + 1 := ⟨n - 1, by omega⟩
  have := count_take_lt h
  rw [code, getD_of h, fin, Nat.add_sub_cancel]; omega
theorem code_ge {ls : List Nat} {s n : Nat} (h : ls[s]? = some n) : 2 * fin ls (n - 1) ≤ code ls s := by
  rw [code, getD_of h]; omega
/-- The codes of greater length stand above. -/
theorem code_above {ls : List Nat} {s n m : Nat} (h : ls[s]? = some n) (h1 : m < n) : fin ls m ≤ code ls s / 2 ^ (n - m) := by
  rw [Nat.le_div_iff_mul_le (Nat.two_pow_pos _)]
  have h2 := fin_double ls m (n - 1 - m)
  rw [show m + (n - 1 - m) = n - 1 by omega] at h2
  have h3 := code_ge h
  have h4 : 2 ^ (n - m) = 2 * 2 ^ (n - 1 - m) := by rw [← Nat.pow_succ']; congr 1; omega
  rw [h4, Nat.mul_comm, Nat.mul_assoc]; omega
/-- Not over-full. -/
def Fits (ls : List Nat) : Prop := fin ls 15 ≤ 32768 ∧ ∀ n ∈ ls, n ≤ 15
theorem Fits.le {ls : List Nat} (h : Fits ls) {n : Nat} (hn : n ≤ 15) : fin ls n ≤ 2 ^ n := by
  rcases Nat.lt_or_ge (2 ^ n) (fin ls n) with h1 | h1
  · have := over_later ls h1 hn
    have := h.1
    omega
  · exact h1
theorem Fits.mem {ls : List Nat} (h : Fits ls) {s n : Nat} (hs : ls[s]? = some n) : n ≤ 15 := h.2 n (List.mem_of_getElem? hs)
theorem hv_cbits {ls : List Nat} (hf : Fits ls) {s n : Nat} (h : ls[s]? = some n) (h1 : 1 ≤ n) : hv (cbits ls s) = code ls s := by
  rw [cbits, hv, List.reverse_reverse, num_lowB, getD_of h]
  have := code_lt h h1
  have := hf.le (hf.mem h)
  exact Nat.mod_eq_of_lt (by omega)
/-- The symbol s, of n bits, stands at the front of b. -/
def At (ls : List Nat) (b : List Bool) (s n : Nat) : Prop := ls[s]? = some n ∧ 1 ≤ n ∧ n ≤ b.length ∧ hv (b.take n) = code ls s
theorem At.one {ls : List Nat} {b : List Bool} {s n x m : Nat} (h : At ls b s n) (h' : At ls b x m) : s = x ∧ n = m := by
  have key : ∀ {s n x m}, At ls b s n → At ls b x m → ¬ m < n := by
    intro s n x m h h' hlt
    have h1 := hv_take b (Nat.le_of_lt hlt) h.2.2.1
    rw [h.2.2.2, h'.2.2.2] at h1
    have h2 := code_above h.1 hlt
    have h3 := code_lt h'.1 h'.2.1
    omega
  have hn : n = m := by have := key h h'; have := key h' h; omega
  subst hn
  refine ⟨?_, rfl⟩
  have h1 : code ls s = code ls x := h.2.2.2.symm.trans h'.2.2.2
  rw [code, code, getD_of h.1, getD_of h'.1] at h1
  rcases Nat.lt_trichotomy s x with h2 | h2 | h2
  · have := count_take_step h.1 h2; omega
  · exact h2
  · have := count_take_step h'.1 h2; omega
/-- The place of a number among the symbols of n bits. -/
theorem syms_code {ls : List Nat} {n k s : Nat} (h : (syms ls n)[k]? = some s) : ls[s]? = some n ∧ code ls s = 2 * fin ls (n - 1) + k := by
  obtain ⟨h1, h2⟩ := syms_get h
  exact ⟨h1, by rw [code, getD_of h1, h2]⟩
theorem sorted_get {ls : List Nat} {n k s : Nat} (hn : 1 ≤ n) (h : (syms ls n)[k]? = some s) : ∀ d, (sorted ls (n + d))[(sorted ls (n - 1)).length + k]? = some s
  | 0 => by
    obtain ⟨m, rfl⟩ : ∃ m, n = m + 1 := ⟨n - 1, by omega⟩
    rw [Nat.add_zero, Nat.add_sub_cancel, sorted, List.getElem?_append_right (by omega), Nat.add_sub_cancel_left]
    exact h
  | d + 1 => by
    have h1 := sorted_get hn h d
    rw [← Nat.add_assoc, sorted, List.getElem?_append_left (List.getElem?_eq_some_iff.1 h1).1]
    exact h1
/-- A row without a gap. -/
def Full (ls : List Nat) : Prop := fin ls 15 = 32768
theorem full_later {ls : List Nat} (hf : Full ls) {n : Nat} (hn : n ≤ 15) (h : ∀ x ∈ ls, x ≤ n) : fin ls n = 2 ^ n := by
  have key : ∀ d, fin ls (n + d) = 2 ^ d * fin ls n := by
    intro d
    induction d with
    | zero => simp
    | succ d ih =>
      have : ls.count (n + d + 1) = 0 := List.count_eq_zero.2 fun hm => by have := h _ hm; omega
      rw [← Nat.add_assoc, fin, ih, this, Nat.pow_succ]
      rw [Nat.mul_comm (2 ^ d) 2, Nat.mul_assoc]; omega
  have h1 := key (15 - n)
  rw [show n + (15 - n) = 15 by omega, hf] at h1
  have h2 : (32768 : Nat) = 2 ^ (15 - n) * 2 ^ n := by rw [← Nat.pow_add, show 15 - n + n = 15 by omega]
  rw [h2] at h1
  exact (Nat.eq_of_mul_eq_mul_left (Nat.two_pow_pos _) h1).symm
/-- A number that is not below the codes of at most n bits, but below those of at most n + d bits if it goes on with noughts, goes on to a longer one's code. -/
theorem ext_at {ls : List Nat} {n x : Nat} (h : fin ls n ≤ x) : ∀ d, x * 2 ^ d < fin ls (n + d) → ∃ s m, ls[s]? = some m ∧ n < m ∧ m ≤ n + d ∧ code ls s / 2 ^ (m - n) = x
  | 0, h1 => by simp only [Nat.pow_zero, Nat.mul_one, Nat.add_zero] at h1; omega
  | d + 1, h1 => by
    by_cases h2 : x * 2 ^ d < fin ls (n + d)
    · obtain ⟨s, m, a, b, c, e⟩ := ext_at h d h2
      exact ⟨s, m, a, b, by omega, e⟩
    · have e2 : fin ls (n + (d + 1)) = 2 * fin ls (n + d) + ls.count (n + d + 1) := rfl
      have e3 : x * 2 ^ (d + 1) = 2 * (x * 2 ^ d) := by rw [Nat.pow_succ, Nat.mul_comm (2 ^ d) 2, ← Nat.mul_assoc, Nat.mul_comm x 2, Nat.mul_assoc]
      have hk : 2 * (x * 2 ^ d) - 2 * fin ls (n + d) < (syms ls (n + d + 1)).length := by rw [syms_length]; omega
      obtain ⟨s, hs⟩ : ∃ s, (syms ls (n + d + 1))[2 * (x * 2 ^ d) - 2 * fin ls (n + d)]? = some s := ⟨_, List.getElem?_eq_getElem hk⟩
      obtain ⟨h3, h4⟩ := syms_code hs
      refine ⟨s, _, h3, by omega, by omega, ?_⟩
      rw [h4, Nat.add_sub_cancel, show n + d + 1 - n = d + 1 by omega]
      have e5 : 2 * fin ls (n + d) + (2 * (x * 2 ^ d) - 2 * fin ls (n + d)) = x * 2 ^ (d + 1) := by omega
      rw [e5, Nat.mul_div_cancel _ (Nat.two_pow_pos _)]
theorem full_ext {ls : List Nat} (hf : Full ls) {n x : Nat} (hn : n ≤ 15) (h : fin ls n ≤ x) (hx : x < 2 ^ n) : ∃ s m, ls[s]? = some m ∧ n < m ∧ m ≤ 15 ∧ code ls s / 2 ^ (m - n) = x := by
  have h1 := ext_at h (15 - n) (by
    rw [show n + (15 - n) = 15 by omega, hf, show (32768 : Nat) = 2 ^ n * 2 ^ (15 - n) by rw [← Nat.pow_add, show n + (15 - n) = 15 by omega]]
    exact Nat.mul_lt_mul_of_pos_right hx (Nat.two_pow_pos _))
  rwa [show n + (15 - n) = 15 by omega] at h1
end HuffM

/- Formulas of 9 Go functions of this seat (written by a program of the author's, vcgen.py), and that each is enough for the call. No condition. -/
set_option linter.unusedVariables false
namespace Go.Proofs.YtaaimcbicpgjoaaGreatDoor
open Go Vc Go.Proofs
set_option maxRecDepth 100000
/-- (*bitin.Reader).fill -/
def vc_bitin_Reader_fill (x0 : Nat) (x1 : Int) (w : World) (R : Value → World → Prop) : Prop :=
 ∃ I1 : World → Prop, ∃ I2 : World → Nat, (I1 w ∧
 ∀ w3 : World,
 (I1 w3 →
 ∃ n4 : Int, (World.cell? w3 (Addr.mk x0 3 none) = some (Value.int IntKind.i64 n4) ∧
 (((decide (n4 < x1) = true →
 ∃ n5 : Int, (World.cell? w3 (Addr.mk x0 1 none) = some (Value.int IntKind.i64 n5) ∧
 ∃ s6 : ByteArray, (World.cell? w3 (Addr.mk x0 0 none) = some (Value.string s6) ∧
 ∀ w7 : World,
 (Drew w3 w7 →
 (((decide (n5 < (↑(ByteArray.size s6) : Int)) = true →
 ∀ w8 : World,
 (Drew w7 w8 →
 ∃ n9 : Int, (World.cell? w8 (Addr.mk x0 2 none) = some (Value.int IntKind.u64 n9) ∧
 ∃ s10 : ByteArray, (World.cell? w8 (Addr.mk x0 0 none) = some (Value.string s10) ∧
 ∃ n11 : Int, (World.cell? w8 (Addr.mk x0 1 none) = some (Value.int IntKind.i64 n11) ∧
 ((0 ≤ n11 ∧
 n11 < (↑(ByteArray.size s10) : Int)) ∧
 ∃ n12 : Int, (World.cell? w8 (Addr.mk x0 3 none) = some (Value.int IntKind.i64 n12) ∧
 (0 ≤ n12 ∧
 (Wr w8 (Addr.mk x0 2 none) ∧
 ∀ w13 : World,
 (w13 = World.setCell w8 (Addr.mk x0 2 none) (Value.int IntKind.u64 (IntKind.wrap IntKind.u64 (↑(BitVec.toNat (BitVec.ofInt 64 n9 ||| BitVec.ofInt 64 (IntKind.wrap IntKind.u64 (IntKind.wrap IntKind.u64 (byteAt s10 n11) * 2 ^ min (Int.toNat n12) 64)))) : Int))) →
 ∃ n14 : Int, (World.cell? w13 (Addr.mk x0 1 none) = some (Value.int IntKind.i64 n14) ∧
 (Wr w13 (Addr.mk x0 1 none) ∧
 ∀ w15 : World,
 (w15 = World.setCell w13 (Addr.mk x0 1 none) (Value.int IntKind.i64 (IntKind.wrap IntKind.i64 (n14 + 1))) →
 ∃ n16 : Int, (World.cell? w15 (Addr.mk x0 3 none) = some (Value.int IntKind.i64 n16) ∧
 (Wr w15 (Addr.mk x0 3 none) ∧
 ∀ w17 : World,
 (w17 = World.setCell w15 (Addr.mk x0 3 none) (Value.int IntKind.i64 (IntKind.wrap IntKind.i64 (n16 + 8))) →
 (I1 w17 ∧
 I2 w17 < I2 w3)))))))))))))))))) ∧
 (decide (n5 < (↑(ByteArray.size s6) : Int)) = false →
 R (Value.tuple (Array.mk [])) w7))))))) ∧
 (decide (n4 < x1) = false →
 ∀ w18 : World,
 (Drew w3 w18 →
 R (Value.tuple (Array.mk [])) w18))))))
theorem vc_bitin_Reader_fill_ok {x0 : Nat} {x1 : Int} {w : World} {R : Value → World → Prop} {R' : Ending → World → Prop} (h : vc_bitin_Reader_fill x0 x1 w R) (hR : ∀ v w', R v w' → R' (.returned v) w') :
    Calls Tryz.prog 125 #[.pointer (some ⟨x0, 0, none⟩), .int .i64 x1] w R' :=
  calls_of_body (vs := [(.pointer (some ⟨x0, 0, none⟩), true), (.int .i64 x1, false)]) (ty := ty) (ann := ⟨[], [(0, [])], [(0, .quiet), (1, .tail 22)], []⟩) (c := Tryz.f125.body.getD .skip) (by kernel_rfl) Tryz.func125 (by kernel_rfl) (by kernel_rfl) (Eq.mp (by kernel_rfl) h) hR
/-- (*bitin.Reader).Left -/
def vc_bitin_Reader_Left (x0 : Nat) (w : World) (R : Value → World → Prop) : Prop :=
 ∃ s1 : ByteArray, (World.cell? w (Addr.mk x0 0 none) = some (Value.string s1) ∧
 ∃ n2 : Int, (World.cell? w (Addr.mk x0 1 none) = some (Value.int IntKind.i64 n2) ∧
 ∃ n3 : Int, (World.cell? w (Addr.mk x0 3 none) = some (Value.int IntKind.i64 n3) ∧
 ∀ w4 : World,
 (Drew w w4 →
 R (Value.int IntKind.i64 (IntKind.wrap IntKind.i64 (IntKind.wrap IntKind.i64 (8 * IntKind.wrap IntKind.i64 ((↑(ByteArray.size s1) : Int) - n2)) + n3))) w4))))
theorem vc_bitin_Reader_Left_ok {x0 : Nat} {w : World} {R : Value → World → Prop} {R' : Ending → World → Prop} (h : vc_bitin_Reader_Left x0 w R) (hR : ∀ v w', R v w' → R' (.returned v) w') :
    Calls Tryz.prog 119 #[.pointer (some ⟨x0, 0, none⟩)] w R' :=
  calls_of_body (vs := [(.pointer (some ⟨x0, 0, none⟩), true)]) (ty := ty) (ann := ⟨[], [], [(1, .quiet)], []⟩) (c := Tryz.f119.body.getD .skip) (by kernel_rfl) Tryz.func119 (by kernel_rfl) (by kernel_rfl) (Eq.mp (by kernel_rfl) h) hR
/-- (*bitin.Reader).Peek -/
def vc_bitin_Reader_Peek (x0 : Nat) (x1 : Int) (w : World) (R : Value → World → Prop) : Prop :=
 (((decide (x1 < 0) = true →
 R (Value.tuple (Array.mk [Value.int IntKind.u32 0, Value.int IntKind.i64 0])) w)) ∧
 (decide (x1 < 0) = false →
 (((decide (x1 > 32) = true →
 R (Value.tuple (Array.mk [Value.int IntKind.u32 0, Value.int IntKind.i64 0])) w)) ∧
 (decide (x1 > 32) = false →
 Calls Tryz.prog (125 : Nat) (Array.mk [Value.pointer (some (Addr.mk x0 0 none)), Value.int IntKind.i64 x1]) (w) (fun e1 w2 =>
 (e1 = Ending.returned (Value.tuple (Array.mk [])) ∧
 ∃ n3 : Int, (World.cell? w2 (Addr.mk x0 2 none) = some (Value.int IntKind.u64 n3) ∧
 (0 ≤ x1 ∧
 ∃ n4 : Int, (World.cell? w2 (Addr.mk x0 3 none) = some (Value.int IntKind.i64 n4) ∧
 ∀ w5 : World,
 (Drew w2 w5 →
 (R (Value.tuple (Array.mk [Value.int IntKind.u32 (IntKind.wrap IntKind.u32 (IntKind.wrap IntKind.u64 (↑(BitVec.toNat (BitVec.ofInt 64 n3 &&& BitVec.ofInt 64 (IntKind.wrap IntKind.u64 (IntKind.wrap IntKind.u64 (1 * 2 ^ min (Int.toNat x1) 64) - 1)))) : Int))), Value.int IntKind.i64 (if n4 < x1 then n4 else x1)])) w5)))))))))))
theorem vc_bitin_Reader_Peek_ok {x0 : Nat} {x1 : Int} {w : World} {R : Value → World → Prop} {R' : Ending → World → Prop} (h : vc_bitin_Reader_Peek x0 x1 w R) (hR : ∀ v w', R v w' → R' (.returned v) w') :
    Calls Tryz.prog 115 #[.pointer (some ⟨x0, 0, none⟩), .int .i64 x1] w R' :=
  calls_of_body (vs := [(.pointer (some ⟨x0, 0, none⟩), true), (.int .i64 x1, false)]) (ty := ty) (ann := ⟨[], [], [(4, .quiet)], []⟩) (c := Tryz.f115.body.getD .skip) (by kernel_rfl) Tryz.func115 (by kernel_rfl) (by kernel_rfl) (Eq.mp (by kernel_rfl) h) hR
/-- bitin.New -/
def vc_bitin_New (x0 : ByteArray) (x1 : Int) (w : World) (R : Value → World → Prop) : Prop :=
 ∀ w1 : World,
 ((w1 = World.alloc w (Obj.cells (Array.mk [Value.string x0, Value.int IntKind.i64 (if (if (↑(ByteArray.size x0) : Int) < x1 then (↑(ByteArray.size x0) : Int) else x1) > 0 then if (↑(ByteArray.size x0) : Int) < x1 then (↑(ByteArray.size x0) : Int) else x1 else 0), Value.int IntKind.u64 0, Value.int IntKind.i64 0, Value.int IntKind.i64 (if (if (↑(ByteArray.size x0) : Int) < x1 then (↑(ByteArray.size x0) : Int) else x1) > 0 then if (↑(ByteArray.size x0) : Int) < x1 then (↑(ByteArray.size x0) : Int) else x1 else 0)]) 160)) →
 R (Value.pointer (some (Addr.mk (Array.size (World.heap w)) 0 none))) w1)
theorem vc_bitin_New_ok {x0 : ByteArray} {x1 : Int} {w : World} {R : Value → World → Prop} {R' : Ending → World → Prop} (h : vc_bitin_New x0 x1 w R) (hR : ∀ v w', R v w' → R' (.returned v) w') :
    Calls Tryz.prog 87 #[.string x0, .int .i64 x1] w R' :=
  calls_of_body (vs := [(.string x0, false), (.int .i64 x1, false)]) (ty := ty) (ann := ⟨[], [], [], []⟩) (c := Tryz.f87.body.getD .skip) (by kernel_rfl) Tryz.func87 (by kernel_rfl) (by kernel_rfl) (Eq.mp (by kernel_rfl) h) hR
/-- (*bitin.Reader).Bits -/
def vc_bitin_Reader_Bits (x0 : Nat) (x1 : Int) (w : World) (R : Value → World → Prop) : Prop :=
 Calls Tryz.prog (115 : Nat) (Array.mk [Value.pointer (some (Addr.mk x0 0 none)), Value.int IntKind.i64 x1]) (w) (fun e1 w2 =>
 ∃ n3 : Int, ∃ n4 : Int, (e1 = Ending.returned (Value.tuple (Array.mk [Value.int IntKind.u32 n3, Value.int IntKind.i64 n4])) ∧
 Calls Tryz.prog (116 : Nat) (Array.mk [Value.pointer (some (Addr.mk x0 0 none)), Value.int IntKind.i64 x1]) (w2) (fun e5 w6 =>
 ∃ b7 : Bool, (e5 = Ending.returned (Value.bool b7) ∧
 ((((!b7) = true →
 R (Value.tuple (Array.mk [Value.int IntKind.u32 0, Value.bool false])) w6)) ∧
 ((!b7) = false →
 R (Value.tuple (Array.mk [Value.int IntKind.u32 n3, Value.bool true])) w6))))))
theorem vc_bitin_Reader_Bits_ok {x0 : Nat} {x1 : Int} {w : World} {R : Value → World → Prop} {R' : Ending → World → Prop} (h : vc_bitin_Reader_Bits x0 x1 w R) (hR : ∀ v w', R v w' → R' (.returned v) w') :
    Calls Tryz.prog 103 #[.pointer (some ⟨x0, 0, none⟩), .int .i64 x1] w R' :=
  calls_of_body (vs := [(.pointer (some ⟨x0, 0, none⟩), true), (.int .i64 x1, false)]) (ty := ty) (ann := ⟨[], [], [], []⟩) (c := Tryz.f103.body.getD .skip) (by kernel_rfl) Tryz.func103 (by kernel_rfl) (by kernel_rfl) (Eq.mp (by kernel_rfl) h) hR
/-- (*bitin.Reader).Skip -/
def vc_bitin_Reader_Skip (x0 : Nat) (x1 : Int) (w : World) (R : Value → World → Prop) : Prop :=
 (((decide (x1 < 0) = true →
 R (Value.bool false) w)) ∧
 (decide (x1 < 0) = false →
 (((decide (x1 > 32) = true →
 R (Value.bool false) w)) ∧
 (decide (x1 > 32) = false →
 Calls Tryz.prog (125 : Nat) (Array.mk [Value.pointer (some (Addr.mk x0 0 none)), Value.int IntKind.i64 x1]) (w) (fun e1 w2 =>
 (e1 = Ending.returned (Value.tuple (Array.mk [])) ∧
 ∃ n3 : Int, (World.cell? w2 (Addr.mk x0 3 none) = some (Value.int IntKind.i64 n3) ∧
 (((decide (n3 < x1) = true →
 R (Value.bool false) w2)) ∧
 (decide (n3 < x1) = false →
 ∃ n4 : Int, (World.cell? w2 (Addr.mk x0 2 none) = some (Value.int IntKind.u64 n4) ∧
 (0 ≤ x1 ∧
 (Wr w2 (Addr.mk x0 2 none) ∧
 ∀ w5 : World,
 (w5 = World.setCell w2 (Addr.mk x0 2 none) (Value.int IntKind.u64 (Int.fdiv n4 (2 ^ min (Int.toNat x1) 64))) →
 ∃ n6 : Int, (World.cell? w5 (Addr.mk x0 3 none) = some (Value.int IntKind.i64 n6) ∧
 (Wr w5 (Addr.mk x0 3 none) ∧
 ∀ w7 : World,
 (w7 = World.setCell w5 (Addr.mk x0 3 none) (Value.int IntKind.i64 (IntKind.wrap IntKind.i64 (n6 - x1))) →
 R (Value.bool true) w7))))))))))))))))
theorem vc_bitin_Reader_Skip_ok {x0 : Nat} {x1 : Int} {w : World} {R : Value → World → Prop} {R' : Ending → World → Prop} (h : vc_bitin_Reader_Skip x0 x1 w R) (hR : ∀ v w', R v w' → R' (.returned v) w') :
    Calls Tryz.prog 116 #[.pointer (some ⟨x0, 0, none⟩), .int .i64 x1] w R' :=
  calls_of_body (vs := [(.pointer (some ⟨x0, 0, none⟩), true), (.int .i64 x1, false)]) (ty := ty) (ann := ⟨[], [], [], []⟩) (c := Tryz.f116.body.getD .skip) (by kernel_rfl) Tryz.func116 (by kernel_rfl) (by kernel_rfl) (Eq.mp (by kernel_rfl) h) hR
/-- (*bitin.Reader).Used -/
def vc_bitin_Reader_Used (x0 : Nat) (w : World) (R : Value → World → Prop) : Prop :=
 ∃ n1 : Int, (World.cell? w (Addr.mk x0 1 none) = some (Value.int IntKind.i64 n1) ∧
 ∃ n2 : Int, (World.cell? w (Addr.mk x0 3 none) = some (Value.int IntKind.i64 n2) ∧
 ((8 : Int) ≠ (0 : Int) ∧
 ∃ n3 : Int, (World.cell? w (Addr.mk x0 4 none) = some (Value.int IntKind.i64 n3) ∧
 ∀ w4 : World,
 (Drew w w4 →
 R (Value.int IntKind.i64 (IntKind.wrap IntKind.i64 (IntKind.wrap IntKind.i64 (n1 - IntKind.wrap IntKind.i64 (Int.tdiv n2 8)) - n3))) w4)))))
theorem vc_bitin_Reader_Used_ok {x0 : Nat} {w : World} {R : Value → World → Prop} {R' : Ending → World → Prop} (h : vc_bitin_Reader_Used x0 w R) (hR : ∀ v w', R v w' → R' (.returned v) w') :
    Calls Tryz.prog 89 #[.pointer (some ⟨x0, 0, none⟩)] w R' :=
  calls_of_body (vs := [(.pointer (some ⟨x0, 0, none⟩), true)]) (ty := ty) (ann := ⟨[], [], [(1, .quiet)], []⟩) (c := Tryz.f89.body.getD .skip) (by kernel_rfl) Tryz.func89 (by kernel_rfl) (by kernel_rfl) (Eq.mp (by kernel_rfl) h) hR
/-- (*bitin.Reader).Align -/
def vc_bitin_Reader_Align (x0 : Nat) (w : World) (R : Value → World → Prop) : Prop :=
 ∃ n1 : Int, (World.cell? w (Addr.mk x0 3 none) = some (Value.int IntKind.i64 n1) ∧
 ((8 : Int) ≠ (0 : Int) ∧
 ∃ n2 : Int, (World.cell? w (Addr.mk x0 2 none) = some (Value.int IntKind.u64 n2) ∧
 (0 ≤ Int.tmod n1 8 ∧
 (Wr w (Addr.mk x0 2 none) ∧
 ∀ w3 : World,
 (w3 = World.setCell w (Addr.mk x0 2 none) (Value.int IntKind.u64 (Int.fdiv n2 (2 ^ min (Int.toNat (Int.tmod n1 8)) 64))) →
 ∃ n4 : Int, (World.cell? w3 (Addr.mk x0 3 none) = some (Value.int IntKind.i64 n4) ∧
 (Wr w3 (Addr.mk x0 3 none) ∧
 ∀ w5 : World,
 (w5 = World.setCell w3 (Addr.mk x0 3 none) (Value.int IntKind.i64 (IntKind.wrap IntKind.i64 (n4 - Int.tmod n1 8))) →
 R (Value.tuple (Array.mk [])) w5)))))))))
theorem vc_bitin_Reader_Align_ok {x0 : Nat} {w : World} {R : Value → World → Prop} {R' : Ending → World → Prop} (h : vc_bitin_Reader_Align x0 w R) (hR : ∀ v w', R v w' → R' (.returned v) w') :
    Calls Tryz.prog 126 #[.pointer (some ⟨x0, 0, none⟩)] w R' :=
  calls_of_body (vs := [(.pointer (some ⟨x0, 0, none⟩), true)]) (ty := ty) (ann := ⟨[], [], [], []⟩) (c := Tryz.f126.body.getD .skip) (by kernel_rfl) Tryz.func126 (by kernel_rfl) (by kernel_rfl) (Eq.mp (by kernel_rfl) h) hR
/-- (*bitin.Reader).Bytes -/
def vc_bitin_Reader_Bytes (x0 : Nat) (x1 : Int) (w : World) (R : Value → World → Prop) : Prop :=
 Calls Tryz.prog (126 : Nat) (Array.mk [Value.pointer (some (Addr.mk x0 0 none))]) (w) (fun e1 w2 =>
 (e1 = Ending.returned (Value.tuple (Array.mk [])) ∧
 ∃ n3 : Int, (World.cell? w2 (Addr.mk x0 1 none) = some (Value.int IntKind.i64 n3) ∧
 ∃ n4 : Int, (World.cell? w2 (Addr.mk x0 3 none) = some (Value.int IntKind.i64 n4) ∧
 ((8 : Int) ≠ (0 : Int) ∧
 ∀ w5 : World,
 (Drew w2 w5 →
 (((decide (x1 < 0) = true →
 R (Value.tuple (Array.mk [Value.string (ByteArray.mk (Array.mk [])), Value.bool false])) w5)) ∧
 (decide (x1 < 0) = false →
 ∃ s6 : ByteArray, (World.cell? w5 (Addr.mk x0 0 none) = some (Value.string s6) ∧
 (((decide (x1 > IntKind.wrap IntKind.i64 ((↑(ByteArray.size s6) : Int) - IntKind.wrap IntKind.i64 (n3 - IntKind.wrap IntKind.i64 (Int.tdiv n4 8)))) = true →
 R (Value.tuple (Array.mk [Value.string (ByteArray.mk (Array.mk [])), Value.bool false])) w5)) ∧
 (decide (x1 > IntKind.wrap IntKind.i64 ((↑(ByteArray.size s6) : Int) - IntKind.wrap IntKind.i64 (n3 - IntKind.wrap IntKind.i64 (Int.tdiv n4 8)))) = false →
 (Wr w5 (Addr.mk x0 1 none) ∧
 ∀ w7 : World,
 (w7 = World.setCell w5 (Addr.mk x0 1 none) (Value.int IntKind.i64 (IntKind.wrap IntKind.i64 (IntKind.wrap IntKind.i64 (n3 - IntKind.wrap IntKind.i64 (Int.tdiv n4 8)) + x1))) →
 (Wr w7 (Addr.mk x0 2 none) ∧
 ∀ w8 : World,
 (w8 = World.setCell w7 (Addr.mk x0 2 none) (Value.int IntKind.u64 0) →
 (Wr w8 (Addr.mk x0 3 none) ∧
 ∀ w9 : World,
 (w9 = World.setCell w8 (Addr.mk x0 3 none) (Value.int IntKind.i64 0) →
 ∃ s10 : ByteArray, (World.cell? w9 (Addr.mk x0 0 none) = some (Value.string s10) ∧
 ((0 ≤ IntKind.wrap IntKind.i64 (n3 - IntKind.wrap IntKind.i64 (Int.tdiv n4 8)) ∧
 (IntKind.wrap IntKind.i64 (n3 - IntKind.wrap IntKind.i64 (Int.tdiv n4 8)) ≤ IntKind.wrap IntKind.i64 (IntKind.wrap IntKind.i64 (n3 - IntKind.wrap IntKind.i64 (Int.tdiv n4 8)) + x1) ∧
 IntKind.wrap IntKind.i64 (IntKind.wrap IntKind.i64 (n3 - IntKind.wrap IntKind.i64 (Int.tdiv n4 8)) + x1) ≤ (↑(ByteArray.size s10) : Int))) ∧
 R (Value.tuple (Array.mk [Value.string (ByteArray.extract s10 (Int.toNat (IntKind.wrap IntKind.i64 (n3 - IntKind.wrap IntKind.i64 (Int.tdiv n4 8)))) (Int.toNat (IntKind.wrap IntKind.i64 (IntKind.wrap IntKind.i64 (n3 - IntKind.wrap IntKind.i64 (Int.tdiv n4 8)) + x1)))), Value.bool true])) w9)))))))))))))))))))
theorem vc_bitin_Reader_Bytes_ok {x0 : Nat} {x1 : Int} {w : World} {R : Value → World → Prop} {R' : Ending → World → Prop} (h : vc_bitin_Reader_Bytes x0 x1 w R) (hR : ∀ v w', R v w' → R' (.returned v) w') :
    Calls Tryz.prog 117 #[.pointer (some ⟨x0, 0, none⟩), .int .i64 x1] w R' :=
  calls_of_body (vs := [(.pointer (some ⟨x0, 0, none⟩), true), (.int .i64 x1, false)]) (ty := ty) (ann := ⟨[], [], [(2, .quiet)], []⟩) (c := Tryz.f117.body.getD .skip) (by kernel_rfl) Tryz.func117 (by kernel_rfl) (by kernel_rfl) (Eq.mp (by kernel_rfl) h) hR
end Go.Proofs.YtaaimcbicpgjoaaGreatDoor

/- What each method of the bit reader does, for every reader that is in order. Conditions: the text is no longer than a Go string can be, the number of bits is from 0 to 32 where it is asked. -/
set_option linter.unusedVariables false
namespace Go.Proofs.YtaaimcbicpgjoaaGreatDoor
open Go Vc BitsM Go.Proofs

/-- A reader's block. -/
abbrev RdO (s : ByteArray) (at_ pos : Nat) (from_ : Int) : Obj :=
  .cells #[.string s, .int .i64 at_, .int .u64 (held s at_ pos), .int .i64 ((8 * at_ - pos : Nat) : Int), .int .i64 from_] T_bitin_Reader
structure RdAt (w : World) (b : Nat) (s : ByteArray) (pos : Nat) (from_ : Int) (at_ : Nat) : Prop where
  lo : pos ≤ 8 * at_
  hi : 8 * at_ ≤ pos + 39
  sz : at_ ≤ s.size
  ok : s.size ≤ 140737488351232
  blk : w.heap[b]? = some (RdO s at_ pos from_)
section
variable {w w2 : World} {b : Nat} {s : ByteArray} {pos : Nat} {from_ : Int} {at_ : Nat}
theorem RdAt.c0 (h : RdAt w b s pos from_ at_) : w.cell? ⟨b, 0, none⟩ = some (.string s) := by rw [cell_blk h.blk]; rfl
theorem RdAt.c1 (h : RdAt w b s pos from_ at_) : w.cell? ⟨b, 1, none⟩ = some (.int .i64 at_) := by rw [cell_blk h.blk]; rfl
theorem RdAt.c2 (h : RdAt w b s pos from_ at_) : w.cell? ⟨b, 2, none⟩ = some (.int .u64 (held s at_ pos)) := by rw [cell_blk h.blk]; rfl
theorem RdAt.c3 (h : RdAt w b s pos from_ at_) : w.cell? ⟨b, 3, none⟩ = some (.int .i64 ((8 * at_ - pos : Nat) : Int)) := by rw [cell_blk h.blk]; rfl
theorem RdAt.c4 (h : RdAt w b s pos from_ at_) : w.cell? ⟨b, 4, none⟩ = some (.int .i64 from_) := by rw [cell_blk h.blk]; rfl
theorem RdAt.drew (h : RdAt w b s pos from_ at_) (d : Drew w w2) : RdAt w2 b s pos from_ at_ := ⟨h.lo, h.hi, h.sz, h.ok, by rw [d.heap]; exact h.blk⟩
theorem RdAt.held64 (h : RdAt w b s pos from_ at_) : held s at_ pos < 2 ^ 39 :=
  Nat.lt_of_lt_of_le (held_lt s at_ pos h.lo) (Nat.pow_le_pow_right (by decide) (by have := h.hi; omega))
theorem RdAt.keep (h : RdAt w b s pos from_ at_) {X : Nat → Prop} (hf : Fr X w w2) (hx : ¬ X b) : RdAt w2 b s pos from_ at_ := ⟨h.lo, h.hi, h.sz, h.ok, hf.keep h.blk hx⟩
end

def cellNat (w : World) (a : Addr) : Nat := match w.cell? a with
  | some (.int _ n) => n.toNat
  | _ => 0

theorem fill_or {s : ByteArray} {at_ pos : Nat} (hlo : pos ≤ 8 * at_) (hhi : 8 * at_ ≤ pos + 39) :
    IntKind.u64.wrap (↑((BitVec.ofInt 64 ((held s at_ pos : Nat) : Int) ||| BitVec.ofInt 64 (IntKind.u64.wrap (IntKind.u64.wrap ((byt s at_ : Nat) : Int) * 2 ^ min ((8 * at_ - pos : Nat) : Int).toNat 64))).toNat) : Int) = ((held s (at_ + 1) pos : Nat) : Int) := by
  have hb := byt_lt s at_
  have h1 : held s at_ pos < 2 ^ 64 := Nat.lt_of_lt_of_le (held_lt s at_ pos hlo) (Nat.pow_le_pow_right (by decide) (by omega))
  rw [wrap_u64 (x := ((byt s at_ : Nat) : Int)) (by omega) (by omega)]
  have hm : min ((8 * at_ - pos : Nat) : Int).toNat 64 = 8 * at_ - pos := by simp only [Int.toNat_natCast]; omega
  rw [hm]
  have hp : 2 ^ (8 * at_ - pos) ≤ 2 ^ 39 := Nat.pow_le_pow_right (by decide) (by omega)
  have hx : byt s at_ * 2 ^ (8 * at_ - pos) < 2 ^ 64 := by
    have : byt s at_ * 2 ^ (8 * at_ - pos) ≤ 255 * 2 ^ 39 := Nat.mul_le_mul (by omega) hp
    omega
  have hcast : ((byt s at_ : Nat) : Int) * 2 ^ (8 * at_ - pos) = ((byt s at_ * 2 ^ (8 * at_ - pos) : Nat) : Int) := by push_cast; rfl
  rw [hcast, wrap_u64 (x := ((byt s at_ * 2 ^ (8 * at_ - pos) : Nat) : Int)) (by omega) (by omega), or_nat 64 _ _ h1 hx, held_or s at_ pos hlo]
  have := held_lt s (at_ + 1) pos (by omega)
  have h3 : 2 ^ (8 * (at_ + 1) - pos) ≤ 2 ^ 47 := Nat.pow_le_pow_right (by decide) (by omega)
  exact wrap_u64 (by omega) (by omega)

theorem fill_spec {b : Nat} {s : ByteArray} {pos : Nat} {from_ : Int} {at_ : Nat} {w : World} (h : RdAt w b s pos from_ at_) {n : Int} (h0 : 0 ≤ n) (hn : n ≤ 32) :
    Calls Tryz.prog F_bitin_Reader_fill #[.pointer (some ⟨b, 0, none⟩), .int .i64 n] w fun e w' => e = .returned (.tuple #[]) ∧
      ∃ at1, RdAt w' b s pos from_ at1 ∧ (n ≤ ((8 * at1 - pos : Nat) : Int) ∨ at1 = s.size) ∧ Fr (· = b) w w' := by
  refine vc_bitin_Reader_fill_ok (R := fun v w' => v = .tuple #[] ∧ ∃ at1, RdAt w' b s pos from_ at1 ∧ (n ≤ ((8 * at1 - pos : Nat) : Int) ∨ at1 = s.size) ∧ Fr (· = b) w w') ?_ (fun v w' h => ⟨by rw [h.1], h.2⟩)
  refine ⟨fun wr => ∃ at1, RdAt wr b s pos from_ at1 ∧ Fr (· = b) w wr, fun wr => s.size - cellNat wr ⟨b, 1, none⟩, ⟨at_, h, .refl _ _⟩, ?_⟩
  rintro w3 ⟨at1, h1, hf⟩
  refine ⟨_, h1.c3, fun hlt => ⟨_, h1.c1, _, h1.c0, fun w7 d7 => ⟨fun hl2 w8 d8 => ?_, fun hge => ?_⟩⟩, fun hge w18 d => ⟨rfl, at1, h1.drew d, .inl (by simpa using hge), hf.trans' (.drew _ d)⟩⟩
  · have h8 := (h1.drew d7).drew d8
    have hlt' : ((8 * at1 - pos : Nat) : Int) < n := of_decide_eq_true hlt
    have hl2' : at1 < s.size := by have := of_decide_eq_true hl2; omega
    refine ⟨_, h8.c2, _, h8.c0, _, h8.c1, ⟨by omega, by omega⟩, _, h8.c3, by omega, wr_blk h8.blk (by simp), ?_⟩
    rintro w13 rfl
    have e1 := set_blk h8.blk 2 (.int .u64 ((held s (at1 + 1) pos : Nat) : Int))
    rw [byteAt_nat, fill_or (by have := h1.lo; omega) (by have := h1.lo; omega)]
    refine ⟨((at1 : Nat) : Int), by rw [cell_blk e1]; rfl, wr_blk e1 (by simp), ?_⟩
    rintro w15 rfl
    have hat : IntKind.i64.wrap (((at1 : Nat) : Int) + 1) = ((at1 + 1 : Nat) : Int) := by rw [wrap_i64 (by have := h1.ok; omega) (by have := h1.ok; omega)]; omega
    rw [hat]
    have e2 := set_blk e1 1 (.int .i64 ((at1 + 1 : Nat) : Int))
    refine ⟨((8 * at1 - pos : Nat) : Int), by rw [cell_blk e2]; rfl, wr_blk e2 (by simp), ?_⟩
    rintro w17 rfl
    have hh : IntKind.i64.wrap (((8 * at1 - pos : Nat) : Int) + 8) = ((8 * (at1 + 1) - pos : Nat) : Int) := by
      have := h1.lo; rw [wrap_i64 (by omega) (by omega)]; omega
    rw [hh]
    have e3 := set_blk e2 3 (.int .i64 ((8 * (at1 + 1) - pos : Nat) : Int))
    have hrd : RdAt _ b s pos from_ (at1 + 1) := ⟨by have := h1.lo; omega, by have := h1.lo; omega, by omega, h1.ok, e3⟩
    refine ⟨⟨at1 + 1, hrd, ?_⟩, ?_⟩
    · exact ((((hf.trans' (.drew _ d7)).trans' (.drew _ d8)).trans' (.set _ _ _ rfl)).trans' (.set _ _ _ rfl)).trans' (.set _ _ _ rfl)
    · have c1 := hrd.c1
      have c1' := h1.c1
      simp only [cellNat, c1, c1', Int.toNat_natCast]
      omega
  · have : ¬ at1 < s.size := by have := of_decide_eq_false hge; omega
    exact ⟨rfl, at1, h1.drew d7, .inr (by have := h1.sz; omega), hf.trans' (.drew _ d7)⟩

/-- A reader in order, at bit pos. -/
def Rd (w : World) (b : Nat) (s : ByteArray) (pos : Nat) (from_ : Int) : Prop := ∃ at_, RdAt w b s pos from_ at_
theorem Rd.drew {w w2 : World} {b : Nat} {s : ByteArray} {pos : Nat} {from_ : Int} (h : Rd w b s pos from_) (d : Drew w w2) : Rd w2 b s pos from_ := h.imp fun _ h => h.drew d
theorem Rd.keep {w w2 : World} {b : Nat} {s : ByteArray} {pos : Nat} {from_ : Int} (h : Rd w b s pos from_) {X : Nat → Prop} (hf : Fr X w w2) (hx : ¬ X b) : Rd w2 b s pos from_ := h.imp fun _ h => h.keep hf hx
theorem Rd.pos_le {w : World} {b : Nat} {s : ByteArray} {pos : Nat} {from_ : Int} (h : Rd w b s pos from_) : pos ≤ 8 * s.size := by
  obtain ⟨a, h⟩ := h; have := h.lo; have := h.sz; omega
theorem Rd.lt {w : World} {b : Nat} {s : ByteArray} {pos : Nat} {from_ : Int} (h : Rd w b s pos from_) : b < w.heap.size := by obtain ⟨a, h⟩ := h; exact lt_blk h.blk

/-- How many bits are left. -/
def left (s : ByteArray) (pos : Nat) : Nat := 8 * s.size - pos

theorem left_spec {b : Nat} {s : ByteArray} {pos : Nat} {from_ : Int} {w : World} (h : Rd w b s pos from_) :
    Calls Tryz.prog F_bitin_Reader_Left #[.pointer (some ⟨b, 0, none⟩)] w fun e w' => e = .returned (.int .i64 ((left s pos : Nat) : Int)) ∧ Drew w w' := by
  obtain ⟨a, h⟩ := h
  refine vc_bitin_Reader_Left_ok (R := fun v w' => v = .int .i64 ((left s pos : Nat) : Int) ∧ Drew w w') ?_ (fun v w' h => ⟨by rw [h.1], h.2⟩)
  refine ⟨_, h.c0, _, h.c1, _, h.c3, fun w1 d => ⟨?_, d⟩⟩
  have := h.lo; have := h.hi; have := h.sz; have := h.ok
  have e1 : IntKind.i64.wrap ((s.size : Int) - (a : Int)) = (s.size : Int) - (a : Int) := wrap_i64 (by omega) (by omega)
  rw [e1]
  have e2 : IntKind.i64.wrap (8 * ((s.size : Int) - (a : Int))) = 8 * ((s.size : Int) - (a : Int)) := wrap_i64 (by omega) (by omega)
  rw [e2, wrap_i64 (by omega) (by omega)]
  unfold left
  congr 1; omega

/-- How many bytes have been begun. -/
theorem used_spec {b : Nat} {s : ByteArray} {pos : Nat} {from_ : Int} {w : World} (h : Rd w b s pos from_) (h0 : 0 ≤ from_) (h1 : from_ ≤ 140737488351232) :
    Calls Tryz.prog F_bitin_Reader_Used #[.pointer (some ⟨b, 0, none⟩)] w fun e w' => e = .returned (.int .i64 ((((pos + 7) / 8 : Nat) : Int) - from_)) ∧ Drew w w' := by
  obtain ⟨a, h⟩ := h
  refine vc_bitin_Reader_Used_ok (R := fun v w' => v = .int .i64 ((((pos + 7) / 8 : Nat) : Int) - from_) ∧ Drew w w') ?_ (fun v w' h => ⟨by rw [h.1], h.2⟩)
  refine ⟨_, h.c1, _, h.c3, by decide, _, h.c4, fun w1 d => ⟨?_, d⟩⟩
  have := h.lo; have := h.hi; have := h.sz; have := h.ok
  have e0 : Int.tdiv ((8 * a - pos : Nat) : Int) 8 = ((((8 * a - pos) / 8 : Nat)) : Int) := by
    rw [Int.tdiv_eq_ediv_of_nonneg (by omega)]; omega
  rw [e0, wrap_i64 (x := (((8 * a - pos) / 8 : Nat) : Int)) (by omega) (by omega), wrap_i64 (x := (a : Int) - _) (by omega) (by omega), wrap_i64 (by omega) (by omega)]
  congr 1; omega

theorem mask_eq (n : Nat) (h : n ≤ 32) : IntKind.u64.wrap (IntKind.u64.wrap (1 * 2 ^ min ((n : Int)).toNat 64) - 1) = ((2 ^ n - 1 : Nat) : Int) := by
  have hm : min ((n : Int)).toNat 64 = n := by omega
  have hp : 2 ^ n ≤ 2 ^ 32 := Nat.pow_le_pow_right (by decide) h
  have h1 := Nat.two_pow_pos n
  have hc : (2 : Int) ^ n = ((2 ^ n : Nat) : Int) := by push_cast; rfl
  rw [hm, Int.one_mul, hc, wrap_u64 (x := ((2 ^ n : Nat) : Int)) (by omega) (by omega), wrap_u64 (by omega) (by omega)]
  omega

/-- The next n bits: what they are, and how many there are. -/
theorem peek_spec {b : Nat} {s : ByteArray} {pos : Nat} {from_ : Int} {w : World} (h : Rd w b s pos from_) {n : Nat} (hn : n ≤ 32) :
    Calls Tryz.prog F_bitin_Reader_Peek #[.pointer (some ⟨b, 0, none⟩), .int .i64 n] w fun e w' =>
      e = .returned (.tuple #[.int .u32 ((nbits s pos n : Nat) : Int), .int .i64 ((min n (left s pos) : Nat) : Int)]) ∧ Rd w' b s pos from_ ∧ Fr (· = b) w w' := by
  obtain ⟨a, h⟩ := h
  refine vc_bitin_Reader_Peek_ok (R := fun v w' => v = .tuple #[.int .u32 ((nbits s pos n : Nat) : Int), .int .i64 ((min n (left s pos) : Nat) : Int)] ∧ Rd w' b s pos from_ ∧ Fr (· = b) w w') ?_ (fun v w' h => ⟨by rw [h.1], h.2⟩)
  refine ⟨fun hlt => absurd (of_decide_eq_true hlt) (by omega), fun _ => ⟨fun hgt => absurd (of_decide_eq_true hgt) (by omega), fun _ => ?_⟩⟩
  refine (fill_spec h (by omega) (by omega)).mono ?_
  rintro e w2 ⟨rfl, a1, h1, hc, hf⟩
  refine ⟨rfl, _, h1.c2, by omega, _, h1.c3, fun w5 d => ⟨?_, ⟨a1, h1.drew d⟩, hf.trans' (.drew _ d)⟩⟩
  have := h1.lo; have := h1.hi; have := h1.sz
  have hk := h1.held64
  have hp : 2 ^ n ≤ 2 ^ 32 := Nat.pow_le_pow_right (by decide) hn
  have hb : held s a1 pos % 2 ^ n = nbits s pos n := held_bits s a1 pos n h1.sz (by omega)
  have hl : nbits s pos n < 2 ^ n := Nat.mod_lt _ (Nat.two_pow_pos n)
  rw [mask_eq n hn, and_nat 64 _ _ (by omega) (by omega), and_mask, hb, wrap_u64 (x := ((nbits s pos n : Nat) : Int)) (by omega) (by omega), wrap_u32 (by omega) (by omega)]
  unfold left
  congr 5
  split <;> omega

/-- n bits are taken, if there are so many. -/
theorem skip_spec {b : Nat} {s : ByteArray} {pos : Nat} {from_ : Int} {w : World} (h : Rd w b s pos from_) {n : Nat} (hn : n ≤ 32) :
    Calls Tryz.prog F_bitin_Reader_Skip #[.pointer (some ⟨b, 0, none⟩), .int .i64 n] w fun e w' =>
      e = .returned (.bool (decide (n ≤ left s pos))) ∧ Rd w' b s (if n ≤ left s pos then pos + n else pos) from_ ∧ Fr (· = b) w w' := by
  obtain ⟨a, h⟩ := h
  refine vc_bitin_Reader_Skip_ok (R := fun v w' => v = .bool (decide (n ≤ left s pos)) ∧ Rd w' b s (if n ≤ left s pos then pos + n else pos) from_ ∧ Fr (· = b) w w') ?_ (fun v w' h => ⟨by rw [h.1], h.2⟩)
  refine ⟨fun hlt => absurd (of_decide_eq_true hlt) (by omega), fun _ => ⟨fun hgt => absurd (of_decide_eq_true hgt) (by omega), fun _ => ?_⟩⟩
  refine (fill_spec h (by omega) (by omega)).mono ?_
  rintro e w2 ⟨rfl, a1, h1, hc, hf⟩
  have := h1.lo; have := h1.hi; have := h1.sz
  refine ⟨rfl, _, h1.c3, fun hlt => ?_, fun hge => ?_⟩
  · have hlt := of_decide_eq_true hlt
    have hno : ¬ n ≤ left s pos := by unfold left; omega
    rw [if_neg hno, decide_eq_false hno]
    exact ⟨rfl, ⟨a1, h1⟩, hf⟩
  · have hge := of_decide_eq_false hge
    have hyes : n ≤ left s pos := by unfold left; omega
    rw [if_pos hyes, decide_eq_true hyes]
    refine ⟨_, h1.c2, by omega, wr_blk h1.blk (by simp), ?_⟩
    rintro w5 rfl
    have e0 : Int.fdiv ((held s a1 pos : Nat) : Int) (2 ^ min ((n : Int)).toNat 64) = ((held s a1 (pos + n) : Nat) : Int) := by
      have hm : min ((n : Int)).toNat 64 = n := by omega
      have hc : (2 : Int) ^ n = ((2 ^ n : Nat) : Int) := by push_cast; rfl
      rw [hm, hc, ← held_skip, Int.fdiv_eq_ediv_of_nonneg _ (Int.natCast_nonneg _), ← Int.natCast_ediv]
    rw [e0]
    have b1 := set_blk h1.blk 2 (.int .u64 ((held s a1 (pos + n) : Nat) : Int))
    refine ⟨((8 * a1 - pos : Nat) : Int), by rw [cell_blk b1]; rfl, wr_blk b1 (by simp), ?_⟩
    rintro w7 rfl
    have e1 : IntKind.i64.wrap (((8 * a1 - pos : Nat) : Int) - (n : Int)) = ((8 * a1 - (pos + n) : Nat) : Int) := by rw [wrap_i64 (by omega) (by omega)]; omega
    rw [e1]
    have b2 := set_blk b1 3 (.int .i64 ((8 * a1 - (pos + n) : Nat) : Int))
    exact ⟨rfl, ⟨a1, by omega, by omega, h1.sz, h1.ok, b2⟩, (hf.trans' (.set _ _ _ rfl)).trans' (.set _ _ _ rfl)⟩

/-- The next n bits are taken, if there are so many. -/
theorem rbits_spec {b : Nat} {s : ByteArray} {pos : Nat} {from_ : Int} {w : World} (h : Rd w b s pos from_) {n : Nat} (hn : n ≤ 32) :
    Calls Tryz.prog F_bitin_Reader_Bits #[.pointer (some ⟨b, 0, none⟩), .int .i64 n] w fun e w' =>
      e = .returned (.tuple #[.int .u32 ((if n ≤ left s pos then nbits s pos n else 0 : Nat) : Int), .bool (decide (n ≤ left s pos))]) ∧
      Rd w' b s (if n ≤ left s pos then pos + n else pos) from_ ∧ Fr (· = b) w w' := by
  refine vc_bitin_Reader_Bits_ok (R := fun v w' => v = .tuple #[.int .u32 ((if n ≤ left s pos then nbits s pos n else 0 : Nat) : Int), .bool (decide (n ≤ left s pos))] ∧
      Rd w' b s (if n ≤ left s pos then pos + n else pos) from_ ∧ Fr (· = b) w w') ?_ (fun v w' h => ⟨by rw [h.1], h.2⟩)
  refine (peek_spec h hn).mono ?_
  rintro e w2 ⟨rfl, h2, f2⟩
  refine ⟨_, _, rfl, ?_⟩
  refine (skip_spec h2 hn).mono ?_
  rintro e w6 ⟨rfl, h6, f6⟩
  refine ⟨_, rfl, fun hno => ?_, fun hyes => ?_⟩
  · have hno : ¬ n ≤ left s pos := by simpa using hno
    rw [if_neg hno] at h6
    rw [if_neg hno, if_neg hno, decide_eq_false hno]
    exact ⟨rfl, h6, f2.trans' f6⟩
  · have hyes : n ≤ left s pos := by simpa using hyes
    rw [if_pos hyes] at h6
    rw [if_pos hyes, if_pos hyes, decide_eq_true hyes]
    exact ⟨rfl, h6, f2.trans' f6⟩

/-- A new reader. -/
theorem rnew_spec {s : ByteArray} (hs : s.size ≤ 140737488351232) (n : Int) (w : World) :
    Calls Tryz.prog F_bitin_New #[.string s, .int .i64 n] w fun e w' =>
      e = .returned (.pointer (some ⟨w.heap.size, 0, none⟩)) ∧ Rd w' w.heap.size s (8 * min n.toNat s.size) ((min n.toNat s.size : Nat) : Int) ∧ Fr (fun _ => False) w w' := by
  refine vc_bitin_New_ok (R := fun v w' => v = .pointer (some ⟨w.heap.size, 0, none⟩) ∧ Rd w' w.heap.size s (8 * min n.toNat s.size) ((min n.toNat s.size : Nat) : Int) ∧ Fr (fun _ => False) w w') ?_ (fun v w' h => ⟨by rw [h.1], h.2⟩)
  rintro w1 rfl
  refine ⟨rfl, ⟨min n.toNat s.size, by omega, by omega, by omega, hs, ?_⟩, .alloc _ _ _⟩
  rw [alloc_new]
  have e : (if (if (s.size : Int) < n then (s.size : Int) else n) > 0 then if (s.size : Int) < n then (s.size : Int) else n else 0) = ((min n.toNat s.size : Nat) : Int) := by
    split <;> split at * <;> omega
  have e2 : held s (min n.toNat s.size) (8 * min n.toNat s.size) = 0 := Nat.div_eq_of_lt (V_lt s _)
  rw [e, RdO, e2]
  simp
end Go.Proofs.YtaaimcbicpgjoaaGreatDoor

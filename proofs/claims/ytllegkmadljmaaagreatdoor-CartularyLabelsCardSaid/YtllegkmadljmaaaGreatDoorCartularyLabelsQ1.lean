/- Texts of this seat in one: made by a program of ours. -/
import Derived.Test.YtllegkmadljmaaaGreatDoorCartularyLabelsQ0
import Derived.Lib.OthersKept
import Derived.Lib.IndexLaws
import Derived.Laws.Strings
import Derived.Laws.RangeString
import Derived.Test.YtllegkmadljmaaaGreatDoorProg
import Derived.Shelf.Lays
import Derived.Shelf.Strings.BuilderX
import Derived.Shelf.Strings.Search1
import Derived.RangeFuncNested
import Derived.RangeFuncBound
import Derived.RangeFuncCalls
import Derived.RangeFuncLeaves
import Derived.Shelf.Abstract
import Derived.Shelf.RegionOpen
import Derived.WalkKit
import Derived.OwnWalkIn
import Derived.TacticsInMore
import Derived.LoopNIn
import Derived.LoopIn
import Derived.Shelf.SlSortCmp.WholeK
import Derived.Shelf.Small.Strs
import Derived.Sort.Walk0
import Derived.Lib.Index
import Derived.Handed
import Derived.HandedShaped
import Derived.Shelf.Vars
import Derived.Test.YtllegkmadljmaaaGreatDoorRows
import Derived.Shelf.Strings.Search3
import Derived.Shelf.Strings.IndexAnyAll
/- Texts as lists of bytes: places, parts, runes, the model's iterator over a text. No condition: for all programs. -/
set_option linter.unusedVariables false
namespace Vc
open Go

theorem bs_len (s : ByteArray) : s.data.toList.length = s.size := by simp
theorem bs_ext {a b : ByteArray} (h : a.data.toList = b.data.toList) : a = b := ByteArray.ext (Array.ext' h)
theorem bs_app (a b : ByteArray) : (a ++ b).data.toList = a.data.toList ++ b.data.toList := by simp
theorem bs_mk (l : List UInt8) : (⟨l.toArray⟩ : ByteArray).data.toList = l := by simp
theorem bs_mksize (l : List UInt8) : (⟨l.toArray⟩ : ByteArray).size = l.length := by simp [ByteArray.size]
theorem bs_self (s : ByteArray) : (⟨s.data.toList.toArray⟩ : ByteArray) = s := bs_ext (by simp)
theorem bs_extract (s : ByteArray) (i j : Nat) : (s.extract i j).data.toList = (s.data.toList.drop i).take (j - i) := by
  rw [ByteArray.data_extract, Array.toList_extract, List.extract_eq_take_drop]
theorem bs_tail (s : ByteArray) (i : Nat) : (s.extract i s.size).data.toList = s.data.toList.drop i := by
  rw [bs_extract, List.take_of_length_le (by rw [List.length_drop, bs_len]; exact Nat.le_refl _)]
theorem bs_head (s : ByteArray) (i : Nat) : (s.extract 0 i).data.toList = s.data.toList.take i := by rw [bs_extract]; simp
theorem bs_empty {s : ByteArray} : s = ⟨#[]⟩ ↔ s.size = 0 := by
  constructor
  · rintro rfl; rfl
  · intro h
    have : s.data.toList = [] := List.length_eq_zero_iff.1 (by rw [bs_len]; exact h)
    exact bs_ext (by rw [this])
theorem bs_eq (a b : ByteArray) : (a.toList == b.toList) = decide (a = b) := by
  rw [ByteArray.toList_eq, ByteArray.toList_eq]
  by_cases h : a = b
  · subst h; simp
  · rw [decide_eq_false h, beq_eq_false_iff_ne]
    exact fun e => h (bs_ext e)
theorem bs_byt {s : ByteArray} {i : Nat} (h : i < s.size) : byt s i = (s.data.toList[i]'(by rw [bs_len]; exact h)).toNat := by
  unfold byt; rw [List.getElem?_eq_getElem (by rw [bs_len]; exact h)]; rfl
theorem bs_get {s : ByteArray} {i : Nat} (h : i < s.size) : s.data.toList[i]? = some (UInt8.ofNat (byt s i)) := by
  rw [bs_byt h, List.getElem?_eq_getElem (by rw [bs_len]; exact h), UInt8.ofNat_toNat]
theorem bs_get? {s : ByteArray} {i : Nat} {c : UInt8} (h : s.data.toList[i]? = some c) : i < s.size ∧ byt s i = c.toNat := by
  obtain ⟨hl, hc⟩ := List.getElem?_eq_some_iff.1 h
  rw [bs_len] at hl
  exact ⟨hl, by rw [bs_byt hl, hc]⟩
theorem bs_take {s : ByteArray} {n : Nat} (h : n < s.size) : s.data.toList.take (n + 1) = s.data.toList.take n ++ [UInt8.ofNat (byt s n)] := by
  have hlt : n < s.data.toList.length := by rw [bs_len]; exact h
  rw [List.take_succ_eq_append_getElem hlt, bs_byt h, UInt8.ofNat_toNat]
theorem bs_all (s : ByteArray) : s.data.toList.take s.size = s.data.toList := List.take_of_length_le (by simp)
theorem bv_snoc (l : List UInt8) (c : Nat) (h : c < 256) : byteV l ++ [.int .u8 (c : Int)] = byteV (l ++ [UInt8.ofNat c]) := by
  simp [byteV]
  omega
theorem bv_len (l : List UInt8) : (byteV l).length = l.length := by simp [byteV]
theorem toNat_of (c : Nat) (h : c < 256) : (UInt8.ofNat c).toNat = c := by simp; omega
theorem byt_extract {s : ByteArray} {i j k : Nat} (hj : j ≤ s.size) (hk : k < j - i) : byt (s.extract i j) k = byt s (i + k) := by
  unfold byt
  rw [bs_extract, List.getElem?_take, if_pos hk, List.getElem?_drop]

/-! ### Where a byte comes first -/
open Go.Lib in
theorem fnd_cases (s : ByteArray) (c : UInt8) : (indexByte s.data.toList c = -1 ∧ ∀ k, k < s.size → byt s k ≠ c.toNat) ∨
    ∃ i : Nat, indexByte s.data.toList c = (i : Int) ∧ i < s.size ∧ byt s i = c.toNat ∧ ∀ k, k < i → byt s k ≠ c.toNat := by
  by_cases h : indexByte s.data.toList c = -1
  · refine .inl ⟨h, fun k hk he => indexByte_none h k ?_⟩
    rw [bs_get hk, he, UInt8.ofNat_toNat]
  · have hg := indexByte_ge s.data.toList c
    obtain ⟨i, hi⟩ := Int.eq_ofNat_of_zero_le (show 0 ≤ indexByte s.data.toList c by omega)
    obtain ⟨h1, h2⟩ := indexByte_some hi
    obtain ⟨h3, h4⟩ := bs_get? h1
    refine .inr ⟨i, hi, h3, h4, fun k hk he => h2 k hk ?_⟩
    rw [bs_get (by omega), he, UInt8.ofNat_toNat]
open Go.Lib in
theorem fnd_at {s : ByteArray} {c : UInt8} {i : Nat} (h : i < s.size) (hc : byt s i = c.toNat) (hn : ∀ k, k < i → byt s k ≠ c.toNat) : indexByte s.data.toList c = (i : Int) := by
  rcases fnd_cases s c with ⟨_, h2⟩ | ⟨j, h1, h2, h3, h4⟩
  · exact absurd hc (h2 i h)
  · rw [h1]
    by_cases hij : i < j
    · exact absurd hc (h4 i hij)
    · by_cases hji : j < i
      · exact absurd h3 (hn j hji)
      · have : i = j := by omega
        rw [this]
open Go.Lib in
theorem fnd_no {s : ByteArray} {c : UInt8} (h : ∀ k, k < s.size → byt s k ≠ c.toNat) : indexByte s.data.toList c = -1 := by
  rcases fnd_cases s c with ⟨h1, _⟩ | ⟨i, _, h2, h3, _⟩
  · exact h1
  · exact absurd h3 (h i h2)

/-! ### Runes -/
theorem get_byt {s : ByteArray} {i : Nat} (h : i < s.size) : (s.get! i).toNat = byt s i := by
  rw [bs_byt h]
  obtain ⟨d⟩ := s
  have h' : i < d.size := h
  show (d[i]!).toNat = _
  rw [getElem!_pos d i h']
  simp
theorem dec_high {s : ByteArray} {p : Nat} (h : p < s.size) (hb : 128 ≤ byt s p) :
    128 ≤ (Utf8.decode s p).1 ∧ (Utf8.decode s p).1 ≤ 1114111 ∧ 1 ≤ (Utf8.decode s p).2 ∧ p + (Utf8.decode s p).2 ≤ s.size ∧ ∀ j, p ≤ j → j < p + (Utf8.decode s p).2 → 128 ≤ byt s j := by
  have hb0 := byt_lt s p
  have g0 : (s.get! (p + 0)).toNat = byt s p := get_byt h
  have one : 128 ≤ ((65533, 1) : Nat × Nat).1 ∧ ((65533, 1) : Nat × Nat).1 ≤ 1114111 ∧ 1 ≤ ((65533, 1) : Nat × Nat).2 ∧ p + ((65533, 1) : Nat × Nat).2 ≤ s.size ∧ ∀ j, p ≤ j → j < p + ((65533, 1) : Nat × Nat).2 → 128 ≤ byt s j :=
    ⟨by decide, by decide, by decide, h, fun j h1 h2 => by have : j = p := by simp only at h2; omega
                                                           rw [this]; exact hb⟩
  have cont : ∀ k, p + k < s.size → (s.get! (p + k)).toNat / 64 = 2 → 128 ≤ byt s (p + k) := fun k hk hc => by
    rw [get_byt hk] at hc; omega
  unfold Utf8.decode Utf8.runeError
  simp only [g0]
  rw [if_neg (by omega)]
  split
  · rename_i hc
    simp only [Bool.and_eq_true, beq_iff_eq, decide_eq_true_eq] at hc
    obtain ⟨h1, h2, h3⟩ := hc
    split
    · rename_i hv
      refine ⟨hv, by simp only; omega, by simp, by simp only; omega, fun j hj1 hj2 => ?_⟩
      simp only at hj2
      by_cases hjp : j = p
      · rw [hjp]; exact hb
      · have : j = p + 1 := by omega
        rw [this]; exact cont 1 h2 h3
    · exact one
  · split
    · rename_i hc
      simp only [Bool.and_eq_true, beq_iff_eq, decide_eq_true_eq] at hc
      obtain ⟨⟨h1, h2, h3⟩, h4, h5⟩ := hc
      split
      · rename_i hv
        simp only [Bool.and_eq_true, decide_eq_true_eq] at hv
        refine ⟨by simp only; omega, by simp only; omega, by simp, by simp only; omega, fun j hj1 hj2 => ?_⟩
        simp only at hj2
        by_cases hjp : j = p
        · rw [hjp]; exact hb
        · by_cases hj1' : j = p + 1
          · rw [hj1']; exact cont 1 h2 h3
          · have : j = p + 2 := by omega
            rw [this]; exact cont 2 h4 h5
      · exact one
    · split
      · rename_i hc
        simp only [Bool.and_eq_true, beq_iff_eq, decide_eq_true_eq] at hc
        obtain ⟨⟨⟨h1, h2, h3⟩, h4, h5⟩, h6, h7⟩ := hc
        split
        · rename_i hv
          simp only [Bool.and_eq_true, decide_eq_true_eq] at hv
          have hval := hv.2
          simp only [Utf8.valid, Bool.or_eq_true, Bool.and_eq_true, decide_eq_true_eq] at hval
          refine ⟨by simp only; omega, by simp only; omega, by simp, by simp only; omega, fun j hj1 hj2 => ?_⟩
          simp only at hj2
          by_cases hjp : j = p
          · rw [hjp]; exact hb
          · by_cases hj1' : j = p + 1
            · rw [hj1']; exact cont 1 h2 h3
            · by_cases hj2' : j = p + 2
              · rw [hj2']; exact cont 2 h4 h5
              · have : j = p + 3 := by omega
                rw [this]; exact cont 3 h6 h7
        · exact one
      · exact one
theorem dec_low {s : ByteArray} {p : Nat} (h : p < s.size) (hb : byt s p < 128) : Utf8.decode s p = (byt s p, 1) := by
  have g0 : (s.get! (p + 0)).toNat = byt s p := get_byt h
  unfold Utf8.decode
  simp only [g0]
  rw [if_pos (by omega)]
/-- An iterator over a text. -/
def IsIter (w : World) (k : Nat) (s : ByteArray) (p : Nat) : Prop := w.heap[k]? = some (.stringIter s p)
theorem IsIter.keep {w w1 : World} {k p : Nat} {s : ByteArray} (h : IsIter w k s p) {X : Nat → Prop} (hf : Fr X w w1) (hx : ¬ X k) : IsIter w1 k s p := hf.keep h hx
section
variable {P : Program}
theorem iter_new {w : World} {t : TypeId} {s : ByteArray} (ht : P.underlying t = some .string) :
    ∃ w', (Instr.range t (.string s)).run P w = .ok (.pointer (some ⟨w.heap.size, 0, none⟩)) w' ∧ IsIter w' w.heap.size s 0 ∧ Fr (fun _ => False) w w' :=
  ⟨_, run_range_string w t s ht, World.iter_heap w s 0, .alloc _ _ _⟩
theorem iter_end {w : World} {k p : Nat} {s : ByteArray} (h : IsIter w k s p) (hp : s.size ≤ p) (ty : TypeId) : (Instr.next (.pointer (some ⟨k, 0, none⟩)) true ty).run P w = .ok (.tuple #[.bool false]) w :=
  Lib.run_next_end_at w k s p ty h (by omega)
theorem iter_next {w : World} {k p : Nat} {s : ByteArray} (h : IsIter w k s p) (hp : p < s.size) (ty : TypeId) :
    ∃ w', (Instr.next (.pointer (some ⟨k, 0, none⟩)) true ty).run P w = .ok (.tuple #[.bool true, .int .i64 p, .int .i32 (Utf8.decode s p).1]) w' ∧ IsIter w' k s (p + (Utf8.decode s p).2) ∧ Fr (· = k) w w' :=
  ⟨_, Lib.run_next_any_at w k s p ty h hp, Lib.iterAt_heap w k s p _ h, ⟨rfl, rfl, rfl, by rw [Lib.iterAt_size]; exact Nat.le_refl _, fun j _ hj => Lib.iterAt_other w k j s _ hj⟩⟩
end
end Vc
namespace Vc
open Go
/-- How much an iterator has ahead of it. -/
def itLeft (k : Nat) (w : World) : Nat := match w.heap[k]? with
  | some (.stringIter s p) => s.size - p
  | _ => 0
theorem IsIter.left {w : World} {k p : Nat} {s : ByteArray} (h : IsIter w k s p) : itLeft k w = s.size - p := by
  unfold itLeft; rw [h]
/-- A rune's text. -/
theorem enc_high {r : Nat} (h : 128 ≤ r) : 2 ≤ (Utf8.encode r).size ∧ (Utf8.encode r).size ≤ 4 ∧ 128 ≤ byt (Utf8.encode r) ((Utf8.encode r).size - 1) := by
  have key : ∀ c : Nat, 128 ≤ c → ∀ (b : Nat → UInt8), (b = fun n => UInt8.ofNat n) →
      let t : ByteArray := if c < 0x80 then ⟨#[b c]⟩ else if c < 0x800 then ⟨#[b (0xC0 + c / 64), b (0x80 + c % 64)]⟩ else if c < 0x10000 then ⟨#[b (0xE0 + c / 4096), b (0x80 + c / 64 % 64), b (0x80 + c % 64)]⟩
        else ⟨#[b (0xF0 + c / 262144), b (0x80 + c / 4096 % 64), b (0x80 + c / 64 % 64), b (0x80 + c % 64)]⟩
      2 ≤ t.size ∧ t.size ≤ 4 ∧ 128 ≤ byt t (t.size - 1) := by
    intro c hc b hb
    subst hb
    have hl : 128 ≤ (UInt8.ofNat (0x80 + c % 64)).toNat := by rw [toNat_of _ (by omega)]; omega
    dsimp only
    rw [if_neg (by omega)]
    split
    · exact ⟨Nat.le_refl 2, show (2 : Nat) ≤ 4 by decide, hl⟩
    · split
      · exact ⟨show (2 : Nat) ≤ 3 by decide, show (3 : Nat) ≤ 4 by decide, hl⟩
      · exact ⟨show (2 : Nat) ≤ 4 by decide, show (4 : Nat) ≤ 4 by decide, hl⟩
  unfold Utf8.encode Utf8.runeError
  split
  · exact key _ (by simp only [Int.toNat_natCast]; exact h) _ rfl
  · exact key _ (by decide) _ rfl
end Vc

/- The shapes of the types of this seat, a row a type. No condition. -/
namespace Go.Proofs.YtllegkmadljmaaaGreatDoor
open Vc
def tyL : List Sh := [
  .tup [],
  .one (.any),
  .one (.int .i64),
  .one (.int .i64),
  .one (.bool),
  .one (.int .u8),
  .one (.int .u8),
  .agg [.int .i64, .int .i64, .bool, .int .u8],
  .agg [.int .i64, .int .i64, .bool, .int .u8],
  .one (.str),
  .one (.str),
  .one (.str),
  .one (.int .u64),
  .agg [.str, .int .u64],
  .agg [.str, .int .u64],
  .one (.ptr),
  .one (.ptr),
  .one (.ptr),
  .agg [.ptr],
  .agg [.ptr],
  .one (.any),
  .one (.int .i32),
  .one (.slice),
  .agg [.str, .int .i64, .int .i64],
  .agg [.str, .int .i64, .int .i64],
  .agg [.str, .slice, .str, .int .i64, .int .i64, .str, .int .i64, .int .i64, .str],
  .agg [.str, .slice, .str, .int .i64, .int .i64, .str, .int .i64, .int .i64, .str],
  .one (.int .i64),
  .tup [(.one (.str)), (.one (.int .i64))],
  .one (.any),
  .one (.any),
  .one (.any),
  .agg [.int .i64, .str],
  .agg [.int .i64, .str],
  .one (.any),
  .one (.any),
  .agg [.str, .int .i64, .str, .str, .int .i64, .int .i64, .str],
  .agg [.str, .int .i64, .str, .str, .int .i64, .int .i64, .str],
  .agg [.str, .str],
  .agg [.str, .str],
  .tup [(.agg [.str, .str]), (.one (.int .i64))],
  .one (.any),
  .one (.slice),
  .one (.ptr),
  .tup [(.one (.ptr)), (.one (.int .i64))],
  .one (.any),
  .one (.ptr),
  .tup [(.one (.ptr)), (.one (.int .i64))],
  .one (.any),
  .one (.ptr),
  .tup [(.one (.ptr)), (.one (.int .i64))],
  .one (.any),
  .one (.any),
  .one (.any),
  .tup [(.agg [.str, .int .i64, .str, .str, .int .i64, .int .i64, .str]), (.one (.int .i64))],
  .one (.any),
  .tup [(.agg [.str, .slice, .str, .int .i64, .int .i64, .str, .int .i64, .int .i64, .str]), (.one (.int .i64))],
  .one (.any),
  .one (.any),
  .one (.any),
  .one (.any),
  .one (.any),
  .one (.any),
  .one (.any),
  .one (.any),
  .one (.any),
  .one (.any),
  .one (.any),
  .one (.any),
  .one (.any),
  .one (.any),
  .agg [.slice, .int .i64],
  .agg [.slice, .int .i64],
  .one (.any),
  .one (.any),
  .one (.any),
  .one (.slice),
  .agg [.ptr, .slice],
  .agg [.ptr, .slice],
  .tup [(.one (.str)), (.one (.bool))],
  .one (.any),
  .one (.ptr),
  .tup [(.one (.ptr)), (.one (.int .i64))],
  .one (.any),
  .tup [(.one (.int .i64)), (.one (.int .i64))],
  .one (.any),
  .one (.any),
  .one (.any),
  .agg [.str, .ptr],
  .agg [.str, .ptr],
  .one (.map),
  .agg [.ptr, .map],
  .agg [.ptr, .map],
  .tup [(.one (.str)), (.one (.str)), (.one (.bool))],
  .one (.any),
  .agg [.str, .str],
  .agg [.str, .str],
  .tup [(.agg [.str, .str]), (.one (.bool))],
  .tup [(.one (.str)), (.one (.str)), (.one (.int .i64))],
  .one (.any),
  .tup [(.agg [.int .i64, .str]), (.one (.int .i64))],
  .one (.any),
  .one (.any),
  .one (.any),
  .one (.any),
  .one (.any),
  .one (.any),
  .one (.any),
  .one (.slice),
  .one (.int .u64),
  .one (.slice),
  .one (.int .u64),
  .agg [.slice, .str, .int .u64],
  .agg [.slice, .str, .int .u64],
  .agg [.slice, .str, .int .u64],
  .agg [.slice, .str, .int .u64],
  .one (.any),
  .one (.any),
  .one (.any),
  .one (.any),
  .tup [(.one (.int .i64)), (.one (.bool))],
  .one (.any),
  .one (.any),
  .one (.slice),
  .one .any,
  .one .any,
  .one .any,
  .one (.any),
  .one (.int .u32),
  .agg [.str, .int .i64, .int .u32],
  .agg [.str, .int .i64, .int .u32],
  .one (.any),
  .tup [(.agg [.str, .int .i64, .int .u32]), (.one (.int .i64))],
  .one (.any),
  .one (.any),
  .one (.ptr),
  .one (.ptr),
  .agg [.str],
  .agg [.str],
  .one (.any),
  .one (.any),
  .one (.any),
  .one (.any),
  .one (.any),
  .one (.any),
  .one .any,
  .one .any,
  .tup [(.one .any), (.one (.bool))],
  .one (.any),
  .one (.any),
  .tup [(.one (.int .i32)), (.one (.int .i64))],
  .one (.any),
  .one (.ptr),
  .one (.any),
  .one (.any),
  .one (.any),
  .one (.any),
  .one (.any),
  .one (.any),
  .agg [.slice, .int .u64, .int .i64],
  .agg [.slice, .int .u64, .int .i64],
  .one (.ptr),
  .tup [(.one (.ptr)), (.one (.ptr))],
  .one (.any),
  .one (.any),
  .one (.map),
  .tup [(.one (.int .u32)), (.one (.int .i64))],
  .one (.any),
  .tup [(.one (.int .i64)), (.one (.int .u32)), (.one (.int .i64))],
  .one (.any),
  .one (.any),
  .one (.any),
  .one (.int .i64),
  .tup [(.one (.int .i64)), (.one (.int .i64))],
  .one (.any),
  .one (.any),
  .one (.any),
  .one (.any),
  .one (.any),
  .one (.any),
  .one (.any),
  .one (.any),
  .one (.any),
  .agg [.int .i64, .int .i64, .int .i64, .str, .int .i64, .str, .int .u32],
  .agg [.int .i64, .int .i64, .int .i64, .str, .int .i64, .str, .int .u32],
  .tup [(.agg [.int .i64, .int .i64, .int .i64, .str, .int .i64, .str, .int .u32]), (.one (.int .i64))],
  .one (.any),
  .one (.any),
  .one (.any),
  .one (.any),
  .one (.any),
  .one (.any),
  .agg [],
  .agg [],
  .one (.any),
  .one (.noerr),
  .tup [(.one (.int .i64)), (.one (.noerr))],
  .one (.any),
  .one (.any),
  .one (.any),
  .one (.any),
  .one (.ptr),
  .one (.ptr),
  .one (.any),
  .one .any,
  .one (.any),
  .agg [.int .u32, .int .u32],
  .agg [.int .u32, .int .u32],
  .one (.any),
  .one (.slice),
  .tup [(.one (.ptr)), (.one (.int .i64))],
  .one (.any),
  .one (.ptr),
  .agg [.int .i64, .int .i64, .int .i64, .int .i64, .int .i64, .int .i64, .int .i64, .int .i64, .int .i64, .int .i64, .int .i64, .int .i64, .int .i64, .int .i64, .int .i64, .int .i64],
  .agg [.slice, .int .i64, .int .i64, .int .i64, .int .i64, .int .i64, .int .i64, .int .i64, .int .i64, .int .i64, .int .i64, .int .i64, .int .i64, .int .i64, .int .i64, .int .i64, .int .i64, .slice],
  .agg [.slice, .int .i64, .int .i64, .int .i64, .int .i64, .int .i64, .int .i64, .int .i64, .int .i64, .int .i64, .int .i64, .int .i64, .int .i64, .int .i64, .int .i64, .int .i64, .int .i64, .slice],
  .tup [(.one (.int .i64)), (.one (.int .i64))],
  .one (.int .u64),
  .one (.any),
  .one (.any),
  .one (.any),
  .one (.ptr),
  .one (.any),
  .tup [(.one (.str)), (.one (.int .i64)), (.one (.int .i64))],
  .one (.any),
  .one (.int .i64),
  .tup [(.one (.int .i64)), (.one (.bool))],
  .one (.ptr),
  .agg [.str, .int .i64],
  .agg [.str, .int .i64],
  .one (.any),
  .one (.any),
  .tup [(.one (.int .i64)), (.one (.int .i64)), (.one (.int .i64)), (.one (.int .i64))],
  .one (.any),
  .one (.int .i64),
  .tup [(.one (.int .i64)), (.one (.bool))],
  .one (.ptr),
  .agg [.str, .int .i64],
  .agg [.str, .int .i64],
  .one (.any),
  .one .any,
  .one (.any),
  .tup [(.one (.slice)), (.one (.str))],
  .one (.any),
  .tup [(.one (.int .u32)), (.one (.int .u32))],
  .one (.any),
  .one .any,
  .agg [.int .u8, .int .u8],
  .agg [.int .u8, .int .u8],
  .one .any,
  .one (.ptr),
  .one (.ptr),
  .one (.any),
  .one (.any),
  .one (.any),
  .agg [.int .u32],
  .agg [.int .u32],
  .one (.int .i64),
  .tup [(.one (.int .i64)), (.one (.noerr))],
  .one (.any),
  .one (.ptr),
  .one (.any),
  .one (.any),
  .one (.any),
  .one .any,
  .one .any,
  .one (.ptr),
  .one (.ptr),
  .one (.any),
  .agg [.ptr, .slice, .int .i64],
  .agg [.ptr, .slice, .int .i64],
  .one (.any),
  .one (.ptr),
  .tup [(.one (.int .u64)), (.one (.noerr))],
  .one (.any),
  .agg [.str, .str, .any],
  .agg [.str, .str, .any],
  .one (.any),
  .agg [.str, .int .i64, .int .u64, .int .i64, .int .i64],
  .agg [.str, .int .i64, .int .u64, .int .i64, .int .i64],
  .tup [(.one (.int .u32)), (.one (.bool))],
  .one (.any),
  .tup [(.one (.ptr)), (.one (.ptr)), (.one (.int .i64))],
  .one (.any),
  .one (.any),
  .one (.any),
  .one (.any),
  .one (.any),
  .one (.ptr),
  .one (.ptr),
  .agg [.str],
  .agg [.str],
  .one .any,
  .one .any,
  .one (.any),
  .one .any,
  .one (.any),
  .one (.any),
  .agg [.ptr, .ptr, .ptr, .str],
  .agg [.ptr, .ptr, .ptr, .str],
  .agg [],
  .agg [],
  .agg [],
  .one (.int .u8),
  .one (.int .u8),
  .one (.any),
  .one (.int .i32),
  .one (.int .i32),
  .agg [.int .u64, .int .u64, .int .u32, .int .u8, .int .u8, .int .u8, .int .u8, .any, .ptr, .int .i32, .int .i32],
  .agg [.int .u64, .int .u64, .int .u32, .int .u8, .int .u8, .int .u8, .int .u8, .any, .ptr, .int .i32, .int .i32],
  .one (.any)]
def nth : List Sh → Nat → Sh
  | [], _ => .one .any
  | s :: _, 0 => s
  | _ :: r, n + 1 => nth r n
def ty (n : Nat) : Sh := nth tyL n
abbrev F_cartularytop_CartularyLabels : Nat := 3
abbrev F_commit_Format : Nat := 4
abbrev F_cartularyref15_Check : Nat := 5
abbrev F_object_Id : Nat := 7
abbrev F_commit_FormatTag : Nat := 8
abbrev F_loose_Write : Nat := 9
abbrev F_snap_New : Nat := 10
abbrev F_odb_Open : Nat := 11
abbrev F_refs_Open : Nat := 12
abbrev F_refs_Refs_Lookup : Nat := 13
abbrev F_odb_Odb_Kind : Nat := 14
abbrev F_commit_ParseTag : Nat := 15
abbrev F_commit_Parse : Nat := 16
abbrev F_cartularyref15_Same : Nat := 17
abbrev F_commit_Check : Nat := 18
abbrev F_commit_sign : Nat := 19
abbrev F_cartularyref09_Id : Nat := 20
abbrev F_cartularyref15_Signed : Nat := 21
abbrev F_strings_HasPrefix : Nat := 22
abbrev F_strings_Contains : Nat := 24
abbrev F_strings_HasSuffix : Nat := 25
abbrev F_strings_ContainsAny : Nat := 26
abbrev F_object_Encode : Nat := 28
abbrev F_sums_Hex : Nat := 29
abbrev F_sha_Sum1 : Nat := 30
abbrev F_commit_CheckTag : Nat := 31
abbrev F_object_Name : Nat := 32
abbrev F_loose_Path : Nat := 33
abbrev F_zlib_Write : Nat := 34
abbrev F_slices_Clone : Nat := 35
abbrev F_snap_byPath : Nat := 37
abbrev F_snap_Snap_Under : Nat := 38
abbrev F_strings_CutSuffix : Nat := 39
abbrev F_sums_Id : Nat := 40
abbrev F_snap_Snap_Get : Nat := 41
abbrev F_strings_Cut : Nat := 46
abbrev F_strings_CutPrefix : Nat := 47
abbrev F_refs_Refs_file : Nat := 48
abbrev F_odb_Odb_Get : Nat := 49
abbrev F_commit_parseTag : Nat := 50
abbrev F_commit_parse : Nat := 51
abbrev F_cartularyref07_Same : Nat := 52
abbrev F_commit_signed : Nat := 53
abbrev F_strconv_Itoa : Nat := 54
abbrev F_commit_zone : Nat := 55
abbrev F_cartularyref01_Hexed : Nat := 56
abbrev F_cartularyref15_Line : Nat := 57
abbrev F_stringslite_HasPrefix : Nat := 58
abbrev F_strings_ContainsFunc : Nat := 59
abbrev F_snap_Clean_1 : Nat := 60
abbrev F_strings_Index : Nat := 61
abbrev F_stringslite_HasSuffix : Nat := 62
abbrev F_strings_IndexAny : Nat := 63
abbrev F_object_Check : Nat := 65
abbrev F_sha_Hash1_Write : Nat := 66
abbrev F_sha_Hash1_Sum : Nat := 67
abbrev F_commit_Line : Nat := 68
abbrev F_zlib_frame : Nat := 69
abbrev F_inflate_Deflate : Nat := 70
abbrev F_strings_Compare : Nat := 73
abbrev F_slices_BinarySearchFunc : Nat := 74
abbrev F_sums_Unhex : Nat := 76
abbrev F_sums_FromBig : Nat := 77
abbrev F_stringslite_Cut : Nat := 78
abbrev F_loose_Read : Nat := 80
abbrev F_commit_guard : Nat := 83
abbrev F_commit_reader_line : Nat := 84
abbrev F_object_Kind : Nat := 85
abbrev F_commit_reader_sign : Nat := 86
abbrev F_commit_reader_message : Nat := 87
abbrev F_cartularyref08_Find : Nat := 89
abbrev F_stringslite_Index : Nat := 91
abbrev F_strings_IndexRune : Nat := 92
abbrev F_strings_shouldUseASCIISet : Nat := 93
abbrev F_sha_hash_write : Nat := 98
abbrev F_sha_start1 : Nat := 99
abbrev F_sha_block1 : Nat := 100
abbrev F_sha_hash_sum : Nat := 101
abbrev F_sums_Big : Nat := 102
abbrev F_sums_Adler32 : Nat := 103
abbrev F_inflate_fixed : Nat := 104
abbrev F_bitin_Writer_Bits : Nat := 105
abbrev F_huff_Table_Code : Nat := 106
abbrev F_bitin_Writer_Code : Nat := 107
abbrev F_inflate_symbolOf : Nat := 108
abbrev F_inflate_lengthBase : Nat := 109
abbrev F_inflate_distBase : Nat := 110
abbrev F_bitin_Writer_Text : Nat := 111
abbrev F_inflate_Stored : Nat := 112
abbrev F_sums_digit : Nat := 124
abbrev F_loose_Unpack : Nat := 125
abbrev F_strings_LastIndexByte : Nat := 132
abbrev F_strings_indexFunc : Nat := 135
abbrev F_stringslite_IndexByte : Nat := 136
abbrev F_strings_IndexByte : Nat := 140
abbrev F_utf8_ValidRune : Nat := 141
abbrev F_sha_word : Nat := 143
abbrev F_bits_RotateLeft32 : Nat := 144
abbrev F_sums_Adler_Write : Nat := 145
abbrev F_sums_Adler_Sum : Nat := 146
abbrev F_huff_New : Nat := 147
abbrev F_bitin_Writer_Bytes : Nat := 148
abbrev F_sums_Little : Nat := 149
abbrev F_zlib_Read : Nat := 156
abbrev F_object_Decode : Nat := 157
abbrev F_bitin_Writer_Align : Nat := 176
abbrev F_zlib_Head : Nat := 178
abbrev F_inflate_Inflate : Nat := 179
abbrev F_object_Number : Nat := 180
abbrev F_bitin_New : Nat := 195
abbrev F_inflate_state_run : Nat := 196
abbrev F_bitin_Reader_Used : Nat := 197
abbrev F_bitin_Reader_Bits : Nat := 203
abbrev F_inflate_state_stored : Nat := 204
abbrev F_inflate_state_tables : Nat := 205
abbrev F_huff_Table_Read : Nat := 206
abbrev F_inflate_state_put : Nat := 207
abbrev F_inflate_state_repeat : Nat := 208
abbrev F_bitin_Reader_Peek : Nat := 211
abbrev F_bitin_Reader_Skip : Nat := 212
abbrev F_bitin_Reader_Bytes : Nat := 213
abbrev F_sums_FromLittle : Nat := 214
abbrev F_bitin_Reader_Left : Nat := 215
abbrev F_inflate_order : Nat := 216
abbrev F_bitin_Reader_fill : Nat := 217
abbrev F_bitin_Reader_Align : Nat := 218
abbrev T_int : Nat := 3
abbrev T_uint8 : Nat := 5
abbrev T_string : Nat := 9
abbrev T_S_string : Nat := 22
abbrev T_api_Sign : Nat := 24
abbrev T_api_Change : Nat := 26
abbrev T_api_Errno : Nat := 27
abbrev T_api_Object : Nat := 33
abbrev T_api_Label : Nat := 37
abbrev T_api_File : Nat := 39
abbrev T_S_api_File : Nat := 42
abbrev T_snap_Snap : Nat := 72
abbrev T_odb_Odb : Nat := 78
abbrev T_map_string_refs_row : Nat := 90
abbrev T_refs_Refs : Nat := 92
abbrev T_refs_row : Nat := 96
abbrev T_S_uint8 : Nat := 108
abbrev T_S_uint32 : Nat := 110
abbrev T_uint64 : Nat := 111
abbrev T_sha_hash : Nat := 113
abbrev T_sha_Hash1 : Nat := 115
abbrev T_uint32 : Nat := 128
abbrev T_commit_reader : Nat := 138
abbrev T_bitin_Writer : Nat := 160
abbrev T_map_string_int : Nat := 165
abbrev T_80_uint32 : Nat := 204
abbrev T_sums_Adler : Nat := 207
abbrev T_S_int : Nat := 209
abbrev T_huff_Table : Nat := 215
abbrev T_20_uint64 : Nat := 264
abbrev T_inflate_state : Nat := 270
abbrev T_bitin_Reader : Nat := 279
abbrev T_19_int : Nat := 295
abbrev G_bytealg_MaxLen : Nat := 0
abbrev G_strconv_uint64pow10 : Nat := 3
end Go.Proofs.YtllegkmadljmaaaGreatDoor

/- Formulas of 13 Go functions of this seat (written by a program of the author's, vcgen.py), and that each is enough for the call. No condition. -/
set_option linter.unusedVariables false
namespace Go.Proofs.YtllegkmadljmaaaGreatDoor
open Go Vc Go.Proofs
set_option maxRecDepth 100000
def vc_strings_IndexByte (x0 : ByteArray) (x1 : Int) (w : World) (R : Value → World → Prop) : Prop :=
 Calls Tryz.prog (136 : Nat) (Array.mk [Value.string x0, Value.int .u8 x1]) (w) (fun e1 w2 =>
 ∃ n3 : Int, (e1 = Ending.returned (Value.int .i64 n3) ∧
 R (Value.int .i64 n3) w2))
theorem vc_strings_IndexByte_ok {x0 : ByteArray} {x1 : Int} {w : World} {R : Value → World → Prop} {R' : Ending → World → Prop} (h : vc_strings_IndexByte x0 x1 w R) (hR : ∀ v w', R v w' → R' (.returned v) w') :
    Calls Tryz.prog 140 #[.string x0, .int .u8 x1] w R' :=
  calls_of_body (vs := [(.string x0, false), (.int .u8 x1, false)]) (ty := ty) (ann := ⟨[], [], [], []⟩) (c := Tryz.f140.body.getD .skip) (by kernel_rfl) Tryz.func140 (by kernel_rfl) (by kernel_rfl) (Eq.mp (by kernel_rfl) h) hR
def vc_stringslite_Index (x0 : ByteArray) (x1 : ByteArray) (w : World) (R : Value → World → Prop) : Prop :=
 ∃ I1 : World → Prop, ((((((↑(ByteArray.size x1) : Int) == 0) = true →
 R (Value.int .i64 0) w)) ∧
 (((↑(ByteArray.size x1) : Int) == 0) = false →
 ((((ByteArray.toList x1 == ByteArray.toList x0) = true →
 R (Value.int .i64 0) w)) ∧
 ((ByteArray.toList x1 == ByteArray.toList x0) = false →
 (((((↑(ByteArray.size x1) : Int) == 1) = true →
 (((0 : Int) ≤ (0 : Int) ∧
 0 < (↑(ByteArray.size x1) : Int)) ∧
 Calls Tryz.prog (136 : Nat) (Array.mk [Value.string x0, Value.int .u8 (byteAt x1 0)]) (w) (fun e2 w3 =>
 ∃ n4 : Int, (e2 = Ending.returned (Value.int .i64 n4) ∧
 R (Value.int .i64 n4) w3))))) ∧
 (((↑(ByteArray.size x1) : Int) == 1) = false →
 (((decide ((↑(ByteArray.size x1) : Int) ≥ (↑(ByteArray.size x0) : Int)) = true →
 R (Value.int .i64 (-1)) w)) ∧
 (decide ((↑(ByteArray.size x1) : Int) ≥ (↑(ByteArray.size x0) : Int)) = false →
 ∃ n5 : Int, (World.cell? w (Addr.mk 0 0 none) = some (Value.int .i64 n5) ∧
 (((decide ((↑(ByteArray.size x1) : Int) ≤ n5) = true →
 (((decide ((↑(ByteArray.size x0) : Int) ≤ 64) = true →
 False)) ∧
 (decide ((↑(ByteArray.size x0) : Int) ≤ 64) = false →
 I1 w)))) ∧
 (decide ((↑(ByteArray.size x1) : Int) ≤ n5) = false →
 I1 w))))))))))) ∧
 ∀ w6 : World,
 (I1 w6 →
 (((0 : Int) ≤ (0 : Int) ∧
 0 < (↑(ByteArray.size x1) : Int)) ∧
 (((0 : Int) ≤ (1 : Int) ∧
 1 < (↑(ByteArray.size x1) : Int)) ∧
 ∃ I7 : Int → Int → World → Prop, ∃ I8 : Int → Int → World → Nat, (I7 0 0 w6 ∧
 ∀ n9 : Int,
 ∀ n10 : Int,
 ∀ w11 : World,
 (I7 n9 n10 w11 →
 (((decide (n9 < IntKind.wrap .i64 (IntKind.wrap .i64 ((↑(ByteArray.size x0) : Int) - (↑(ByteArray.size x1) : Int)) + 1)) = true →
 ∃ I12 : Int → World → Prop, (((0 ≤ n9 ∧
 n9 < (↑(ByteArray.size x0) : Int)) ∧
 ((((byteAt x0 n9 != byteAt x1 0) = true →
 ((0 ≤ IntKind.wrap .i64 (n9 + 1) ∧
 (IntKind.wrap .i64 (n9 + 1) ≤ IntKind.wrap .i64 (IntKind.wrap .i64 ((↑(ByteArray.size x0) : Int) - (↑(ByteArray.size x1) : Int)) + 1) ∧
 IntKind.wrap .i64 (IntKind.wrap .i64 ((↑(ByteArray.size x0) : Int) - (↑(ByteArray.size x1) : Int)) + 1) ≤ (↑(ByteArray.size x0) : Int))) ∧
 Calls Tryz.prog (136 : Nat) (Array.mk [Value.string (ByteArray.extract x0 (Int.toNat (IntKind.wrap .i64 (n9 + 1))) (Int.toNat (IntKind.wrap .i64 (IntKind.wrap .i64 ((↑(ByteArray.size x0) : Int) - (↑(ByteArray.size x1) : Int)) + 1)))), Value.int .u8 (byteAt x1 0)]) (w11) (fun e13 w14 =>
 ∃ n15 : Int, (e13 = Ending.returned (Value.int .i64 n15) ∧
 (((decide (n15 < 0) = true →
 R (Value.int .i64 (-1)) w14)) ∧
 (decide (n15 < 0) = false →
 I12 (IntKind.wrap .i64 (n9 + IntKind.wrap .i64 (n15 + 1))) w14))))))) ∧
 ((byteAt x0 n9 != byteAt x1 0) = false →
 I12 n9 w11))) ∧
 ∀ n16 : Int,
 ∀ w17 : World,
 (I12 n16 w17 →
 ∃ I18 : World → Prop, (((0 ≤ IntKind.wrap .i64 (n16 + 1) ∧
 IntKind.wrap .i64 (n16 + 1) < (↑(ByteArray.size x0) : Int)) ∧
 ((((byteAt x0 (IntKind.wrap .i64 (n16 + 1)) == byteAt x1 1) = true →
 ((0 ≤ n16 ∧
 (n16 ≤ IntKind.wrap .i64 (n16 + (↑(ByteArray.size x1) : Int)) ∧
 IntKind.wrap .i64 (n16 + (↑(ByteArray.size x1) : Int)) ≤ (↑(ByteArray.size x0) : Int))) ∧
 ((((ByteArray.toList (ByteArray.extract x0 (Int.toNat n16) (Int.toNat (IntKind.wrap .i64 (n16 + (↑(ByteArray.size x1) : Int))))) == ByteArray.toList x1) = true →
 R (Value.int .i64 n16) w17)) ∧
 ((ByteArray.toList (ByteArray.extract x0 (Int.toNat n16) (Int.toNat (IntKind.wrap .i64 (n16 + (↑(ByteArray.size x1) : Int))))) == ByteArray.toList x1) = false →
 I18 w17))))) ∧
 ((byteAt x0 (IntKind.wrap .i64 (n16 + 1)) == byteAt x1 1) = false →
 I18 w17))) ∧
 ∀ w19 : World,
 (I18 w19 →
 ∃ I20 : Bool → World → Prop, ((∃ n21 : Int, (World.cell? w19 (Addr.mk 0 0 none) = some (Value.int .i64 n21) ∧
 (((decide ((↑(ByteArray.size x1) : Int) ≤ n21) = true →
 Calls Tryz.prog (138 : Nat) (Array.mk [Value.int .i64 (IntKind.wrap .i64 (n16 + 1))]) (w19) (fun e22 w23 =>
 ∃ n24 : Int, (e22 = Ending.returned (Value.int .i64 n24) ∧
 I20 (decide (IntKind.wrap .i64 (n10 + 1) > n24)) w23)))) ∧
 (decide ((↑(ByteArray.size x1) : Int) ≤ n21) = false →
 I20 false w19)))) ∧
 ∀ b25 : Bool,
 ∀ w26 : World,
 (I20 b25 w26 →
 (((b25 = true →
 ((0 ≤ IntKind.wrap .i64 (n16 + 1) ∧
 IntKind.wrap .i64 (n16 + 1) ≤ (↑(ByteArray.size x0) : Int)) ∧
 False))) ∧
 (b25 = false →
 ∃ n27 : Int, (World.cell? w26 (Addr.mk 0 0 none) = some (Value.int .i64 n27) ∧
 (((decide ((↑(ByteArray.size x1) : Int) > n27) = true →
 ((0 : Int) ≤ (4 : Int) ∧
 (((decide (IntKind.wrap .i64 (n10 + 1) ≥ IntKind.wrap .i64 (4 + Int.fdiv (IntKind.wrap .i64 (n16 + 1)) (2 ^ min (Int.toNat 4) 64))) = true →
 (((decide (IntKind.wrap .i64 (n16 + 1) < IntKind.wrap .i64 (IntKind.wrap .i64 ((↑(ByteArray.size x0) : Int) - (↑(ByteArray.size x1) : Int)) + 1)) = true →
 ((0 ≤ IntKind.wrap .i64 (n16 + 1) ∧
 IntKind.wrap .i64 (n16 + 1) ≤ (↑(ByteArray.size x0) : Int)) ∧
 Calls Tryz.prog (139 : Nat) (Array.mk [Value.string (ByteArray.extract x0 (Int.toNat (IntKind.wrap .i64 (n16 + 1))) (ByteArray.size x0)), Value.string x1]) (w26) (fun e28 w29 =>
 ∃ n30 : Int, (e28 = Ending.returned (Value.int .i64 n30) ∧
 (((decide (n30 < 0) = true →
 R (Value.int .i64 (-1)) w29)) ∧
 (decide (n30 < 0) = false →
 R (Value.int .i64 (IntKind.wrap .i64 (IntKind.wrap .i64 (n16 + 1) + n30))) w29))))))) ∧
 (decide (IntKind.wrap .i64 (n16 + 1) < IntKind.wrap .i64 (IntKind.wrap .i64 ((↑(ByteArray.size x0) : Int) - (↑(ByteArray.size x1) : Int)) + 1)) = false →
 (I7 (IntKind.wrap .i64 (n16 + 1)) (IntKind.wrap .i64 (n10 + 1)) w26 ∧
 I8 (IntKind.wrap .i64 (n16 + 1)) (IntKind.wrap .i64 (n10 + 1)) w26 < I8 n9 n10 w11))))) ∧
 (decide (IntKind.wrap .i64 (n10 + 1) ≥ IntKind.wrap .i64 (4 + Int.fdiv (IntKind.wrap .i64 (n16 + 1)) (2 ^ min (Int.toNat 4) 64))) = false →
 (I7 (IntKind.wrap .i64 (n16 + 1)) (IntKind.wrap .i64 (n10 + 1)) w26 ∧
 I8 (IntKind.wrap .i64 (n16 + 1)) (IntKind.wrap .i64 (n10 + 1)) w26 < I8 n9 n10 w11)))))) ∧
 (decide ((↑(ByteArray.size x1) : Int) > n27) = false →
 (I7 (IntKind.wrap .i64 (n16 + 1)) (IntKind.wrap .i64 (n10 + 1)) w26 ∧
 I8 (IntKind.wrap .i64 (n16 + 1)) (IntKind.wrap .i64 (n10 + 1)) w26 < I8 n9 n10 w11)))))))))))))) ∧
 (decide (n9 < IntKind.wrap .i64 (IntKind.wrap .i64 ((↑(ByteArray.size x0) : Int) - (↑(ByteArray.size x1) : Int)) + 1)) = false →
 R (Value.int .i64 (-1)) w11))))))))
theorem vc_stringslite_Index_ok {x0 : ByteArray} {x1 : ByteArray} {w : World} {R : Value → World → Prop} {R' : Ending → World → Prop} (h : vc_stringslite_Index x0 x1 w R) (hR : ∀ v w', R v w' → R' (.returned v) w') :
    Calls Tryz.prog 91 #[.string x0, .string x1] w R' :=
  calls_of_body (vs := [(.string x0, false), (.string x1, false)]) (ty := ty) (ann := ⟨[(10, []), (21, [(8, .int .i64)]), (23, []), (26, [(107, .bool)])], [(15, [(8, .int .i64), (10, .int .i64)])], [], []⟩) (c := Tryz.f91.body.getD .skip) (by kernel_rfl) Tryz.func91 (by kernel_rfl) (by kernel_rfl) (Eq.mp (by kernel_rfl) h) hR
def vc_strings_Index (x0 : ByteArray) (x1 : ByteArray) (w : World) (R : Value → World → Prop) : Prop :=
 Calls Tryz.prog (91 : Nat) (Array.mk [Value.string x0, Value.string x1]) (w) (fun e1 w2 =>
 ∃ n3 : Int, (e1 = Ending.returned (Value.int .i64 n3) ∧
 R (Value.int .i64 n3) w2))
theorem vc_strings_Index_ok {x0 : ByteArray} {x1 : ByteArray} {w : World} {R : Value → World → Prop} {R' : Ending → World → Prop} (h : vc_strings_Index x0 x1 w R) (hR : ∀ v w', R v w' → R' (.returned v) w') :
    Calls Tryz.prog 61 #[.string x0, .string x1] w R' :=
  calls_of_body (vs := [(.string x0, false), (.string x1, false)]) (ty := ty) (ann := ⟨[], [], [], []⟩) (c := Tryz.f61.body.getD .skip) (by kernel_rfl) Tryz.func61 (by kernel_rfl) (by kernel_rfl) (Eq.mp (by kernel_rfl) h) hR
def vc_stringslite_Cut (x0 : ByteArray) (x1 : ByteArray) (w : World) (R : Value → World → Prop) : Prop :=
 Calls Tryz.prog (91 : Nat) (Array.mk [Value.string x0, Value.string x1]) (w) (fun e1 w2 =>
 ∃ n3 : Int, (e1 = Ending.returned (Value.int .i64 n3) ∧
 (((decide (n3 ≥ 0) = true →
 ((0 ≤ n3 ∧
 n3 ≤ (↑(ByteArray.size x0) : Int)) ∧
 ((0 ≤ IntKind.wrap .i64 (n3 + (↑(ByteArray.size x1) : Int)) ∧
 IntKind.wrap .i64 (n3 + (↑(ByteArray.size x1) : Int)) ≤ (↑(ByteArray.size x0) : Int)) ∧
 ∀ w4 : World,
 (Drew w2 w4 →
 R (Value.tuple (Array.mk [Value.string (ByteArray.extract x0 0 (Int.toNat n3)), Value.string (ByteArray.extract x0 (Int.toNat (IntKind.wrap .i64 (n3 + (↑(ByteArray.size x1) : Int)))) (ByteArray.size x0)), Value.bool true])) w4))))) ∧
 (decide (n3 ≥ 0) = false →
 R (Value.tuple (Array.mk [Value.string x0, Value.string (ByteArray.mk (Array.mk [])), Value.bool false])) w2))))
theorem vc_stringslite_Cut_ok {x0 : ByteArray} {x1 : ByteArray} {w : World} {R : Value → World → Prop} {R' : Ending → World → Prop} (h : vc_stringslite_Cut x0 x1 w R) (hR : ∀ v w', R v w' → R' (.returned v) w') :
    Calls Tryz.prog 78 #[.string x0, .string x1] w R' :=
  calls_of_body (vs := [(.string x0, false), (.string x1, false)]) (ty := ty) (ann := ⟨[], [], [(3, .quiet)], []⟩) (c := Tryz.f78.body.getD .skip) (by kernel_rfl) Tryz.func78 (by kernel_rfl) (by kernel_rfl) (Eq.mp (by kernel_rfl) h) hR
def vc_strings_Cut (x0 : ByteArray) (x1 : ByteArray) (w : World) (R : Value → World → Prop) : Prop :=
 Calls Tryz.prog (78 : Nat) (Array.mk [Value.string x0, Value.string x1]) (w) (fun e1 w2 =>
 ∃ s3 : ByteArray, ∃ s4 : ByteArray, ∃ b5 : Bool, (e1 = Ending.returned (Value.tuple (Array.mk [Value.string s3, Value.string s4, Value.bool b5])) ∧
 R (Value.tuple (Array.mk [Value.string s3, Value.string s4, Value.bool b5])) w2))
theorem vc_strings_Cut_ok {x0 : ByteArray} {x1 : ByteArray} {w : World} {R : Value → World → Prop} {R' : Ending → World → Prop} (h : vc_strings_Cut x0 x1 w R) (hR : ∀ v w', R v w' → R' (.returned v) w') :
    Calls Tryz.prog 46 #[.string x0, .string x1] w R' :=
  calls_of_body (vs := [(.string x0, false), (.string x1, false)]) (ty := ty) (ann := ⟨[], [], [], []⟩) (c := Tryz.f46.body.getD .skip) (by kernel_rfl) Tryz.func46 (by kernel_rfl) (by kernel_rfl) (Eq.mp (by kernel_rfl) h) hR
def vc_strings_IndexRune (x0 : ByteArray) (x1 : Int) (w : World) (R : Value → World → Prop) : Prop :=
 ∃ I1 : Bool → World → Prop, ((((decide (0 ≤ x1) = true →
 I1 (decide (x1 < 128)) w)) ∧
 (decide (0 ≤ x1) = false →
 I1 false w)) ∧
 ∀ b2 : Bool,
 ∀ w3 : World,
 (I1 b2 w3 →
 (((b2 = true →
 Calls Tryz.prog (140 : Nat) (Array.mk [Value.string x0, Value.int .u8 (IntKind.wrap .u8 x1)]) (w3) (fun e4 w5 =>
 ∃ n6 : Int, (e4 = Ending.returned (Value.int .i64 n6) ∧
 R (Value.int .i64 n6) w5)))) ∧
 (b2 = false →
 ((((x1 == 65533) = true →
 ∃ w7 : World, ∃ a8 : Addr, (Sem.run Tryz.prog (Instr.range 9 (Value.string x0)) w3 = Result.ok (Value.pointer (some a8)) w7 ∧
 ∃ I9 : World → Prop, ∃ I10 : World → Nat, (I9 w7 ∧
 ∀ w11 : World,
 (I9 w11 →
 ((∃ w12 : World, (Sem.run Tryz.prog (Instr.next (Value.pointer (some a8)) true 0) w11 = Result.ok (Value.tuple (Array.mk [Value.bool false])) w12 ∧
 (((false = true →
 False)) ∧
 (false = false →
 R (Value.int .i64 (-1)) w12)))) ∨
 (∃ w13 : World, ∃ n14 : Int, ∃ n15 : Int, (Sem.run Tryz.prog (Instr.next (Value.pointer (some a8)) true 0) w11 = Result.ok (Value.tuple (Array.mk [Value.bool true, Value.int .i64 n14, Value.int .i32 n15])) w13 ∧
 (((true = true →
 ((((n15 == 65533) = true →
 R (Value.int .i64 n14) w13)) ∧
 ((n15 == 65533) = false →
 (I9 w13 ∧
 I10 w13 < I10 w11))))) ∧
 (true = false →
 R (Value.int .i64 (-1)) w13)))))))))) ∧
 ((x1 == 65533) = false →
 Calls Tryz.prog (141 : Nat) (Array.mk [Value.int .i32 x1]) (w3) (fun e16 w17 =>
 ∃ b18 : Bool, (e16 = Ending.returned (Value.bool b18) ∧
 ((((!b18) = true →
 R (Value.int .i64 (-1)) w17)) ∧
 ((!b18) = false →
 ∃ w19 : World, ∃ s20 : ByteArray, (Sem.run Tryz.prog (convert 21 9 (Value.int .i32 x1)) w17 = Result.ok (Value.string s20) w19 ∧
 ∃ I21 : Int → World → Prop, ∃ I22 : Int → World → Nat, (I21 (IntKind.wrap .i64 ((↑(ByteArray.size s20) : Int) - 1)) w19 ∧
 ∀ n23 : Int,
 ∀ w24 : World,
 (I21 n23 w24 →
 (((decide (n23 < (↑(ByteArray.size x0) : Int)) = true →
 ∃ I25 : Int → World → Prop, (((0 ≤ n23 ∧
 n23 < (↑(ByteArray.size x0) : Int)) ∧
 ((0 ≤ IntKind.wrap .i64 ((↑(ByteArray.size s20) : Int) - 1) ∧
 IntKind.wrap .i64 ((↑(ByteArray.size s20) : Int) - 1) < (↑(ByteArray.size s20) : Int)) ∧
 ∀ w26 : World,
 (Drew w24 w26 →
 ((((byteAt x0 n23 != byteAt s20 (IntKind.wrap .i64 ((↑(ByteArray.size s20) : Int) - 1))) = true →
 ∀ w27 : World,
 (Drew w26 w27 →
 ∃ I28 : World → Prop, (I28 w27 ∧
 ((0 ≤ IntKind.wrap .i64 (n23 + 1) ∧
 IntKind.wrap .i64 (n23 + 1) ≤ (↑(ByteArray.size x0) : Int)) ∧
 ((0 ≤ IntKind.wrap .i64 ((↑(ByteArray.size s20) : Int) - 1) ∧
 IntKind.wrap .i64 ((↑(ByteArray.size s20) : Int) - 1) < (↑(ByteArray.size s20) : Int)) ∧
 Calls Tryz.prog (140 : Nat) (Array.mk [Value.string (ByteArray.extract x0 (Int.toNat (IntKind.wrap .i64 (n23 + 1))) (ByteArray.size x0)), Value.int .u8 (byteAt s20 (IntKind.wrap .i64 ((↑(ByteArray.size s20) : Int) - 1)))]) (w27) (fun e29 w30 =>
 ∃ n31 : Int, (e29 = Ending.returned (Value.int .i64 n31) ∧
 (I28 w30 ∧
 (((decide (n31 < 0) = true →
 R (Value.int .i64 (-1)) w30)) ∧
 (decide (n31 < 0) = false →
 I25 (IntKind.wrap .i64 (n23 + IntKind.wrap .i64 (n31 + 1))) w30))))))))))) ∧
 ((byteAt x0 n23 != byteAt s20 (IntKind.wrap .i64 ((↑(ByteArray.size s20) : Int) - 1))) = false →
 I25 n23 w26))))) ∧
 ∀ n32 : Int,
 ∀ w33 : World,
 (I25 n32 w33 →
 ∃ I34 : Int → World → Prop, ∃ I35 : Int → World → Nat, (I34 1 w33 ∧
 ∀ n36 : Int,
 ∀ w37 : World,
 (I34 n36 w37 →
 (((decide (n36 < (↑(ByteArray.size s20) : Int)) = true →
 ((0 ≤ IntKind.wrap .i64 (n32 - n36) ∧
 IntKind.wrap .i64 (n32 - n36) < (↑(ByteArray.size x0) : Int)) ∧
 ((0 ≤ IntKind.wrap .i64 (IntKind.wrap .i64 ((↑(ByteArray.size s20) : Int) - 1) - n36) ∧
 IntKind.wrap .i64 (IntKind.wrap .i64 ((↑(ByteArray.size s20) : Int) - 1) - n36) < (↑(ByteArray.size s20) : Int)) ∧
 ∀ w38 : World,
 (Drew w37 w38 →
 ((((byteAt x0 (IntKind.wrap .i64 (n32 - n36)) != byteAt s20 (IntKind.wrap .i64 (IntKind.wrap .i64 ((↑(ByteArray.size s20) : Int) - 1) - n36))) = true →
 False)) ∧
 ((byteAt x0 (IntKind.wrap .i64 (n32 - n36)) != byteAt s20 (IntKind.wrap .i64 (IntKind.wrap .i64 ((↑(ByteArray.size s20) : Int) - 1) - n36))) = false →
 (I34 (IntKind.wrap .i64 (n36 + 1)) w38 ∧
 I35 (IntKind.wrap .i64 (n36 + 1)) w38 < I35 n36 w37)))))))) ∧
 (decide (n36 < (↑(ByteArray.size s20) : Int)) = false →
 R (Value.int .i64 (IntKind.wrap .i64 (n32 - IntKind.wrap .i64 ((↑(ByteArray.size s20) : Int) - 1)))) w37)))))))) ∧
 (decide (n23 < (↑(ByteArray.size x0) : Int)) = false →
 R (Value.int .i64 (-1)) w24)))))))))))))))
theorem vc_strings_IndexRune_ok {x0 : ByteArray} {x1 : Int} {w : World} {R : Value → World → Prop} {R' : Ending → World → Prop} (h : vc_strings_IndexRune x0 x1 w R) (hR : ∀ v w', R v w' → R' (.returned v) w') :
    Calls Tryz.prog 92 #[.string x0, .int .i32 x1] w R' :=
  calls_of_body (vs := [(.string x0, false), (.int .i32 x1, false)]) (ty := ty) (ann := ⟨[(11, [(9, .int .i64)]), (35, [(160, .bool)])], [(5, [(9, .int .i64)]), (12, [(12, .int .i64)]), (25, []), (29, []), (38, [])], [(6, .quiet), (7, .held [(0, true), (1, true), (2, true), (3, true), (4, true), (5, true), (6, true), (7, false), (8, true)]), (14, .quiet), (31, .quiet)], []⟩) (c := Tryz.f92.body.getD .skip) (by kernel_rfl) Tryz.func92 (by kernel_rfl) (by kernel_rfl) (Eq.mp (by kernel_rfl) h) hR
def vc_strings_IndexAny (x0 : ByteArray) (x1 : ByteArray) (w : World) (R : Value → World → Prop) : Prop :=
 ((((ByteArray.toList x1 == ByteArray.toList (ByteArray.mk (Array.mk []))) = true →
 R (Value.int .i64 (-1)) w)) ∧
 ((ByteArray.toList x1 == ByteArray.toList (ByteArray.mk (Array.mk []))) = false →
 (((((↑(ByteArray.size x1) : Int) == 1) = true →
 (((0 : Int) ≤ (0 : Int) ∧
 0 < (↑(ByteArray.size x1) : Int)) ∧
 (((decide (IntKind.wrap .i32 (byteAt x1 0) ≥ 128) = true →
 Calls Tryz.prog (92 : Nat) (Array.mk [Value.string x0, Value.int .i32 65533]) (w) (fun e1 w2 =>
 ∃ n3 : Int, (e1 = Ending.returned (Value.int .i64 n3) ∧
 R (Value.int .i64 n3) w2)))) ∧
 (decide (IntKind.wrap .i32 (byteAt x1 0) ≥ 128) = false →
 Calls Tryz.prog (92 : Nat) (Array.mk [Value.string x0, Value.int .i32 (IntKind.wrap .i32 (byteAt x1 0))]) (w) (fun e4 w5 =>
 ∃ n6 : Int, (e4 = Ending.returned (Value.int .i64 n6) ∧
 R (Value.int .i64 n6) w5))))))) ∧
 (((↑(ByteArray.size x1) : Int) == 1) = false →
 ∃ I7 : World → Prop, (Calls Tryz.prog (93 : Nat) (Array.mk [Value.int .i64 (↑(ByteArray.size x0) : Int)]) (w) (fun e8 w9 =>
 ∃ b10 : Bool, (e8 = Ending.returned (Value.bool b10) ∧
 (((b10 = true →
 Calls Tryz.prog (94 : Nat) (Array.mk [Value.string x1]) (w9) (fun e11 w12 =>
 ∃ v13 : Value, ∃ b14 : Bool, (e11 = Ending.returned (Value.tuple (Array.mk [v13, Value.bool b14])) ∧
 ∀ w15 : World,
 (w15 = World.alloc w12 (Obj.cells (Array.mk [Value.bool false, Value.bool false, Value.bool false, Value.bool false, Value.bool false, Value.bool false, Value.bool false, Value.bool false, Value.bool false, Value.bool false, Value.bool false, Value.bool false, Value.bool false, Value.bool false, Value.bool false, Value.bool false, Value.bool false, Value.bool false, Value.bool false, Value.bool false, Value.bool false, Value.bool false, Value.bool false, Value.bool false, Value.bool false, Value.bool false, Value.bool false, Value.bool false, Value.bool false, Value.bool false, Value.bool false, Value.bool false, Value.bool false, Value.bool false, Value.bool false, Value.bool false, Value.bool false, Value.bool false, Value.bool false, Value.bool false, Value.bool false, Value.bool false, Value.bool false, Value.bool false, Value.bool false, Value.bool false, Value.bool false, Value.bool false, Value.bool false, Value.bool false, Value.bool false, Value.bool false, Value.bool false, Value.bool false, Value.bool false, Value.bool false, Value.bool false, Value.bool false, Value.bool false, Value.bool false, Value.bool false, Value.bool false, Value.bool false, Value.bool false, Value.bool false, Value.bool false, Value.bool false, Value.bool false, Value.bool false, Value.bool false, Value.bool false, Value.bool false, Value.bool false, Value.bool false, Value.bool false, Value.bool false, Value.bool false, Value.bool false, Value.bool false, Value.bool false, Value.bool false, Value.bool false, Value.bool false, Value.bool false, Value.bool false, Value.bool false, Value.bool false, Value.bool false, Value.bool false, Value.bool false, Value.bool false, Value.bool false, Value.bool false, Value.bool false, Value.bool false, Value.bool false, Value.bool false, Value.bool false, Value.bool false, Value.bool false, Value.bool false, Value.bool false, Value.bool false, Value.bool false, Value.bool false, Value.bool false, Value.bool false, Value.bool false, Value.bool false, Value.bool false, Value.bool false, Value.bool false, Value.bool false, Value.bool false, Value.bool false, Value.bool false, Value.bool false, Value.bool false, Value.bool false, Value.bool false, Value.bool false, Value.bool false, Value.bool false, Value.bool false, Value.bool false, Value.bool false, Value.bool false, Value.bool false, Value.bool false, Value.bool false, Value.bool false, Value.bool false, Value.bool false, Value.bool false, Value.bool false, Value.bool false, Value.bool false, Value.bool false, Value.bool false, Value.bool false, Value.bool false, Value.bool false, Value.bool false, Value.bool false, Value.bool false, Value.bool false, Value.bool false, Value.bool false, Value.bool false, Value.bool false, Value.bool false, Value.bool false, Value.bool false, Value.bool false, Value.bool false, Value.bool false, Value.bool false, Value.bool false, Value.bool false, Value.bool false, Value.bool false, Value.bool false, Value.bool false, Value.bool false, Value.bool false, Value.bool false, Value.bool false, Value.bool false, Value.bool false, Value.bool false, Value.bool false, Value.bool false, Value.bool false, Value.bool false, Value.bool false, Value.bool false, Value.bool false, Value.bool false, Value.bool false, Value.bool false, Value.bool false, Value.bool false, Value.bool false, Value.bool false, Value.bool false, Value.bool false, Value.bool false, Value.bool false, Value.bool false, Value.bool false, Value.bool false, Value.bool false, Value.bool false, Value.bool false, Value.bool false, Value.bool false, Value.bool false, Value.bool false, Value.bool false, Value.bool false, Value.bool false, Value.bool false, Value.bool false, Value.bool false, Value.bool false, Value.bool false, Value.bool false, Value.bool false, Value.bool false, Value.bool false, Value.bool false, Value.bool false, Value.bool false, Value.bool false, Value.bool false, Value.bool false, Value.bool false, Value.bool false, Value.bool false, Value.bool false, Value.bool false, Value.bool false, Value.bool false, Value.bool false, Value.bool false, Value.bool false, Value.bool false, Value.bool false, Value.bool false, Value.bool false, Value.bool false, Value.bool false, Value.bool false, Value.bool false, Value.bool false, Value.bool false, Value.bool false, Value.bool false, Value.bool false, Value.bool false, Value.bool false, Value.bool false, Value.bool false, Value.bool false, Value.bool false, Value.bool false, Value.bool false, Value.bool false, Value.bool false, Value.bool false, Value.bool false, Value.bool false, Value.bool false, Value.bool false, Value.bool false, Value.bool false]) 146) →
 ∃ w16 : World, (Sem.run Tryz.prog (storeVar 146 (Addr.mk (Array.size (World.heap w12)) 0 none) v13) w15 = Result.ok PUnit.unit w16 ∧
 (((b14 = true →
 ∃ I17 : Int → World → Prop, ∃ I18 : Int → World → Nat, (I17 0 w16 ∧
 ∀ n19 : Int,
 ∀ w20 : World,
 (I17 n19 w20 →
 (((decide (n19 < (↑(ByteArray.size x0) : Int)) = true →
 ((0 ≤ n19 ∧
 n19 < (↑(ByteArray.size x0) : Int)) ∧
 Calls Tryz.prog (95 : Nat) (Array.mk [Value.pointer (some (Addr.mk (Array.size (World.heap w12)) 0 none)), Value.int .u8 (byteAt x0 n19)]) (w20) (fun e21 w22 =>
 ∃ b23 : Bool, (e21 = Ending.returned (Value.bool b23) ∧
 (((b23 = true →
 R (Value.int .i64 n19) w22)) ∧
 (b23 = false →
 (I17 (IntKind.wrap .i64 (n19 + 1)) w22 ∧
 I18 (IntKind.wrap .i64 (n19 + 1)) w22 < I18 n19 w20)))))))) ∧
 (decide (n19 < (↑(ByteArray.size x0) : Int)) = false →
 R (Value.int .i64 (-1)) w20)))))) ∧
 (b14 = false →
 I7 w16)))))))) ∧
 (b10 = false →
 I7 w9)))) ∧
 ∀ w24 : World,
 (I7 w24 →
 ∃ w25 : World, ∃ a26 : Addr, (Sem.run Tryz.prog (Instr.range 9 (Value.string x0)) w24 = Result.ok (Value.pointer (some a26)) w25 ∧
 ∃ I27 : World → Prop, ∃ I28 : World → Nat, (I27 w25 ∧
 ∀ w29 : World,
 (I27 w29 →
 ((∃ w30 : World, (Sem.run Tryz.prog (Instr.next (Value.pointer (some a26)) true 0) w29 = Result.ok (Value.tuple (Array.mk [Value.bool false])) w30 ∧
 (((false = true →
 False)) ∧
 (false = false →
 R (Value.int .i64 (-1)) w30)))) ∨
 (∃ w31 : World, ∃ n32 : Int, ∃ n33 : Int, (Sem.run Tryz.prog (Instr.next (Value.pointer (some a26)) true 0) w29 = Result.ok (Value.tuple (Array.mk [Value.bool true, Value.int .i64 n32, Value.int .i32 n33])) w31 ∧
 (((true = true →
 Calls Tryz.prog (92 : Nat) (Array.mk [Value.string x1, Value.int .i32 n33]) (w31) (fun e34 w35 =>
 ∃ n36 : Int, (e34 = Ending.returned (Value.int .i64 n36) ∧
 (((decide (n36 ≥ 0) = true →
 R (Value.int .i64 n32) w35)) ∧
 (decide (n36 ≥ 0) = false →
 (I27 w35 ∧
 I28 w35 < I28 w29))))))) ∧
 (true = false →
 R (Value.int .i64 (-1)) w31))))))))))))))
theorem vc_strings_IndexAny_ok {x0 : ByteArray} {x1 : ByteArray} {w : World} {R : Value → World → Prop} {R' : Ending → World → Prop} (h : vc_strings_IndexAny x0 x1 w R) (hR : ∀ v w', R v w' → R' (.returned v) w') :
    Calls Tryz.prog 63 #[.string x0, .string x1] w R' :=
  calls_of_body (vs := [(.string x0, false), (.string x1, false)]) (ty := ty) (ann := ⟨[(17, [])], [(12, [(8, .int .i64)]), (18, [])], [], []⟩) (c := Tryz.f63.body.getD .skip) (by kernel_rfl) Tryz.func63 (by kernel_rfl) (by kernel_rfl) (Eq.mp (by kernel_rfl) h) hR
def vc_strings_shouldUseASCIISet (x0 : Int) (w : World) (R : Value → World → Prop) : Prop :=
 R (Value.bool (decide (x0 > 8))) w
theorem vc_strings_shouldUseASCIISet_ok {x0 : Int} {w : World} {R : Value → World → Prop} {R' : Ending → World → Prop} (h : vc_strings_shouldUseASCIISet x0 w R) (hR : ∀ v w', R v w' → R' (.returned v) w') :
    Calls Tryz.prog 93 #[.int .i64 x0] w R' :=
  calls_of_body (vs := [(.int .i64 x0, false)]) (ty := ty) (ann := ⟨[], [], [], []⟩) (c := Tryz.f93.body.getD .skip) (by kernel_rfl) Tryz.func93 (by kernel_rfl) (by kernel_rfl) (Eq.mp (by kernel_rfl) h) hR
def vc_strings_ContainsAny (x0 : ByteArray) (x1 : ByteArray) (w : World) (R : Value → World → Prop) : Prop :=
 Calls Tryz.prog (63 : Nat) (Array.mk [Value.string x0, Value.string x1]) (w) (fun e1 w2 =>
 ∃ n3 : Int, (e1 = Ending.returned (Value.int .i64 n3) ∧
 R (Value.bool (decide (n3 ≥ 0))) w2))
theorem vc_strings_ContainsAny_ok {x0 : ByteArray} {x1 : ByteArray} {w : World} {R : Value → World → Prop} {R' : Ending → World → Prop} (h : vc_strings_ContainsAny x0 x1 w R) (hR : ∀ v w', R v w' → R' (.returned v) w') :
    Calls Tryz.prog 26 #[.string x0, .string x1] w R' :=
  calls_of_body (vs := [(.string x0, false), (.string x1, false)]) (ty := ty) (ann := ⟨[], [], [], []⟩) (c := Tryz.f26.body.getD .skip) (by kernel_rfl) Tryz.func26 (by kernel_rfl) (by kernel_rfl) (Eq.mp (by kernel_rfl) h) hR
def vc_utf8_ValidRune (x0 : Int) (w : World) (R : Value → World → Prop) : Prop :=
 (((decide (0 ≤ x0) = true →
 (((decide (x0 < 55296) = true →
 R (Value.bool true) w)) ∧
 (decide (x0 < 55296) = false →
 (((decide (57343 < x0) = true →
 (((decide (x0 ≤ 1114111) = true →
 R (Value.bool true) w)) ∧
 (decide (x0 ≤ 1114111) = false →
 R (Value.bool false) w)))) ∧
 (decide (57343 < x0) = false →
 R (Value.bool false) w)))))) ∧
 (decide (0 ≤ x0) = false →
 (((decide (57343 < x0) = true →
 (((decide (x0 ≤ 1114111) = true →
 R (Value.bool true) w)) ∧
 (decide (x0 ≤ 1114111) = false →
 R (Value.bool false) w)))) ∧
 (decide (57343 < x0) = false →
 R (Value.bool false) w))))
theorem vc_utf8_ValidRune_ok {x0 : Int} {w : World} {R : Value → World → Prop} {R' : Ending → World → Prop} (h : vc_utf8_ValidRune x0 w R) (hR : ∀ v w', R v w' → R' (.returned v) w') :
    Calls Tryz.prog 141 #[.int .i32 x0] w R' :=
  calls_of_body (vs := [(.int .i32 x0, false)]) (ty := ty) (ann := ⟨[], [], [], []⟩) (c := Tryz.f141.body.getD .skip) (by kernel_rfl) Tryz.func141 (by kernel_rfl) (by kernel_rfl) (Eq.mp (by kernel_rfl) h) hR
end Go.Proofs.YtllegkmadljmaaaGreatDoor

/- Structures of the kit over its shelf, at this seat (written by a program of the author's, laysn.py). No condition. -/
namespace Go.Proofs.YtllegkmadljmaaaGreatDoor
open Go Go.Shelf Go.Proofs
def lays217_ren : Go.Shelf.Ren := ⟨fun | 217 => 136 | 266 => 174 | n => n, fun | 3 => 3 | 5 => 5 | 9 => 9 | n => n, fun  | n => n⟩
theorem lays217 : Go.Proofs.Lays.n217 Tryz.prog lays217_ren := {
  mixed := by kernel_rfl,
  f217 := Tryz.func136.trans (congrArg some (by kernel_rfl)),
  f266 := Tryz.func174.trans (congrArg some (by kernel_rfl)),
  t3 := Tryz.underlying3,
  a3 := Tryz.isAgg3,
  z3 := Tryz.sizeOf3,
  v3 := Tryz.zeroValue3,
  t5 := Tryz.underlying5,
  a5 := Tryz.isAgg5,
  z5 := Tryz.sizeOf5,
  v5 := Tryz.zeroValue5,
  t9 := Tryz.underlying9,
  a9 := Tryz.isAgg9,
  z9 := Tryz.sizeOf9,
  v9 := Tryz.zeroValue9 }
def lays153_ren : Go.Shelf.Ren := ⟨fun | 119 => 141 | 137 => 140 | 152 => 92 | 153 => 63 | 217 => 136 | 224 => 138 | 225 => 137 | 226 => 93 | 227 => 94 | 228 => 95 | 266 => 174 | n => n, fun | 0 => 0 | 116 => 146 | 117 => 147 | 124 => 201 | 21 => 21 | 3 => 3 | 4 => 4 | 46 => 109 | 5 => 5 | 9 => 9 | n => n, fun  | n => n⟩
theorem lays153 : Go.Proofs.Lays.n153 Tryz.prog lays153_ren := {
  mixed := by kernel_rfl,
  f119 := Tryz.func141.trans (congrArg some (by kernel_rfl)),
  f137 := Tryz.func140.trans (congrArg some (by kernel_rfl)),
  f152 := Tryz.func92.trans (congrArg some (by kernel_rfl)),
  f153 := Tryz.func63.trans (congrArg some (by kernel_rfl)),
  f217 := Tryz.func136.trans (congrArg some (by kernel_rfl)),
  f224 := Tryz.func138.trans (congrArg some (by kernel_rfl)),
  f225 := Tryz.func137.trans (congrArg some (by kernel_rfl)),
  f226 := Tryz.func93.trans (congrArg some (by kernel_rfl)),
  f227 := Tryz.func94.trans (congrArg some (by kernel_rfl)),
  f228 := Tryz.func95.trans (congrArg some (by kernel_rfl)),
  f266 := Tryz.func174.trans (congrArg some (by kernel_rfl)),
  t0 := Tryz.underlying0,
  a0 := Tryz.isAgg0,
  z0 := Tryz.sizeOf0,
  v0 := Tryz.zeroValue0,
  t3 := Tryz.underlying3,
  a3 := Tryz.isAgg3,
  z3 := Tryz.sizeOf3,
  v3 := Tryz.zeroValue3,
  t4 := Tryz.underlying4,
  a4 := Tryz.isAgg4,
  z4 := Tryz.sizeOf4,
  v4 := Tryz.zeroValue4,
  t5 := Tryz.underlying5,
  a5 := Tryz.isAgg5,
  z5 := Tryz.sizeOf5,
  v5 := Tryz.zeroValue5,
  t9 := Tryz.underlying9,
  a9 := Tryz.isAgg9,
  z9 := Tryz.sizeOf9,
  v9 := Tryz.zeroValue9,
  t21 := Tryz.underlying21,
  a21 := Tryz.isAgg21,
  z21 := Tryz.sizeOf21,
  v21 := Tryz.zeroValue21,
  t46 := Tryz.underlying109,
  a46 := Tryz.isAgg109,
  z46 := Tryz.sizeOf109,
  v46 := Tryz.zeroValue109,
  t116 := Tryz.underlying146,
  a116 := Tryz.isAgg146,
  z116 := Tryz.sizeOf146,
  t117 := Tryz.underlying147,
  a117 := Tryz.isAgg147,
  z117 := Tryz.sizeOf147,
  v117 := Tryz.zeroValue147,
  t124 := Tryz.underlying201,
  a124 := Tryz.isAgg201,
  z124 := Tryz.sizeOf201,
  v124 := Tryz.zeroValue201 }
end Go.Proofs.YtllegkmadljmaaaGreatDoor

/- Go's text functions of this seat: Index at one byte. Conditions: as named. -/
set_option linter.unusedVariables false
namespace Go.Proofs.YtllegkmadljmaaaGreatDoor
open Go Vc Go.Proofs

theorem indexByteL_spec (s : ByteArray) (c : Int) (w : World) : Calls Tryz.prog F_stringslite_IndexByte #[.string s, .int .u8 c] w fun e w' => e = .returned (.int .i64 (Lib.indexByte s.data.toList c.toNat.toUInt8)) ∧ w' = w :=
  Any.stringslite_IndexByte lays217 s c w
/-- 'Index' at one byte. -/
theorem index1_spec (s : ByteArray) (c : Nat) (hc : c < 256) (w : World) : Calls Tryz.prog F_stringslite_Index #[.string s, .string ⟨#[UInt8.ofNat c]⟩] w fun e w' => e = .returned (.int .i64 (Lib.indexByte s.data.toList (UInt8.ofNat c))) ∧ w' = w := by
  refine vc_stringslite_Index_ok (R := fun v w' => v = .int .i64 (Lib.indexByte s.data.toList (UInt8.ofNat c)) ∧ w' = w) ?_ (fun v w' h => ⟨by rw [h.1], h.2⟩)
  have hb : byteAt ⟨#[UInt8.ofNat c]⟩ 0 = (c : Int) := by
    show (((UInt8.ofNat c).toNat : Nat) : Int) = _
    rw [toNat_of c hc]
  have h1 : (ByteArray.mk #[UInt8.ofNat c]).size = 1 := rfl
  refine ⟨fun _ => False, ⟨fun h => absurd h (by rw [h1]; decide), fun _ => ⟨fun h => ?_, fun _ => ⟨fun _ => ⟨⟨by decide, by rw [h1]; decide⟩, ?_⟩, fun h => absurd h (by rw [h1]; decide)⟩⟩⟩, fun _ h => h.elim⟩
  · rw [bs_eq] at h
    have h := of_decide_eq_true h
    subst h
    refine ⟨?_, rfl⟩
    have : Lib.indexByte (ByteArray.mk #[UInt8.ofNat c]).data.toList (UInt8.ofNat c) = ((0 : Nat) : Int) :=
      fnd_at (by rw [h1]; decide) rfl (fun k hk => by omega)
    rw [this]; rfl
  · rw [hb]
    refine (indexByteL_spec s c w).mono ?_
    rintro e w2 ⟨rfl, rfl⟩
    refine ⟨_, rfl, ?_, rfl⟩
    simp
/-- What 'Cut' at one byte says. -/
def cutS (s : ByteArray) (c : UInt8) : ByteArray × ByteArray × Bool :=
  if Lib.indexByte s.data.toList c = -1 then (s, ⟨#[]⟩, false) else (s.extract 0 (Lib.indexByte s.data.toList c).toNat, s.extract ((Lib.indexByte s.data.toList c).toNat + 1) s.size, true)
end Go.Proofs.YtllegkmadljmaaaGreatDoor

/- Formulas of 4 Go functions of this seat (written by a program of the author's, vcgen.py), and that each is enough for the call. No condition. -/
set_option linter.unusedVariables false
namespace Go.Proofs.YtllegkmadljmaaaGreatDoor
open Go Vc Go.Proofs
set_option maxRecDepth 100000
def vc_snap_Clean_1 (x0 : Int) (w : World) (R : Value → World → Prop) : Prop :=
 (((decide (x0 < 32) = true →
 R (Value.bool true) w)) ∧
 (decide (x0 < 32) = false →
 R (Value.bool (decide (x0 > 126))) w))
theorem vc_snap_Clean_1_ok {x0 : Int} {w : World} {R : Value → World → Prop} {R' : Ending → World → Prop} (h : vc_snap_Clean_1 x0 w R) (hR : ∀ v w', R v w' → R' (.returned v) w') :
    Calls Tryz.prog 60 #[.int .i32 x0] w R' :=
  calls_of_body (vs := [(.int .i32 x0, false)]) (ty := ty) (ann := ⟨[], [], [], []⟩) (c := Tryz.f60.body.getD .skip) (by kernel_rfl) Tryz.func60 (by kernel_rfl) (by kernel_rfl) (Eq.mp (by kernel_rfl) h) hR
def vc_strings_indexFunc_clean (x0 : ByteArray) (x2 : Bool) (w : World) (R : Value → World → Prop) : Prop :=
 ∃ w1 : World, ∃ a2 : Addr, (Sem.run Tryz.prog (Instr.range 9 (Value.string x0)) w = Result.ok (Value.pointer (some a2)) w1 ∧
 ∃ I3 : World → Prop, ∃ I4 : World → Nat, (I3 w1 ∧
 ∀ w5 : World,
 (I3 w5 →
 ((∃ w6 : World, (Sem.run Tryz.prog (Instr.next (Value.pointer (some a2)) true 0) w5 = Result.ok (Value.tuple (Array.mk [Value.bool false])) w6 ∧
 (((false = true →
 False)) ∧
 (false = false →
 R (Value.int .i64 (-1)) w6)))) ∨
 (∃ w7 : World, ∃ n8 : Int, ∃ n9 : Int, (Sem.run Tryz.prog (Instr.next (Value.pointer (some a2)) true 0) w5 = Result.ok (Value.tuple (Array.mk [Value.bool true, Value.int .i64 n8, Value.int .i32 n9])) w7 ∧
 (((true = true →
 Calls Tryz.prog (60 : FuncId) (Array.mk [Value.int .i32 n9]) (w7) (fun e10 w11 =>
 ∃ b12 : Bool, (e10 = Ending.returned (Value.bool b12) ∧
 ((((b12 == x2) = true →
 R (Value.int .i64 n8) w11)) ∧
 ((b12 == x2) = false →
 (I3 w11 ∧
 I4 w11 < I4 w5))))))) ∧
 (true = false →
 R (Value.int .i64 (-1)) w7))))))))
theorem vc_strings_indexFunc_clean_ok {x0 : ByteArray} {x2 : Bool} {w : World} {R : Value → World → Prop} {R' : Ending → World → Prop} (h : vc_strings_indexFunc_clean x0 x2 w R) (hR : ∀ v w', R v w' → R' (.returned v) w') :
    Calls Tryz.prog 135 #[.string x0, .func (.func 60) #[] #[], .bool x2] w R' :=
  calls_of_body (vs := [(.string x0, false), (.func (.func 60) #[] #[], false), (.bool x2, false)]) (ty := ty) (ann := ⟨[], [(2, [])], [], []⟩) (c := Tryz.f135.body.getD .skip) (by kernel_rfl) Tryz.func135 (by kernel_rfl) (by kernel_rfl) (Eq.mp (by kernel_rfl) h) hR
def vc_strings_IndexFunc_clean (x0 : ByteArray) (w : World) (R : Value → World → Prop) : Prop :=
 Calls Tryz.prog (135 : Nat) (Array.mk [Value.string x0, Value.func (Fn.func 60) (Array.mk []) (Array.mk []), Value.bool true]) (w) (fun e1 w2 =>
 ∃ n3 : Int, (e1 = Ending.returned (Value.int .i64 n3) ∧
 R (Value.int .i64 n3) w2))
theorem vc_strings_IndexFunc_clean_ok {x0 : ByteArray} {w : World} {R : Value → World → Prop} {R' : Ending → World → Prop} (h : vc_strings_IndexFunc_clean x0 w R) (hR : ∀ v w', R v w' → R' (.returned v) w') :
    Calls Tryz.prog 90 #[.string x0, .func (.func 60) #[] #[]] w R' :=
  calls_of_body (vs := [(.string x0, false), (.func (.func 60) #[] #[], false)]) (ty := ty) (ann := ⟨[], [], [], []⟩) (c := Tryz.f90.body.getD .skip) (by kernel_rfl) Tryz.func90 (by kernel_rfl) (by kernel_rfl) (Eq.mp (by kernel_rfl) h) hR
def vc_strings_ContainsFunc_clean (x0 : ByteArray) (w : World) (R : Value → World → Prop) : Prop :=
 Calls Tryz.prog (90 : Nat) (Array.mk [Value.string x0, Value.func (Fn.func 60) (Array.mk []) (Array.mk [])]) (w) (fun e1 w2 =>
 ∃ n3 : Int, (e1 = Ending.returned (Value.int .i64 n3) ∧
 R (Value.bool (decide (n3 ≥ 0))) w2))
theorem vc_strings_ContainsFunc_clean_ok {x0 : ByteArray} {w : World} {R : Value → World → Prop} {R' : Ending → World → Prop} (h : vc_strings_ContainsFunc_clean x0 w R) (hR : ∀ v w', R v w' → R' (.returned v) w') :
    Calls Tryz.prog 59 #[.string x0, .func (.func 60) #[] #[]] w R' :=
  calls_of_body (vs := [(.string x0, false), (.func (.func 60) #[] #[], false)]) (ty := ty) (ann := ⟨[], [], [], []⟩) (c := Tryz.f59.body.getD .skip) (by kernel_rfl) Tryz.func59 (by kernel_rfl) (by kernel_rfl) (Eq.mp (by kernel_rfl) h) hR
end Go.Proofs.YtllegkmadljmaaaGreatDoor

/- strings.SplitSeq at a slash, a range over it, ContainsFunc, snap.Clean. Conditions: as named. -/
set_option linter.unusedVariables false
namespace Go.Proofs.YtllegkmadljmaaaGreatDoor
open Go Vc Go.Proofs Go.RowKit Go.Shelf
attribute [local go_sem] Oper.semAt_some

/-- The parts of a text, cut at each slash. -/
def partsF : Nat → ByteArray → List ByteArray
  | 0, s => [s]
  | f + 1, s => if Lib.indexByte s.data.toList 47 = -1 then [s] else s.extract 0 (Lib.indexByte s.data.toList 47).toNat :: partsF f (s.extract ((Lib.indexByte s.data.toList 47).toNat + 1) s.size)
theorem index47 (s : ByteArray) (w : World) : Calls Tryz.prog F_strings_Index #[.string s, .string ⟨#[47]⟩] w fun e w' => e = .returned (.int .i64 (Lib.indexByte s.data.toList 47)) ∧ w' = w := by
  refine vc_strings_Index_ok (R := fun v w' => v = .int .i64 (Lib.indexByte s.data.toList 47) ∧ w' = w) ?_ (fun v w' h => ⟨by rw [h.1], h.2⟩)
  refine (index1_spec s 47 (by decide) w).mono ?_
  rintro e w2 ⟨rfl, rfl⟩
  exact ⟨_, rfl, rfl, rfl⟩
theorem partsF_no {s : ByteArray} (h : Lib.indexByte s.data.toList 47 = -1) (g : Nat) : partsF g s = [s] := by
  cases g with
  | zero => rfl
  | succ g => rw [partsF, if_pos h]
theorem partsF_yes {s : ByteArray} {i : Nat} (h : Lib.indexByte s.data.toList 47 = (i : Int)) (g : Nat) : partsF (g + 1) s = s.extract 0 i :: partsF g (s.extract (i + 1) s.size) := by
  rw [partsF, h, if_neg (by omega), Int.toNat_natCast]
set_option maxRecDepth 100000 in
set_option maxHeartbeats 2000000 in
theorem splitSeq_rounds (n : Nat) (hn : 1 ≤ n) (l b0 b1 b2 n₀ : Nat) (h0n : b0 < n₀) (h1n : b1 < n₀) (h2n : b2 < n₀) (h01 : b0 ≠ b1) (h12 : b2 ≠ b1) (s0 : ByteArray) (hs : s0.size ≤ 140737488355328) (f : Nat) (hf : s0.size ≤ f)
    (J Jx : List ByteArray → World → Prop) (hJ : ∀ pre W1 W2, J pre W1 → Fr (· = b1) W1 W2 → J pre W2)
    (hY : ∀ pre x W1, J pre W1 → (∃ r, pre ++ x :: r = partsF f s0) → YieldAt Fence.wide (n - 1) Tryz.prog l #[.string x] W1 fun e W' =>
      (e = .returned (.bool true) ∧ J (pre ++ [x]) W' ∧ Below n₀ W1 W') ∨ (e = .returned (.bool false) ∧ Jx (pre ++ [x]) W'))
    (W : World) (hc0 : W.cell? ⟨b0, 0, none⟩ = some (.string ⟨#[47]⟩)) (hc1 : W.cell? ⟨b1, 0, none⟩ = some (.string s0)) (hc2 : W.cell? ⟨b2, 0, none⟩ = some (.int .i64 0)) (hfz : W.frozen? ⟨b1, 0, none⟩ = false) (hJ0 : J [] W) :
    CallsIn Fence.wide n Tryz.prog 96 #[.func (.yield l) #[] #[], .pointer (some ⟨b0, 0, none⟩), .pointer (some ⟨b1, 0, none⟩), .pointer (some ⟨b2, 0, none⟩)] W fun e W' => (∃ v, e = .returned v) ∧ (J (partsF f s0) W' ∨ ∃ pre, Jx pre W') := by
  refine callsIn_of_wp Tryz.func96 rfl trivial ?_ rfl
  simp only [Tryz.ntmps96, List.size_toArray, List.length_cons, List.length_nil, Nat.reduceAdd, Nat.reduceSub, Array.replicate_succ, Array.replicate_zero, List.push_toArray, List.append_toArray, List.nil_append, List.cons_append]
  gi_wp2
  gi_loopw [] (fun wr => ∃ (pre : List ByteArray) (s : ByteArray) (g : Nat), wr.cell? ⟨b1, 0, none⟩ = some (.string s) ∧ s.size ≤ g ∧ s.size ≤ 140737488355328 ∧ pre ++ partsF g s = partsF f s0 ∧ J pre wr ∧ wr.cell? ⟨b0, 0, none⟩ = some (.string ⟨#[47]⟩) ∧ wr.cell? ⟨b2, 0, none⟩ = some (.int .i64 0) ∧ wr.frozen? ⟨b1, 0, none⟩ = false)
    (fun wr => match wr.cell? ⟨b1, 0, none⟩ with | some (.string s) => s.size | _ => 0)
  case atStart => exact ⟨[], s0, f, hc1, hf, hs, rfl, hJ0, hc0, hc2, hfz⟩
  case round =>
    obtain ⟨pre, s, g, k1, k2, k3, k4, k5, k6, k7, k8⟩ := hrel
    rcases fnd_cases s 47 with ⟨hi, hno⟩ | ⟨i, hi, hlt, hb, hno⟩
    · rw [partsF_no hi] at k4
      obtain ⟨fn, tmps, assign, body, hy, hR⟩ := hY pre s wr k5 ⟨[], k4⟩
      gi_wp2_with (refine ⟨trivial, ?_⟩; gi_at_call 61; refine (callsIn_wide.2 (index47 s _)).mono ?_; rw [hi]; rintro e w' ⟨rfl, rfl⟩)
      refine hR.mono ?_
      rintro e W3 (⟨rfl, hJ3, hk3⟩ | ⟨rfl, hJx3⟩)
      · gi_wp2
        go_end0
        exact ⟨⟨_, rfl⟩, .inl (by rw [← k4]; exact hJ3)⟩
      · gi_wp2
        go_end0
        exact ⟨⟨_, rfl⟩, .inr ⟨_, hJx3⟩⟩
    · obtain ⟨g, rfl⟩ : ∃ g', g = g' + 1 := ⟨g - 1, by omega⟩
      rw [partsF_yes hi] at k4
      obtain ⟨fn, tmps, assign, body, hy, hR⟩ := hY pre (s.extract 0 i) wr k5 ⟨_, k4⟩
      have e1 : IntKind.i64.wrap ((i : Int) + 0) = (i : Int) := by rw [wrap_i64 (by omega) (by omega)]; omega
      have e2 : IntKind.i64.wrap ((i : Int) + 1) = ((i + 1 : Nat) : Int) := by rw [wrap_i64 (by omega) (by omega)]; omega
      gi_wp2_with (refine ⟨trivial, ?_⟩; gi_at_call 61; refine (callsIn_wide.2 (index47 s _)).mono ?_; rw [hi]; rintro e w' ⟨rfl, rfl⟩)
      refine hR.mono ?_
      rintro e W3 (⟨rfl, hJ3, hk3⟩ | ⟨rfl, hJx3⟩)
      · have m0 : W3.cell? ⟨b0, 0, none⟩ = some (.string ⟨#[47]⟩) := (hk3.cell (p := ⟨b0, 0, none⟩) h0n).trans k6
        have m1 : W3.cell? ⟨b1, 0, none⟩ = some (.string s) := (hk3.cell (p := ⟨b1, 0, none⟩) h1n).trans k1
        have m2 : W3.cell? ⟨b2, 0, none⟩ = some (.int .i64 0) := (hk3.cell (p := ⟨b2, 0, none⟩) h2n).trans k7
        have m3 : W3.frozen? ⟨b1, 0, none⟩ = false := (hk3.frozen (p := ⟨b1, 0, none⟩) h1n).trans k8
        gi_wp2
        have hfr : Fr (· = b1) W3 (W3.setCell ⟨b1, 0, none⟩ (.string (s.extract (i + 1) s.size))) := .set _ _ _ rfl
        have c1 : (W3.setCell ⟨b1, 0, none⟩ (.string (s.extract (i + 1) s.size))).cell? ⟨b1, 0, none⟩ = some (.string (s.extract (i + 1) s.size)) := World.cell?_setCell_same' _ _ _ (by rw [m1]; rfl)
        have hsz : (s.extract (i + 1) s.size).size = s.size - (i + 1) := by simp
        refine ⟨⟨pre ++ [s.extract 0 i], s.extract (i + 1) s.size, g, c1, by omega, by omega, by rw [List.append_assoc]; exact k4, hJ _ _ _ hJ3 hfr, hfr.cell m0 h01, hfr.cell m2 h12, by rw [World.frozen?_setCell]; exact m3⟩, ?_⟩
        rw [c1, k1]
        simp only
        omega
      · gi_wp2
        refine bodyPost_ret (results_none rfl _ _ _) rfl ?_
        exact ⟨⟨_, rfl⟩, .inr ⟨_, hJx3⟩⟩
end Go.Proofs.YtllegkmadljmaaaGreatDoor
namespace Go.Proofs.YtllegkmadljmaaaGreatDoor
open Go Vc Go.Proofs Go.RowKit Go.Shelf

/-- How a round's body ends. -/
def RoundEnd (I Ix : List ByteArray → World → Prop) (B : Nat) (xs : List ByteArray) (W : World) : Exit → Act → World → Prop
  | .normal, _, W' => Fr (fun _ => False) W W' ∧ I xs W'
  | .ret, _, W' => Fr (fun k => k < B) W W' ∧ Ix xs W'
  | _, _, _ => False
theorem range_split {g : Operand} {p : Tmp} {assign body : Code} {Q : Exit → Act → World → Prop} {a : Act} {w : World} {B b0 b1 b2 : Nat} (hB0 : B ≤ b0) (hB1 : B ≤ b1) (hB2 : B ≤ b2) (h01 : b0 ≠ b1) (h12 : b2 ≠ b1)
    (hg : a.eval g = .func (.func 96) #[] #[.pointer (some ⟨b0, 0, none⟩), .pointer (some ⟨b1, 0, none⟩), .pointer (some ⟨b2, 0, none⟩)])
    (s0 : ByteArray) (hs : s0.size ≤ 140737488355328) (hc0 : w.cell? ⟨b0, 0, none⟩ = some (.string ⟨#[47]⟩)) (hc1 : w.cell? ⟨b1, 0, none⟩ = some (.string s0)) (hc2 : w.cell? ⟨b2, 0, none⟩ = some (.int .i64 0)) (hfz : w.frozen? ⟨b1, 0, none⟩ = false)
    (I Ix : List ByteArray → World → Prop) (hI : ∀ pre W W', I pre W → Fr (fun k => B ≤ k) W W' → I pre W') (hIx : ∀ pre W W', Ix pre W → Fr (fun k => B ≤ k) W W' → Ix pre W') (h0 : I [] w) (a₁ : ByteArray → Act)
    (hassign : ∀ (l : Nat) (x : ByteArray) (W : World) (K : Act → World → Prop), K (a₁ x) W →
      assign.wpIn (Fence.wide.inRound l) 1 Tryz.prog (Exit.then K (fun _ _ _ => False)) { tmps := ((#[p] : Array Tmp).zip #[Value.string x]).foldl (fun t (p, v) => t.setIfInBounds p v) a.tmps, defers := [] } W)
    (hbody : ∀ (l : Nat) (pre : List ByteArray) (x : ByteArray) (W : World), I pre W → (∃ r, pre ++ x :: r = partsF s0.size s0) → body.wpIn (Fence.wide.inRound l) 1 Tryz.prog (RoundEnd I Ix B (pre ++ [x]) W) (a₁ x) W)
    (hdone : ∀ (D : Nat) (W : World), w.heap.size ≤ D → I (partsF s0.size s0) W → W.heap[D]? = some (.deferred (some [])) → Q .normal { a with defers := { target := .collected D, args := #[] } :: a.defers } W)
    (hstop : ∀ (D : Nat) (pre : List ByteArray) (W : World), w.heap.size ≤ D → Ix pre W → W.heap[D]? = some (.deferred (some [])) → Q .ret { a with defers := { target := .collected D, args := #[] } :: a.defers } W) :
    (Code.rangeFunc g #[p] assign body).wpIn Fence.wide 3 Tryz.prog Q a w := by
  have hl0 := World.block_lt_of_cell? w _ hc0
  have hl1 := World.block_lt_of_cell? w _ hc1
  have hl2 := World.block_lt_of_cell? w _ hc2
  simp only at hl0 hl1 hl2
  have put : ∀ {W : World} {k : Nat} {o : Obj}, Fr (· = k) W (W.putObj k o) := fun {W k o} => (Fr.grown (grownBy_putObj' W k o)).mono fun q _ h => by cases h; rfl
  have hup : ∀ {q : Nat}, q = w.heap.size + 1 → B ≤ q := fun h => by omega
  have hge : ∀ {q : Nat}, q = w.heap.size + 1 → w.heap.size ≤ q := fun h => by omega
  refine wpIn_rangeFunc ?_
  intro fn hfn
  obtain ⟨rec, hrec⟩ : ∃ rec : LoopState → Option Code → Loop, rec = fun st pe => { state := st, pending := pe, fn, tmps := a.tmps, params := #[p], assign, body, defers := w.heap.size } := ⟨_, rfl⟩
  obtain ⟨W1, hW1⟩ : ∃ W1, (w.alloc (.deferred (some []))).alloc (.loop (rec .ready none)) = W1 := ⟨_, rfl⟩
  have hL1 : W1.heap[w.heap.size + 1]? = some (.loop (rec .ready none)) := by
    rw [← hW1]; have := World.alloc_heap_new (w.alloc (.deferred (some []))) (.loop (rec .ready none)); rwa [World.size_alloc] at this
  have hK1 : W1.heap[w.heap.size]? = some (.deferred (some [])) := by
    rw [← hW1]; exact (Below.heap_alloc _ _ _ (by simp)).trans (World.alloc_heap_new w _)
  have hf1 : Fr (fun _ => False) w W1 := by rw [← hW1]; exact (Fr.alloc _ _ _).trans' (.alloc _ _ _)
  refine ⟨w.heap.size + 1, [{ target := .collected w.heap.size, args := #[] }], W1, { target := .fn (.func 96) #[.pointer (some ⟨b0, 0, none⟩), .pointer (some ⟨b1, 0, none⟩), .pointer (some ⟨b2, 0, none⟩)], args := #[.func (.yield (w.heap.size + 1)) #[] #[]] }, W1, 96,
    #[.func (.yield (w.heap.size + 1)) #[] #[], .pointer (some ⟨b0, 0, none⟩), .pointer (some ⟨b1, 0, none⟩), .pointer (some ⟨b2, 0, none⟩)], W1, ?_, ?_, ?_, ?_, fun h => (by cases h), ?_⟩
  · rw [← hW1, hrec]; exact run_enterLoop_outer _ _ _ _ _
  · simp only [resolve, hg]
    simp [go_sem]
  · exact fun f' _ => trivial
  · have eg := enters_of (P := Tryz.prog) Tryz.func96 (by kernel_rfl) rfl
    first | (simp [invoke, go_sem]; done) | simp [invoke, go_sem, eg]
  · -- the rounds
    have hidx : ∀ {W W' : World} {X : Nat → Prop}, Fr X W W' → (∀ k, X k → k = b1) → (W.heap[w.heap.size + 1]? = some (.loop (rec .ready none)) ∧ W.heap[w.heap.size]? = some (.deferred (some []))) →
        (W'.heap[w.heap.size + 1]? = some (.loop (rec .ready none)) ∧ W'.heap[w.heap.size]? = some (.deferred (some []))) := fun hf hx h => ⟨hf.keep h.1 fun e => by have := hx _ e; omega, hf.keep h.2 fun e => by have := hx _ e; omega⟩
    refine (splitSeq_rounds 2 (by decide) (w.heap.size + 1) b0 b1 b2 w.heap.size hl0 hl1 hl2 h01 h12 s0 hs s0.size (Nat.le_refl _)
      (fun pre W => I pre W ∧ W.heap[w.heap.size + 1]? = some (.loop (rec .ready none)) ∧ W.heap[w.heap.size]? = some (.deferred (some [])))
      (fun pre W => Ix pre W ∧ W.heap[w.heap.size + 1]? = some (.loop (rec .done (some .ret))) ∧ W.heap[w.heap.size]? = some (.deferred (some [])))
      (fun pre W W' h hf => ⟨hI _ _ _ h.1 (hf.mono fun k _ e => by rw [e]; exact hB1), hidx hf (fun k e => e) h.2⟩)
      ?_ W1 (hf1.cell hc0 (by simp)) (hf1.cell hc1 (by simp)) (hf1.cell hc2 (by simp)) ?_ ⟨hI _ _ _ h0 (hf1.mono fun _ _ h => h.elim), hL1, hK1⟩).mono ?_
    · -- one round
      rintro pre x W ⟨hi, hl, hk⟩ hr
      have hlt : w.heap.size + 1 < W.heap.size := (Array.getElem?_eq_some_iff.1 hl).1
      have hy := run_yield (P := Tryz.prog) (args := #[.string x]) hl (by rw [hrec]; rfl)
      rw [hrec] at hy
      refine ⟨fn, _, assign, body, hy, roundIn_of_wpIn hfn ?_⟩
      refine hassign _ x W _ ⟨_, run_beginRound hl (by rw [hrec]), ?_⟩
      obtain ⟨W2, hW2⟩ : ∃ W2, W.putObj (w.heap.size + 1) (.loop { rec .ready none with state := .busy }) = W2 := ⟨_, rfl⟩
      rw [hW2]
      have hp2 : Fr (· = w.heap.size + 1) W W2 := by rw [← hW2]; exact put
      have hl2 : W2.heap[w.heap.size + 1]? = some (.loop { rec .ready none with state := .busy }) := by rw [← hW2]; exact World.putObj_heap_same hlt
      have hk2 : W2.heap[w.heap.size]? = some (.deferred (some [])) := hp2.keep hk (by omega)
      refine wpIn_mono (hbody _ pre x W2 (hI _ _ _ hi (hp2.mono fun k _ h => hup h)) hr) ?_
      have fin : ∀ (jump : Option Code) (W3 : World), W3.heap[w.heap.size + 1]? = some (.loop { rec .ready none with state := .busy }) → W3.heap[w.heap.size]? = some (.deferred (some [])) →
          (Instr.endRound (w.heap.size + 1) jump).run Tryz.prog W3 = .ok (.bool jump.isNone) (W3.putObj (w.heap.size + 1) (.loop (rec (if jump.isNone then .ready else .done) jump))) ∧
          (W3.putObj (w.heap.size + 1) (.loop (rec (if jump.isNone then .ready else .done) jump))).heap[w.heap.size + 1]? = some (.loop (rec (if jump.isNone then .ready else .done) jump)) ∧
          (W3.putObj (w.heap.size + 1) (.loop (rec (if jump.isNone then .ready else .done) jump))).heap[w.heap.size]? = some (.deferred (some [])) := fun jump W3 hl3 hk3 => by
        have := run_endRound (P := Tryz.prog) jump hl3
        refine ⟨?_, World.putObj_heap_same (Array.getElem?_eq_some_iff.1 hl3).1, (World.putObj_heap_other (by omega)).trans hk3⟩
        rw [hrec] at this ⊢
        exact this
      rintro e a3 W3 hp
      cases e with
      | normal =>
        obtain ⟨hf3, hi3⟩ := hp
        obtain ⟨hr3, hl4, hk4⟩ := fin none W3 (hf3.keep hl2 (by simp)) (hf3.keep hk2 (by simp))
        refine ⟨_, _, hr3, .inl ⟨rfl, ⟨hI _ _ _ hi3 (put.mono fun k _ h => hup h), hl4, hk4⟩, ?_⟩⟩
        exact Fr.below (((hp2.trans hf3 fun q _ h => h.elim).trans' put).mono fun k _ h => hge h) (by omega)
      | ret =>
        obtain ⟨hf3, hi3⟩ := hp
        obtain ⟨hr3, hl4, hk4⟩ := fin (some .ret) W3 (hf3.keep hl2 (fun h => Nat.not_lt.2 (Nat.le_of_lt (Nat.lt_of_le_of_lt hB0 (Nat.lt_succ_of_lt hl0))) h)) (hf3.keep hk2 (fun h => Nat.not_lt.2 (Nat.le_of_lt (Nat.lt_of_le_of_lt hB0 hl0)) h))
        exact ⟨_, _, hr3, .inr ⟨rfl, hIx _ _ _ hi3 (put.mono fun k _ h => hup h), hl4, hk4⟩⟩
      | exit id => exact hp.elim
      | goto t => exact hp.elim
      | panic ch => exact hp.elim
      | outgrown => exact hp.elim
    · rw [← hW1]
      exact (World.frozen?_of_block (by rw [hW1]; exact hf1.blk b1 hl1 (by simp))).trans hfz
    · -- behind the iterator
      rintro e W2 ⟨⟨v, rfl⟩, (⟨hi, hl, hk⟩ | ⟨pre, hi, hl, hk⟩)⟩
      · refine ⟨none, _, by have := run_endLoop (P := Tryz.prog) hl (by rw [hrec]; simp); rw [hrec] at this; exact this, hdone _ _ (Nat.le_refl _) (hI _ _ _ hi (put.mono fun k _ h => hup h)) ((World.putObj_heap_other (by omega)).trans hk)⟩
      · refine ⟨some .ret, _, by have := run_endLoop (P := Tryz.prog) hl (by rw [hrec]; simp); rw [hrec] at this; exact this, ?_⟩
        exact wpIn_ret (hstop w.heap.size pre _ (Nat.le_refl _) (hIx _ _ _ hi (put.mono fun k _ h => hup h)) ((World.putObj_heap_other (by omega)).trans hk))
end Go.Proofs.YtllegkmadljmaaaGreatDoor
namespace Go.Proofs.YtllegkmadljmaaaGreatDoor
open Go Vc Go.Proofs Go.RowKit Go.Shelf

/-- Every byte is a letter that is printed. -/
def printB (s : ByteArray) : Bool := decide (∀ k, k < s.size → 32 ≤ byt s k ∧ byt s k ≤ 126)
theorem clean1_spec (c : Int) (w : World) : Calls Tryz.prog F_snap_Clean_1 #[.int .i32 c] w fun e w' => e = .returned (.bool (decide (c < 32) || decide (c > 126))) ∧ w' = w := by
  refine vc_snap_Clean_1_ok (R := fun v w' => v = .bool (decide (c < 32) || decide (c > 126)) ∧ w' = w) ?_ (fun v w' h => ⟨by rw [h.1], h.2⟩)
  exact ⟨fun h => ⟨by rw [h]; rfl, rfl⟩, fun h => ⟨by rw [h]; rfl, rfl⟩⟩
theorem indexFunc_spec (s : ByteArray) (w : World) : Calls Tryz.prog F_strings_indexFunc #[.string s, .func (.func F_snap_Clean_1) #[] #[], .bool true] w fun e w' =>
    ∃ n : Int, e = .returned (.int .i64 n) ∧ decide (n ≥ 0) = !printB s ∧ Fr (fun _ => False) w w' := by
  refine vc_strings_indexFunc_clean_ok (R := fun v w' => ∃ n : Int, v = .int .i64 n ∧ decide (n ≥ 0) = !printB s ∧ Fr (fun _ => False) w w') ?_ (fun v w' ⟨n, h⟩ => ⟨n, by rw [h.1], h.2⟩)
  obtain ⟨w7, hr7, hi7, hf7⟩ := iter_new (P := Tryz.prog) (w := w) (t := 9) (s := s) (by kernel_rfl)
  refine ⟨w7, _, hr7, fun w' => ∃ p, IsIter w' w.heap.size s p ∧ p ≤ s.size ∧ Fr (fun _ => False) w w' ∧ ∀ k, k < p → 32 ≤ byt s k ∧ byt s k ≤ 126, itLeft w.heap.size, ⟨0, hi7, Nat.zero_le _, hf7, fun k hk => by omega⟩, ?_⟩
  rintro w11 ⟨p, hi, hp, hf, hn⟩
  by_cases hps : p < s.size
  · refine .inr ?_
    obtain ⟨w13, hr13, hi13, hf13⟩ := iter_next (P := Tryz.prog) hi hps 0
    have hfn : Fr (fun _ => False) w w13 := hf.trans hf13 fun k hk e => by omega
    refine ⟨w13, _, _, hr13, fun _ => (clean1_spec _ w13).mono ?_, fun h => (by cases h)⟩
    rintro e w15 ⟨rfl, hw⟩
    replace hw := hw.symm
    subst hw
    have bad : ∀ {k : Nat}, k < s.size → ¬ (32 ≤ byt s k ∧ byt s k ≤ 126) → printB s = false := fun hk h => by
      unfold printB
      exact decide_eq_false fun hall => h (hall _ hk)
    refine ⟨_, rfl, fun h => ⟨p, rfl, ?_, hfn⟩, fun h => ?_⟩
    · have hb : printB s = false := by
        refine bad hps fun hh => ?_
        rw [dec_low hps (by omega)] at h
        simp only [beq_iff_eq, Bool.or_eq_true, decide_eq_true_eq] at h
        omega
      rw [hb]
      exact decide_eq_true (by omega)
    · by_cases hb : byt s p < 128
      · rw [dec_low hps hb] at h hi13
        simp only [beq_eq_false_iff_ne, ne_eq, Bool.not_eq_true, Bool.or_eq_false_iff, decide_eq_false_iff_not] at h
        refine ⟨⟨p + 1, hi13, by omega, hfn, fun k hk => ?_⟩, by rw [hi13.left, hi.left]; omega⟩
        by_cases hkp : k = p
        · subst hkp; omega
        · exact hn k (by omega)
      · obtain ⟨d1, d2, d3, d4, d5⟩ := dec_high hps (by omega)
        exfalso
        have : decide (((Utf8.decode s p).1 : Int) > 126) = true := decide_eq_true (by omega)
        rw [this] at h
        simp at h
  · refine .inl ⟨w11, iter_end hi (by omega) 0, fun h => (by cases h), fun _ => ⟨-1, rfl, ?_, hf⟩⟩
    have : printB s = true := decide_eq_true fun k hk => hn k (by omega)
    rw [this]; rfl
theorem containsFunc_spec (s : ByteArray) (w : World) : Calls Tryz.prog F_strings_ContainsFunc #[.string s, .func (.func F_snap_Clean_1) #[] #[]] w fun e w' =>
    e = .returned (.bool (!printB s)) ∧ Fr (fun _ => False) w w' := by
  refine vc_strings_ContainsFunc_clean_ok (R := fun v w' => v = .bool (!printB s) ∧ Fr (fun _ => False) w w') ?_ (fun v w' h => ⟨by rw [h.1], h.2⟩)
  refine Calls.mono (R := fun e w' => ∃ n : Int, e = .returned (.int .i64 n) ∧ decide (n ≥ 0) = !printB s ∧ Fr (fun _ => False) w w') (vc_strings_IndexFunc_clean_ok (R := fun v w' => ∃ n : Int, v = .int .i64 n ∧ decide (n ≥ 0) = !printB s ∧ Fr (fun _ => False) w w') ?_ (fun v w' ⟨n, h⟩ => ⟨n, by rw [h.1], h.2⟩)) ?_
  · refine (indexFunc_spec s w).mono ?_
    rintro e w2 ⟨n, rfl, h⟩
    exact ⟨n, rfl, n, rfl, h⟩
  · rintro e w2 ⟨n, rfl, h, hf⟩
    exact ⟨n, rfl, by rw [h], hf⟩
/-- What SplitSeq hands back, and what it lays. -/
theorem splitSeq_spec (s : ByteArray) (w : World) : Calls Tryz.prog 27 #[.string s, .string ⟨#[47]⟩] w fun e w' =>
    e = .returned (.func (.func 96) #[] #[.pointer (some ⟨w.heap.size + 1, 0, none⟩), .pointer (some ⟨w.heap.size, 0, none⟩), .pointer (some ⟨w.heap.size + 2, 0, none⟩)]) ∧
    w' = ((w.alloc (.cells #[.string s] 9)).alloc (.cells #[.string ⟨#[47]⟩] 9)).alloc (.cells #[.int .i64 0] 3) := by
  have inner : Calls Tryz.prog 64 #[.string s, .string ⟨#[47]⟩, .int .i64 0] w fun e w' =>
    e = .returned (.func (.func 96) #[] #[.pointer (some ⟨w.heap.size + 1, 0, none⟩), .pointer (some ⟨w.heap.size, 0, none⟩), .pointer (some ⟨w.heap.size + 2, 0, none⟩)]) ∧
    w' = ((w.alloc (.cells #[.string s] 9)).alloc (.cells #[.string ⟨#[47]⟩] 9)).alloc (.cells #[.int .i64 0] 3) := by
    go_enter Tryz.func64, Tryz.ntmps64
    go_wp2
    go_ret
    exact ⟨by simp, rfl⟩
  go_enter Tryz.func27, Tryz.ntmps27
  go_wp2_with (refine inner.mono ?_; rintro e w' ⟨rfl, rfl⟩)
  go_ret
  exact ⟨rfl, rfl⟩
end Go.Proofs.YtllegkmadljmaaaGreatDoor
namespace Go.Proofs.YtllegkmadljmaaaGreatDoor
open Go Vc Go.Proofs Go.RowKit Go.Shelf
attribute [local go_sem] Oper.semAt_some

theorem toList_nil : (⟨#[]⟩ : ByteArray).toList = [] := by rw [ByteArray.toList_eq]
theorem toList_dot : (⟨#[46]⟩ : ByteArray).toList = [46] := by rw [ByteArray.toList_eq]
theorem toList_dots : (⟨#[46, 46]⟩ : ByteArray).toList = [46, 46] := by rw [ByteArray.toList_eq]
def partOK (p : ByteArray) : Bool := decide (p ≠ ⟨#[]⟩) && decide (p ≠ ⟨#[46]⟩) && decide (p ≠ ⟨#[46, 46]⟩)
def cleanB (s : ByteArray) : Bool := decide (s.size ≤ 200) && (partsF s.size s).all partOK && printB s
set_option maxRecDepth 100000 in
set_option maxHeartbeats 2000000 in
theorem clean_spec (s : ByteArray) (hs : s.size ≤ 140737488355328) (w : World) : Calls Tryz.prog 23 #[.string s] w fun e w' => e = .returned (.bool (cleanB s)) ∧ Fr (fun _ => False) w w' := by
  refine (callsIn_wide (n := 3)).1 ?_
  refine callsIn_of_wp_marks Tryz.func23 rfl trivial ?_ rfl
  simp only [Tryz.ntmps23, List.size_toArray, List.length_cons, List.length_nil, Nat.reduceAdd, Nat.reduceSub, Array.replicate_succ, Array.replicate_zero, List.push_toArray, List.append_toArray, List.nil_append, List.cons_append]
  have hcell0 : (w.alloc (.cells #[.bool false] 4)).cell? ⟨w.heap.size, 0, none⟩ = some (.bool false) := by rw [cell_blk (alloc_new w _)]; rfl
  by_cases hlen : s.size > 200
  · gi_wp2
    refine ⟨.bool false, ?_, ?_, .alloc _ _ _⟩
    · simp [results, Tryz.f23, go_sem, hcell0]
    · unfold cleanB
      rw [decide_eq_false (by omega)]; rfl
  · gi_wp2_with (refine ⟨trivial, ?_⟩; gi_at_call 27; refine (callsIn_wide.2 (splitSeq_spec s _)).mono ?_; rintro e w' ⟨rfl, rfl⟩)
    obtain ⟨w0, hw0⟩ : ∃ w0, w.alloc (.cells #[.bool false] 4) = w0 := ⟨_, rfl⟩
    have hsz : w0.heap.size = w.heap.size + 1 := by rw [← hw0]; simp
    have hb0 : w0.heap[w.heap.size]? = some (.cells #[.bool false] 4 (0, 0)) := by rw [← hw0]; exact alloc_new _ _
    have hf0 : Fr (fun _ => False) w w0 := by rw [← hw0]; exact .alloc _ _ _
    rw [hw0]
    obtain ⟨w1, hw1⟩ : ∃ w1, ((w0.alloc (.cells #[.string s] 9)).alloc (.cells #[.string ⟨#[47]⟩] 9)).alloc (.cells #[.int .i64 0] 3) = w1 := ⟨_, rfl⟩
    have hf1 : Fr (fun _ => False) w0 w1 := by rw [← hw1]; exact ((Fr.alloc _ _ _).trans' (.alloc _ _ _)).trans' (.alloc _ _ _)
    have n1 : (w0.alloc (.cells #[.string s] 9)).heap.size = w.heap.size + 1 + 1 := by simp [hsz]
    have n2 : ((w0.alloc (.cells #[.string s] 9)).alloc (.cells #[.string ⟨#[47]⟩] 9)).heap.size = w.heap.size + 1 + 2 := by simp [hsz]
    have hbs : w1.heap[w.heap.size + 1]? = some (.cells #[.string s] 9 (0, 0)) := by
      rw [← hw1, ← hsz]
      exact (Fr.alloc (fun _ => False) _ _).keep ((Fr.alloc (fun _ => False) _ _).keep (alloc_new w0 _) (by simp)) (by simp)
    have hbp : w1.heap[w.heap.size + 1 + 1]? = some (.cells #[.string ⟨#[47]⟩] 9 (0, 0)) := by
      rw [← hw1, ← n1]
      exact (Fr.alloc (fun _ => False) _ _).keep (alloc_new _ _) (by simp)
    have hbz : w1.heap[w.heap.size + 1 + 2]? = some (.cells #[.int .i64 0] 3 (0, 0)) := by
      rw [← hw1, ← n2]
      exact alloc_new _ _
    rw [hw1]
    clear hw1 n1 n2 hw0
    refine range_split (B := w.heap.size + 1) (b0 := w.heap.size + 1 + 1) (b1 := w.heap.size + 1) (b2 := w.heap.size + 1 + 2) (by omega) (by omega) (by omega) (by omega) (by omega) rfl s hs
      (by rw [cell_blk hbp]; rfl) (by rw [cell_blk hbs]; rfl) (by rw [cell_blk hbz]; rfl) (frozen_blk hbs 0)
      (fun pre W => (∀ p ∈ pre, partOK p = true) ∧ W.heap[w.heap.size]? = some (.cells #[.bool false] 4 (0, 0)) ∧ Fr (fun _ => False) w W)
      (fun pre W => (∃ p ∈ partsF s.size s, partOK p = false) ∧ W.cell? ⟨w.heap.size, 0, none⟩ = some (.bool false) ∧ Fr (fun _ => False) w W)
      (fun pre W W' ⟨h1, h2, h3⟩ hf => ⟨h1, hf.keep h2 (by omega), h3.trans hf fun q hq h => by omega⟩)
      (fun pre W W' ⟨h1, h2, h3⟩ hf => ⟨h1, hf.cell h2 (by simp only; omega), h3.trans hf fun q hq h => by omega⟩)
      ⟨by simp, hf1.keep hb0 (by simp), hf0.trans' hf1⟩
      (fun x => { tmps := #[.string s, undef, .pointer (some ⟨w.heap.size, 0, none⟩), .string x, .string s, .int .i64 s.size, .bool (decide (200 < (s.size : Int))), .string s, .func (.func 96) #[] #[.pointer (some ⟨w.heap.size + 1 + 1, 0, none⟩), .pointer (some ⟨w.heap.size + 1, 0, none⟩), .pointer (some ⟨w.heap.size + 1 + 2, 0, none⟩)], .string x, undef, undef, undef, undef, undef, undef, undef, undef, undef, undef, undef, undef, undef], defers := [] }) ?assign ?body ?done ?stop
    case assign =>
      intro l x W K hK
      gi_wp2
      exact hK
    case body =>
      rintro l pre x W ⟨hp, hcell, hf⟩ hr
      have hcc : W.cell? ⟨w.heap.size, 0, none⟩ = some (.bool false) := by rw [cell_blk hcell]; rfl
      have hcz : W.frozen? ⟨w.heap.size, 0, none⟩ = false := frozen_blk hcell 0
      have k1 : x.toList.isEmpty = decide (x = ⟨#[]⟩) := by
        rw [← bs_eq, toList_nil]
        cases x.toList <;> rfl
      have k2 : (x.toList == [46]) = decide (x = ⟨#[46]⟩) := by rw [← bs_eq, toList_dot]
      have k3 : (x.toList == [46, 46]) = decide (x = ⟨#[46, 46]⟩) := by rw [← bs_eq, toList_dots]
      have ret : partOK x = false → Fr (fun k => k < w.heap.size + 1) W (W.setCell ⟨w.heap.size, 0, none⟩ (.bool false)) ∧ (∃ p ∈ partsF s.size s, partOK p = false) ∧ (W.setCell ⟨w.heap.size, 0, none⟩ (.bool false)).cell? ⟨w.heap.size, 0, none⟩ = some (.bool false) ∧ Fr (fun _ => False) w (W.setCell ⟨w.heap.size, 0, none⟩ (.bool false)) := fun hx =>
        ⟨Fr.set _ _ _ (Nat.lt_succ_self _), ⟨x, by obtain ⟨r, hr⟩ := hr; rw [← hr]; simp, hx⟩, World.cell?_setCell_same' _ _ _ (by rw [hcc]; rfl), hf.trans (Fr.set (· = w.heap.size) _ _ rfl) fun q hq e => by omega⟩
      gi_wp2
      · rename_i hx
        exact ret (by unfold partOK; rw [hx]; rfl)
      · rename_i hx
        exact ret (by unfold partOK; rw [hx]; rfl)
      · rename_i hx
        exact ret (by unfold partOK; rw [hx]; rfl)
      · have h1 : ¬ x = ⟨#[]⟩ := by assumption
        have h2 : ¬ x = ⟨#[46]⟩ := by assumption
        have h3 : ¬ x = ⟨#[46, 46]⟩ := by assumption
        refine ⟨.refl _ _, fun p hpm => ?_, hcell, hf⟩
        rcases List.mem_append.1 hpm with hpm | hpm
        · exact hp p hpm
        · simp only [List.mem_cons, List.mem_nil_iff, or_false] at hpm
          subst hpm
          unfold partOK
          simp [h1, h2, h3]
    case done =>
      rintro D W hD ⟨hall, hcell, hf⟩ hK
      have hcc : W.cell? ⟨w.heap.size, 0, none⟩ = some (.bool false) := by rw [cell_blk hcell]; rfl
      have hcz : W.frozen? ⟨w.heap.size, 0, none⟩ = false := frozen_blk hcell 0
      gi_wp2_with (refine ⟨trivial, ?_⟩; gi_at_call 59; refine (callsIn_wide.2 (containsFunc_spec s _)).mono ?_; rintro e w' ⟨rfl, hf'⟩; have hcc' := hf'.cell hcc (by simp); have hcz' := frozen_blk (hf'.keep hcell (by simp)) 0)
      have hne : D ≠ w.heap.size := by have := hf1.size; omega
      have hst : Fr (· = w.heap.size) w' (w'.setCell ⟨w.heap.size, 0, none⟩ (.bool (printB s))) := .set _ _ _ rfl
      have hK' := hst.keep (hf'.keep hK (by simp)) hne
      refine ⟨by simp, .inl ⟨_, _, rfl, run_takeDeferred hK', ?_⟩⟩
      have hpt : Fr (· = D) (w'.setCell ⟨w.heap.size, 0, none⟩ (.bool (printB s))) ((w'.setCell ⟨w.heap.size, 0, none⟩ (.bool (printB s))).putObj D (.deferred none)) := (Fr.grown (grownBy_putObj' _ D _)).mono fun q _ h => by cases h; rfl
      have hc5 := hpt.cell (World.cell?_setCell_same' w' ⟨w.heap.size, 0, none⟩ (.bool (printB s)) (by rw [hcc']; rfl)) (fun h => hne h.symm)
      refine ⟨.bool (printB s), ?_, ?_, ?_⟩
      · simp [results, Tryz.f23, go_sem, hc5]
      · have : (partsF s.size s).all partOK = true := List.all_eq_true.2 hall
        unfold cleanB
        rw [this, decide_eq_true (by omega)]; rfl
      · have h1 := (hf.trans' hf').size
        have h2 := (hf0.trans' hf1).size
        exact ((hf.trans' hf').trans hst fun q hq e => by omega).trans hpt fun q hq e => by omega
    case stop =>
      rintro D pre W hD ⟨⟨p, hpm, hpb⟩, hcell, hf⟩ hK
      have hne : D ≠ w.heap.size := by have := hf1.size; omega
      gi_wp2
      refine ⟨by simp, .inl ⟨_, _, rfl, run_takeDeferred hK, ?_⟩⟩
      have hpt : Fr (· = D) W (W.putObj D (.deferred none)) := (Fr.grown (grownBy_putObj' _ D _)).mono fun q _ h => by cases h; rfl
      have hc5 := hpt.cell hcell (fun h => hne h.symm)
      refine ⟨.bool false, ?_, ?_, ?_⟩
      · simp [results, Tryz.f23, go_sem, hc5]
      · have : (partsF s.size s).all partOK = false := by
          rw [← Bool.not_eq_true, List.all_eq_true]
          intro h
          rw [h p hpm] at hpb; cases hpb
        unfold cleanB
        rw [this]; simp
      · have h2 := (hf0.trans' hf1).size
        exact hf.trans hpt fun q hq e => by omega
end Go.Proofs.YtllegkmadljmaaaGreatDoor

/- Formulas of 5 Go functions of this seat (written by a program of the author's, vcgen.py), and that each is enough for the call. No condition. -/
set_option linter.unusedVariables false
namespace Go.Proofs.YtllegkmadljmaaaGreatDoor
open Go Vc Go.Proofs
set_option maxRecDepth 100000
def vc_snap_byPath (x0_0 : ByteArray) (x0_1 : ByteArray) (x1_0 : ByteArray) (x1_1 : ByteArray) (w : World) (R : Value → World → Prop) : Prop :=
 ∀ w1 : World,
 (w1 = World.alloc w (Obj.cells (Array.mk [Value.string x0_0, Value.string x0_1]) 39) →
 ∀ w2 : World,
 (w2 = World.alloc w1 (Obj.cells (Array.mk [Value.string x1_0, Value.string x1_1]) 39) →
 ∃ s3 : ByteArray, (World.cell? w2 (Addr.mk (Array.size (World.heap w)) 0 none) = some (Value.string s3) ∧
 ∃ s4 : ByteArray, (World.cell? w2 (Addr.mk (Array.size (World.heap w1)) 0 none) = some (Value.string s4) ∧
 Calls Tryz.prog (73 : Nat) (Array.mk [Value.string s3, Value.string s4]) (w2) (fun e5 w6 =>
 ∃ n7 : Int, (e5 = Ending.returned (Value.int .i64 n7) ∧
 R (Value.int .i64 n7) w6))))))
theorem vc_snap_byPath_ok {x0_0 : ByteArray} {x0_1 : ByteArray} {x1_0 : ByteArray} {x1_1 : ByteArray} {w : World} {R : Value → World → Prop} {R' : Ending → World → Prop} (h : vc_snap_byPath x0_0 x0_1 x1_0 x1_1 w R) (hR : ∀ v w', R v w' → R' (.returned v) w') :
    Calls Tryz.prog 37 #[.agg #[.string x0_0, .string x0_1], .agg #[.string x1_0, .string x1_1]] w R' :=
  calls_of_body (vs := [(.agg #[.string x0_0, .string x0_1], false), (.agg #[.string x1_0, .string x1_1], false)]) (ty := ty) (ann := ⟨[], [], [], []⟩) (c := Tryz.f37.body.getD .skip) (by kernel_rfl) Tryz.func37 (by kernel_rfl) (by kernel_rfl) (Eq.mp (by kernel_rfl) h) hR
def vc_snap_New (x0a : Option Addr) (x0n : Nat) (x0c : Nat) (w : World) (R : Value → World → Prop) : Prop :=
 Calls Tryz.prog (35 : Nat) (Array.mk [Value.slice x0a x0n x0c]) (w) (fun e1 w2 =>
 ∃ l3 : Sl, (e1 = Ending.returned (Value.slice l3.1 l3.2 l3.3) ∧
 ∀ w4 : World,
 (w4 = World.alloc w2 (Obj.cells (Array.mk [Value.slice l3.1 l3.2 l3.3, Value.int .i64 0]) 72) →
 ∃ I5 : Int → World → Prop, ∃ I6 : Int → World → Nat, (I5 0 w4 ∧
 ∀ n7 : Int,
 ∀ w8 : World,
 (I5 n7 w8 →
 (((decide (n7 < (↑x0n : Int)) = true →
 ((0 ≤ n7 ∧
 n7 < (↑x0n : Int)) ∧
 ∃ a9 : Addr, (x0a = some a9 ∧
 ∃ s10 : ByteArray, ∃ s11 : ByteArray, (Sem.run Tryz.prog (loadVar 39 (Addr.add a9 (Int.toNat n7 * 2))) w8 = Result.ok (Value.agg (Array.mk [Value.string s10, Value.string s11])) w8 ∧
 ∀ w12 : World,
 (w12 = World.alloc w8 (Obj.cells (Array.mk [Value.string (ByteArray.mk (Array.mk [])), Value.string (ByteArray.mk (Array.mk []))]) 39) →
 ∃ w13 : World, (Sem.run Tryz.prog (storeVar 39 (Addr.mk (Array.size (World.heap w8)) 0 none) (Value.agg (Array.mk [Value.string s10, Value.string s11]))) w12 = Result.ok PUnit.unit w13 ∧
 ∀ w14 : World,
 (Drew w13 w14 →
 ∃ n15 : Int, (World.cell? w14 (Addr.mk (Array.size (World.heap w2)) 1 none) = some (Value.int .i64 n15) ∧
 ∃ s16 : ByteArray, (World.cell? w14 (Addr.mk (Array.size (World.heap w8)) 1 none) = some (Value.string s16) ∧
 (Wr w14 (Addr.mk (Array.size (World.heap w2)) 1 none) ∧
 ∀ w17 : World,
 (w17 = World.setCell w14 (Addr.mk (Array.size (World.heap w2)) 1 none) (Value.int .i64 (IntKind.wrap .i64 (n15 + (↑(ByteArray.size s16) : Int)))) →
 (I5 (IntKind.wrap .i64 (n7 + 1)) w17 ∧
 I6 (IntKind.wrap .i64 (n7 + 1)) w17 < I6 n7 w8))))))))))))) ∧
 (decide (n7 < (↑x0n : Int)) = false →
 (((decide ((↑x0n : Int) > 2000) = true →
 R (Value.tuple (Array.mk [Value.pointer none, Value.int .i64 2])) w8)) ∧
 (decide ((↑x0n : Int) > 2000) = false →
 ∃ n18 : Int, (World.cell? w8 (Addr.mk (Array.size (World.heap w2)) 1 none) = some (Value.int .i64 n18) ∧
 (((decide (n18 > 4194304) = true →
 R (Value.tuple (Array.mk [Value.pointer none, Value.int .i64 2])) w8)) ∧
 (decide (n18 > 4194304) = false →
 ∃ l19 : Sl, (World.cell? w8 (Addr.mk (Array.size (World.heap w2)) 0 none) = some (Value.slice l19.1 l19.2 l19.3) ∧
 Calls Tryz.prog (36 : Nat) (Array.mk [Value.slice l19.1 l19.2 l19.3, Value.func (Fn.func 37) (Array.mk []) (Array.mk [])]) (w8) (fun e20 w21 =>
 (e20 = Ending.returned (Value.tuple (Array.mk [])) ∧
 ∃ l22 : Sl, (World.cell? w21 (Addr.mk (Array.size (World.heap w2)) 0 none) = some (Value.slice l22.1 l22.2 l22.3) ∧
 ∃ I23 : Int → World → Prop, ∃ I24 : Int → World → Nat, (I23 0 w21 ∧
 ∀ n25 : Int,
 ∀ w26 : World,
 (I23 n25 w26 →
 (((decide (n25 < (↑l22.2 : Int)) = true →
 ((0 ≤ n25 ∧
 n25 < (↑l22.2 : Int)) ∧
 ∃ a27 : Addr, (l22.1 = some a27 ∧
 ∃ s28 : ByteArray, ∃ s29 : ByteArray, (Sem.run Tryz.prog (loadVar 39 (Addr.add a27 (Int.toNat n25 * 2))) w26 = Result.ok (Value.agg (Array.mk [Value.string s28, Value.string s29])) w26 ∧
 ∀ w30 : World,
 (w30 = World.alloc w26 (Obj.cells (Array.mk [Value.string (ByteArray.mk (Array.mk [])), Value.string (ByteArray.mk (Array.mk []))]) 39) →
 ∃ w31 : World, (Sem.run Tryz.prog (storeVar 39 (Addr.mk (Array.size (World.heap w26)) 0 none) (Value.agg (Array.mk [Value.string s28, Value.string s29]))) w30 = Result.ok PUnit.unit w31 ∧
 ∀ w32 : World,
 (Drew w31 w32 →
 ∃ I33 : World → Prop, (I33 w32 ∧
 ∃ s34 : ByteArray, ((∀ w35 : World,
 (I33 w35 →
 World.cell? w35 (Addr.mk (Array.size (World.heap w26)) 0 none) = some (Value.string s34))) ∧
 Calls Tryz.prog (23 : Nat) (Array.mk [Value.string s34]) (w32) (fun e36 w37 =>
 ∃ b38 : Bool, (e36 = Ending.returned (Value.bool b38) ∧
 (I33 w37 ∧
 ((((!b38) = true →
 R (Value.tuple (Array.mk [Value.pointer none, Value.int .i64 4])) w37)) ∧
 ((!b38) = false →
 (((decide (n25 > 0) = true →
 ∃ l39 : Sl, ((∀ w40 : World,
 (I33 w40 →
 World.cell? w40 (Addr.mk (Array.size (World.heap w2)) 0 none) = some (Value.slice l39.1 l39.2 l39.3))) ∧
 ((0 ≤ IntKind.wrap .i64 (n25 - 1) ∧
 IntKind.wrap .i64 (n25 - 1) < (↑l39.2 : Int)) ∧
 ∃ a41 : Addr, (l39.1 = some a41 ∧
 ∃ s42 : ByteArray, ((∀ w43 : World,
 (I33 w43 →
 World.cell? w43 (Addr.add a41 (Int.toNat (IntKind.wrap .i64 (n25 - 1)) * 2)) = some (Value.string s42))) ∧
 ∃ s44 : ByteArray, ((∀ w45 : World,
 (I33 w45 →
 World.cell? w45 (Addr.mk (Array.size (World.heap w26)) 0 none) = some (Value.string s44))) ∧
 ((((ByteArray.toList s42 == ByteArray.toList s44) = true →
 R (Value.tuple (Array.mk [Value.pointer none, Value.int .i64 4])) w37)) ∧
 ((ByteArray.toList s42 == ByteArray.toList s44) = false →
 (I23 (IntKind.wrap .i64 (n25 + 1)) w37 ∧
 I24 (IntKind.wrap .i64 (n25 + 1)) w37 < I24 n25 w26)))))))))) ∧
 (decide (n25 > 0) = false →
 (I23 (IntKind.wrap .i64 (n25 + 1)) w37 ∧
 I24 (IntKind.wrap .i64 (n25 + 1)) w37 < I24 n25 w26)))))))))))))))))) ∧
 (decide (n25 < (↑l22.2 : Int)) = false →
 ∃ l46 : Sl, (World.cell? w26 (Addr.mk (Array.size (World.heap w2)) 0 none) = some (Value.slice l46.1 l46.2 l46.3) ∧
 ∃ I47 : Int → World → Prop, ∃ I48 : Int → World → Nat, (I47 0 w26 ∧
 ∀ n49 : Int,
 ∀ w50 : World,
 (I47 n49 w50 →
 (((decide (n49 < (↑l46.2 : Int)) = true →
 ((0 ≤ n49 ∧
 n49 < (↑l46.2 : Int)) ∧
 ∃ a51 : Addr, (l46.1 = some a51 ∧
 ∃ s52 : ByteArray, ∃ s53 : ByteArray, (Sem.run Tryz.prog (loadVar 39 (Addr.add a51 (Int.toNat n49 * 2))) w50 = Result.ok (Value.agg (Array.mk [Value.string s52, Value.string s53])) w50 ∧
 ∀ w54 : World,
 (w54 = World.alloc w50 (Obj.cells (Array.mk [Value.string (ByteArray.mk (Array.mk [])), Value.string (ByteArray.mk (Array.mk []))]) 39) →
 ∃ w55 : World, (Sem.run Tryz.prog (storeVar 39 (Addr.mk (Array.size (World.heap w50)) 0 none) (Value.agg (Array.mk [Value.string s52, Value.string s53]))) w54 = Result.ok PUnit.unit w55 ∧
 ∃ s56 : ByteArray, (World.cell? w55 (Addr.mk (Array.size (World.heap w50)) 0 none) = some (Value.string s56) ∧
 (ByteArray.size s56 + ByteArray.size (ByteArray.mk (Array.mk [47])) ≤ 9223372036854775807 ∧
 Calls Tryz.prog (38 : Nat) (Array.mk [Value.pointer (some (Addr.mk (Array.size (World.heap w2)) 0 none)), Value.string (s56 ++ ByteArray.mk (Array.mk [47]))]) (w55) (fun e57 w58 =>
 ∃ l59 : Sl, (e57 = Ending.returned (Value.slice l59.1 l59.2 l59.3) ∧
 (((decide ((↑l59.2 : Int) > 0) = true →
 R (Value.tuple (Array.mk [Value.pointer none, Value.int .i64 4])) w58)) ∧
 (decide ((↑l59.2 : Int) > 0) = false →
 (I47 (IntKind.wrap .i64 (n49 + 1)) w58 ∧
 I48 (IntKind.wrap .i64 (n49 + 1)) w58 < I48 n49 w50)))))))))))))) ∧
 (decide (n49 < (↑l46.2 : Int)) = false →
 R (Value.tuple (Array.mk [Value.pointer (some (Addr.mk (Array.size (World.heap w2)) 0 none)), Value.int .i64 0])) w50)))))))))))))))))))))))))
theorem vc_snap_New_ok {x0a : Option Addr} {x0n : Nat} {x0c : Nat} {w : World} {R : Value → World → Prop} {R' : Ending → World → Prop} (h : vc_snap_New x0a x0n x0c w R) (hR : ∀ v w', R v w' → R' (.returned v) w') :
    Calls Tryz.prog 10 #[.slice x0a x0n x0c] w R' :=
  calls_of_body (vs := [(.slice x0a x0n x0c, false)]) (ty := ty) (ann := ⟨[], [(3, [(17, .int .i64)]), (11, [(52, .int .i64)]), (17, [(85, .int .i64)])], [(5, .tail 10), (13, .held [(0, true), (1, true), (2, false), (3, true), (4, true), (5, true), (6, true), (7, true), (8, true), (9, true), (10, true), (11, true), (12, true), (13, true), (14, true), (15, true), (16, true), (17, true), (18, true), (19, true), (20, true), (21, true)])], []⟩) (c := Tryz.f10.body.getD .skip) (by kernel_rfl) Tryz.func10 (by kernel_rfl) (by kernel_rfl) (Eq.mp (by kernel_rfl) h) hR
def vc_snap_Snap_Get (x0 : Nat) (x1 : ByteArray) (w : World) (R : Value → World → Prop) : Prop :=
 ∃ l1 : Sl, (World.cell? w (Addr.mk x0 0 none) = some (Value.slice l1.1 l1.2 l1.3) ∧
 Calls Tryz.prog (74 : Nat) (Array.mk [Value.slice l1.1 l1.2 l1.3, Value.agg (Array.mk [Value.string x1, Value.string (ByteArray.mk (Array.mk []))]), Value.func (Fn.func 37) (Array.mk []) (Array.mk [])]) (w) (fun e2 w3 =>
 ∃ n4 : Int, ∃ b5 : Bool, (e2 = Ending.returned (Value.tuple (Array.mk [Value.int .i64 n4, Value.bool b5])) ∧
 ((((!b5) = true →
 R (Value.tuple (Array.mk [Value.string (ByteArray.mk (Array.mk [])), Value.int .i64 7])) w3)) ∧
 ((!b5) = false →
 ∃ l6 : Sl, (World.cell? w3 (Addr.mk x0 0 none) = some (Value.slice l6.1 l6.2 l6.3) ∧
 ((0 ≤ n4 ∧
 n4 < (↑l6.2 : Int)) ∧
 ∃ a7 : Addr, (l6.1 = some a7 ∧
 ∃ s8 : ByteArray, (World.cell? w3 (Addr.add (Addr.add a7 (Int.toNat n4 * 2)) 1) = some (Value.string s8) ∧
 R (Value.tuple (Array.mk [Value.string s8, Value.int .i64 0])) w3)))))))))
theorem vc_snap_Snap_Get_ok {x0 : Nat} {x1 : ByteArray} {w : World} {R : Value → World → Prop} {R' : Ending → World → Prop} (h : vc_snap_Snap_Get x0 x1 w R) (hR : ∀ v w', R v w' → R' (.returned v) w') :
    Calls Tryz.prog 41 #[.pointer (some ⟨x0, 0, none⟩), .string x1] w R' :=
  calls_of_body (vs := [(.pointer (some ⟨x0, 0, none⟩), true), (.string x1, false)]) (ty := ty) (ann := ⟨[], [], [], []⟩) (c := Tryz.f41.body.getD .skip) (by kernel_rfl) Tryz.func41 (by kernel_rfl) (by kernel_rfl) (Eq.mp (by kernel_rfl) h) hR
def vc_snap_Snap_Under (x0 : Nat) (x1 : ByteArray) (w : World) (R : Value → World → Prop) : Prop :=
 ∃ l1 : Sl, (World.cell? w (Addr.mk x0 0 none) = some (Value.slice l1.1 l1.2 l1.3) ∧
 Calls Tryz.prog (74 : Nat) (Array.mk [Value.slice l1.1 l1.2 l1.3, Value.agg (Array.mk [Value.string x1, Value.string (ByteArray.mk (Array.mk []))]), Value.func (Fn.func 37) (Array.mk []) (Array.mk [])]) (w) (fun e2 w3 =>
 ∃ n4 : Int, ∃ b5 : Bool, (e2 = Ending.returned (Value.tuple (Array.mk [Value.int .i64 n4, Value.bool b5])) ∧
 ∃ I6 : Sl → Int → World → Prop, ∃ I7 : Sl → Int → World → Nat, (I6 (Sl.mk none 0 0) n4 w3 ∧
 ∀ l8 : Sl,
 ∀ n9 : Int,
 ∀ w10 : World,
 (I6 l8 n9 w10 →
 ∃ l11 : Sl, (World.cell? w10 (Addr.mk x0 0 none) = some (Value.slice l11.1 l11.2 l11.3) ∧
 (((decide (n9 < (↑l11.2 : Int)) = true →
 ∃ l12 : Sl, (World.cell? w10 (Addr.mk x0 0 none) = some (Value.slice l12.1 l12.2 l12.3) ∧
 ((0 ≤ n9 ∧
 n9 < (↑l12.2 : Int)) ∧
 ∃ a13 : Addr, (l12.1 = some a13 ∧
 ∃ s14 : ByteArray, (World.cell? w10 (Addr.add a13 (Int.toNat n9 * 2)) = some (Value.string s14) ∧
 Calls Tryz.prog (22 : Nat) (Array.mk [Value.string s14, Value.string x1]) (w10) (fun e15 w16 =>
 ∃ b17 : Bool, (e15 = Ending.returned (Value.bool b17) ∧
 (((b17 = true →
 ∃ l18 : Sl, (World.cell? w16 (Addr.mk x0 0 none) = some (Value.slice l18.1 l18.2 l18.3) ∧
 ((0 ≤ n9 ∧
 n9 < (↑l18.2 : Int)) ∧
 ∃ a19 : Addr, (l18.1 = some a19 ∧
 ∃ s20 : ByteArray, (World.cell? w16 (Addr.add a19 (Int.toNat n9 * 2)) = some (Value.string s20) ∧
 ∀ w21 : World,
 (w21 = World.alloc w16 (Obj.cells (Array.mk [Value.string s20]) 9) →
 ∃ w22 : World, ∃ l23 : Sl, (Sem.run Tryz.prog (Builtin.append_ (Array.mk [22, 22]) 22 (Array.mk [Value.slice l8.1 l8.2 l8.3, Value.slice (some (Addr.mk (Array.size (World.heap w16)) 0 none)) 1 1])) w21 = Result.ok (Value.slice l23.1 l23.2 l23.3) w22 ∧
 (I6 (Sl.mk l23.1 l23.2 l23.3) (IntKind.wrap .i64 (n9 + 1)) w22 ∧
 I7 (Sl.mk l23.1 l23.2 l23.3) (IntKind.wrap .i64 (n9 + 1)) w22 < I7 l8 n9 w10))))))))) ∧
 (b17 = false →
 R (Value.slice l8.1 l8.2 l8.3) w16)))))))))) ∧
 (decide (n9 < (↑l11.2 : Int)) = false →
 R (Value.slice l8.1 l8.2 l8.3) w10))))))))
theorem vc_snap_Snap_Under_ok {x0 : Nat} {x1 : ByteArray} {w : World} {R : Value → World → Prop} {R' : Ending → World → Prop} (h : vc_snap_Snap_Under x0 x1 w R) (hR : ∀ v w', R v w' → R' (.returned v) w') :
    Calls Tryz.prog 38 #[.pointer (some ⟨x0, 0, none⟩), .string x1] w R' :=
  calls_of_body (vs := [(.pointer (some ⟨x0, 0, none⟩), true), (.string x1, false)]) (ty := ty) (ann := ⟨[], [(3, [(5, .slice), (6, .int .i64)])], [], []⟩) (c := Tryz.f38.body.getD .skip) (by kernel_rfl) Tryz.func38 (by kernel_rfl) (by kernel_rfl) (Eq.mp (by kernel_rfl) h) hR
end Go.Proofs.YtllegkmadljmaaaGreatDoor

/- Files in memory: a row of structs of two texts. No condition. -/
set_option linter.unusedVariables false
namespace Go.Proofs.YtllegkmadljmaaaGreatDoor
open Go Vc Go.Proofs

structure FileE where
  path : ByteArray
  data : ByteArray
instance : Inhabited FileE := ⟨⟨⟨#[]⟩, ⟨#[]⟩⟩⟩
def encF (f : FileE) : List Value := [.string f.path, .string f.data]
theorem elF : ElK encF 2 Tryz.prog T_S_api_File T_api_File (.agg #[.string ⟨#[]⟩, .string ⟨#[]⟩]) 32 :=
  ⟨by kernel_rfl, by kernel_rfl, rfl, by decide, by kernel_rfl, fun _ => rfl, fun x u hu => by
    simp only [encF, List.mem_cons, List.mem_nil_iff, or_false] at hu
    rcases hu with rfl | rfl <;> rfl⟩
theorem boxF_run (w : World) (x : FileE) : (storeVar T_api_File ⟨w.heap.size, 0, none⟩ (.agg #[.string x.path, .string x.data])).run Tryz.prog (w.alloc (.cells #[.string ⟨#[]⟩, .string ⟨#[]⟩] T_api_File)) = .ok () (w.alloc (.cells (encF x).toArray T_api_File)) :=
  run_storeVar_new w T_api_File _ _ (by kernel_rfl) rfl (by simp [Value.oneCell'])
theorem boxF_cell (w : World) (x : FileE) {w' : World} {X : Nat → Prop} (hf : Fr X (w.alloc (.cells (encF x).toArray T_api_File)) w') (hx : ¬ X w.heap.size) {j : Nat} {v : Value} (hv : (encF x)[j]? = some v) : w'.cell? ⟨w.heap.size, j, none⟩ = some v :=
  hf.cell (by rw [cell_blk (alloc_new w _)]; simpa using hv) hx
def totalF (xs : List FileE) : Nat := (xs.map fun x => x.data.size).sum
theorem totalF_take {xs : List FileE} {k : Nat} {x : FileE} (h : xs[k]? = some x) : totalF (xs.take (k + 1)) = totalF (xs.take k) + x.data.size := by
  unfold totalF
  rw [List.take_add_one, h, List.map_append, List.sum_append]; simp
theorem totalF_le (xs : List FileE) (k : Nat) : totalF (xs.take k) ≤ totalF xs := by
  have : totalF xs = totalF (xs.take k) + totalF (xs.drop k) := by
    unfold totalF
    rw [← List.sum_append, ← List.map_append, List.take_append_drop]
  omega
end Go.Proofs.YtllegkmadljmaaaGreatDoor

/- Beginnings of texts in plain. No condition. -/
set_option linter.unusedVariables false
namespace Go.Proofs.YtllegkmadljmaaaGreatDoor
open Go Vc Go.Proofs

/-- Does s begin with t? -/
def begB (s t : ByteArray) : Bool := decide (t.data.toList <+: s.data.toList)
theorem begB_cut {s t : ByteArray} (h : t.size ≤ s.size) : (ByteArray.toList (s.extract 0 t.size) == ByteArray.toList t) = begB s t := by
  rw [bs_eq]
  unfold begB
  refine decide_eq_decide.2 ⟨fun e => ?_, fun e => ?_⟩
  · rw [← e, bs_head]; exact List.take_prefix _ _
  · obtain ⟨r, hr⟩ := e
    refine bs_ext ?_
    rw [bs_head, ← hr, ← bs_len, List.take_left]
theorem begB_short {s t : ByteArray} (h : ¬ t.size ≤ s.size) : begB s t = false := decide_eq_false fun e => h (by rw [← bs_len, ← bs_len]; exact e.length_le)
theorem beg_le {s t : ByteArray} (h : begB s t = true) : t.size ≤ s.size := by
  have := (of_decide_eq_true h : t.data.toList <+: s.data.toList).length_le
  rw [bs_len, bs_len] at this; exact this
theorem pre_between : ∀ (a b c : List UInt8), ¬ b < a → ¬ c < b → a <+: c → a <+: b
  | [], b, c, _, _, _ => List.nil_prefix
  | x :: a, [], c, h, _, _ => absurd (List.nil_lt_cons x a) h
  | x :: a, y :: b, [], _, _, h => by simp at h
  | x :: a, y :: b, z :: c, h1, h2, h3 => by
    rw [List.cons_prefix_cons] at h3 ⊢
    obtain ⟨rfl, h3⟩ := h3
    rw [List.cons_lt_cons_iff] at h1 h2
    have e1 : ¬ y < x := fun h => h1 (.inl h)
    have e2 : ¬ x < y := fun h => h2 (.inl h)
    have e : x = y := UInt8.toNat_inj.1 (by rw [UInt8.lt_iff_toNat_lt] at e1 e2; omega)
    subst e
    exact ⟨rfl, pre_between a b c (fun h => h1 (.inr ⟨rfl, h⟩)) (fun h => h2 (.inr ⟨rfl, h⟩)) h3⟩
theorem pre_le : ∀ (a c : List UInt8), a <+: c → ¬ c < a
  | [], c, _ => by simp
  | x :: a, [], h => by simp at h
  | x :: a, z :: c, h => by
    rw [List.cons_prefix_cons] at h
    obtain ⟨rfl, h⟩ := h
    rw [List.cons_lt_cons_iff]
    rintro (h1 | ⟨_, h1⟩)
    · rw [UInt8.lt_iff_toNat_lt] at h1; omega
    · exact pre_le a c h h1
theorem filter_mid {α : Type} (f : α → Bool) (xs : List α) {i m : Nat} (him : i ≤ m) (h1 : ∀ k x, xs[k]? = some x → k < i → f x = false) (h2 : ∀ k x, xs[k]? = some x → i ≤ k → k < m → f x = true) (h3 : ∀ k x, xs[k]? = some x → m ≤ k → f x = false) : xs.filter f = (xs.take m).drop i := by
  have hx : xs = (xs.take m).take i ++ (xs.take m).drop i ++ xs.drop m := by rw [List.take_append_drop, List.take_append_drop]
  have e1 : ((xs.take m).take i).filter f = [] := by
    rw [List.filter_eq_nil_iff]
    intro x hx
    obtain ⟨k, hk⟩ := List.mem_iff_getElem?.1 hx
    rw [List.getElem?_take] at hk
    split at hk
    · rename_i hki
      rw [List.getElem?_take, if_pos (by omega)] at hk
      rw [h1 k x hk hki]; decide
    · cases hk
  have e2 : ((xs.take m).drop i).filter f = (xs.take m).drop i := by
    rw [List.filter_eq_self]
    intro x hx
    obtain ⟨k, hk⟩ := List.mem_iff_getElem?.1 hx
    rw [List.getElem?_drop, List.getElem?_take] at hk
    split at hk
    · rename_i hki
      exact h2 _ x hk (by omega) hki
    · cases hk
  have e3 : (xs.drop m).filter f = [] := by
    rw [List.filter_eq_nil_iff]
    intro x hx
    obtain ⟨k, hk⟩ := List.mem_iff_getElem?.1 hx
    rw [List.getElem?_drop] at hk
    rw [h3 _ x hk (by omega)]; decide
  conv => lhs; rw [hx]
  rw [List.filter_append, List.filter_append, e1, e2, e3, List.nil_append, List.append_nil]
end Go.Proofs.YtllegkmadljmaaaGreatDoor

/- Formulas of 2 Go functions of this seat (written by a program of the author's, vcgen.py), and that each is enough for the call. No condition. -/
set_option linter.unusedVariables false
namespace Go.Proofs.YtllegkmadljmaaaGreatDoor
open Go Vc Go.Proofs
set_option maxRecDepth 100000
def vc_strings_HasPrefix (x0 : ByteArray) (x1 : ByteArray) (w : World) (R : Value → World → Prop) : Prop :=
 Calls Tryz.prog (58 : Nat) (Array.mk [Value.string x0, Value.string x1]) (w) (fun e1 w2 =>
 ∃ b3 : Bool, (e1 = Ending.returned (Value.bool b3) ∧
 R (Value.bool b3) w2))
theorem vc_strings_HasPrefix_ok {x0 : ByteArray} {x1 : ByteArray} {w : World} {R : Value → World → Prop} {R' : Ending → World → Prop} (h : vc_strings_HasPrefix x0 x1 w R) (hR : ∀ v w', R v w' → R' (.returned v) w') :
    Calls Tryz.prog 22 #[.string x0, .string x1] w R' :=
  calls_of_body (vs := [(.string x0, false), (.string x1, false)]) (ty := ty) (ann := ⟨[], [], [], []⟩) (c := Tryz.f22.body.getD .skip) (by kernel_rfl) Tryz.func22 (by kernel_rfl) (by kernel_rfl) (Eq.mp (by kernel_rfl) h) hR
def vc_stringslite_HasPrefix (x0 : ByteArray) (x1 : ByteArray) (w : World) (R : Value → World → Prop) : Prop :=
 (((decide ((↑(ByteArray.size x0) : Int) ≥ (↑(ByteArray.size x1) : Int)) = true →
 ((0 ≤ (↑(ByteArray.size x1) : Int) ∧
 (↑(ByteArray.size x1) : Int) ≤ (↑(ByteArray.size x0) : Int)) ∧
 R (Value.bool (ByteArray.toList (ByteArray.extract x0 0 (Int.toNat (↑(ByteArray.size x1) : Int))) == ByteArray.toList x1)) w))) ∧
 (decide ((↑(ByteArray.size x0) : Int) ≥ (↑(ByteArray.size x1) : Int)) = false →
 R (Value.bool false) w))
theorem vc_stringslite_HasPrefix_ok {x0 : ByteArray} {x1 : ByteArray} {w : World} {R : Value → World → Prop} {R' : Ending → World → Prop} (h : vc_stringslite_HasPrefix x0 x1 w R) (hR : ∀ v w', R v w' → R' (.returned v) w') :
    Calls Tryz.prog 58 #[.string x0, .string x1] w R' :=
  calls_of_body (vs := [(.string x0, false), (.string x1, false)]) (ty := ty) (ann := ⟨[], [], [], []⟩) (c := Tryz.f58.body.getD .skip) (by kernel_rfl) Tryz.func58 (by kernel_rfl) (by kernel_rfl) (Eq.mp (by kernel_rfl) h) hR
end Go.Proofs.YtllegkmadljmaaaGreatDoor

/- strings.HasPrefix. No condition. -/
set_option linter.unusedVariables false
namespace Go.Proofs.YtllegkmadljmaaaGreatDoor
open Go Vc Go.Proofs

theorem hasPrefix_spec (s t : ByteArray) (w : World) : Calls Tryz.prog F_strings_HasPrefix #[.string s, .string t] w fun e w' => e = .returned (.bool (begB s t)) ∧ w' = w := by
  refine vc_strings_HasPrefix_ok (R := fun v w' => v = .bool (begB s t) ∧ w' = w) ?_ (fun v w' h => ⟨by rw [h.1], h.2⟩)
  refine Calls.mono (R := fun e w' => e = .returned (.bool (begB s t)) ∧ w' = w) (vc_stringslite_HasPrefix_ok (R := fun v w' => v = .bool (begB s t) ∧ w' = w) ?_ (fun v w' h => ⟨by rw [h.1], h.2⟩)) ?_
  · refine ⟨fun h => ⟨⟨by omega, by have := of_decide_eq_true h; omega⟩, ?_, rfl⟩, fun h => ⟨?_, rfl⟩⟩
    · have h := of_decide_eq_true h
      rw [Int.toNat_natCast, begB_cut (by omega)]
    · rw [begB_short (by have := of_decide_eq_false h; omega)]
  · rintro e w2 ⟨rfl, rfl⟩
    exact ⟨_, rfl, rfl, rfl⟩
end Go.Proofs.YtllegkmadljmaaaGreatDoor

/- Slices of bytes of this seat. No condition. -/
set_option linter.unusedVariables false
namespace Go.Proofs.YtllegkmadljmaaaGreatDoor
open Go Vc Go.Proofs

theorem elByte : El Tryz.prog T_S_uint8 T_uint8 (.int .u8 0) 1 := ⟨by kernel_rfl, by kernel_rfl, rfl⟩
theorem elByteH : El Tryz.prog T_S_uint8 T_uint8 (.int .u8 0) 1 := elByte
theorem byteV_one (l : List UInt8) : ∀ u ∈ byteV l, u.oneCell' = true := fun u h => by
  obtain ⟨b, _, rfl⟩ := List.mem_map.1 h; rfl
end Go.Proofs.YtllegkmadljmaaaGreatDoor

/- Slices of texts. No condition. -/
set_option linter.unusedVariables false
namespace Go.Proofs.YtllegkmadljmaaaGreatDoor
open Go Vc Go.Proofs

theorem elString : El Tryz.prog T_S_string T_string (.string ⟨#[]⟩) 16 := ⟨by kernel_rfl, by kernel_rfl, rfl⟩
def strV (l : List ByteArray) : List Value := l.map Value.string
end Go.Proofs.YtllegkmadljmaaaGreatDoor

/- Digits of bytes in plain; append of what is new. No condition. -/
set_option linter.unusedVariables false
namespace Vc
open Go
theorem append_new {P : Program} {t e : TypeId} {z : Value} {bytes : Nat} {w : World} {base : Nat} {l : Sl} {xs : List Value} (el : El P t e z bytes) (h : Own w base e l xs) {news : List Value} (h1 : ∀ u ∈ news, u.oneCell' = true)
    (hm : xs.length + news.length ≤ maxLen) (hb : (xs.length + news.length) * bytes ≤ 140737488355328) (hbase : base ≤ w.heap.size) {w2 : World} (hw2 : w2 = w.alloc (.cells news.toArray e)) {m : Nat} (hlen : news.length = m) :
    ∃ w' l', (Builtin.append_ #[t, t] t #[.slice l.a l.len l.cap, .slice (some ⟨w.heap.size, 0, none⟩) m m]).run P w2 = .ok (.slice l'.a l'.len l'.cap) w' ∧ Own w' base e l' (xs ++ news) ∧
      Fr (At l) w w' ∧ Since w l l' := by
  subst hw2
  have h2 : Own (w.alloc (.cells news.toArray e)) base e l xs := h.keep (.alloc (fun _ => False) _ _) (by simp)
  obtain ⟨w', l', hr, ho, hf, hs⟩ := append_all' el h2 (src := some ⟨w.heap.size, 0, none⟩) m (news := news) (fun i v hv => ⟨_, rfl, by rw [add_lit, Nat.zero_add, cell_blk (alloc_new w _)]; simpa using hv⟩) h1 hm hb (by simp; omega) hlen
  refine ⟨w', l', hr, ho, (Fr.alloc _ _ _).trans' hf, fun y hy => ?_⟩
  rcases hs y hy with hx | hn
  · exact .inl hx
  · simp only [World.alloc, Array.size_push] at hn
    exact .inr (by omega)
end Vc
namespace HexM
/-- A digit. -/
def hx (n : Nat) : Nat := if n < 10 then 48 + n else 87 + n
theorem hx_lt {n : Nat} (h : n < 16) : hx n < 256 := by unfold hx; split <;> omega
def hexL (l : List UInt8) : List UInt8 := l.flatMap fun c => [UInt8.ofNat (hx (c.toNat / 16)), UInt8.ofNat (hx (c.toNat % 16))]
theorem hexL_snoc (l : List UInt8) (c : UInt8) : hexL (l ++ [c]) = hexL l ++ [UInt8.ofNat (hx (c.toNat / 16)), UInt8.ofNat (hx (c.toNat % 16))] := by simp [hexL]
theorem hexL_length (l : List UInt8) : (hexL l).length = 2 * l.length := by
  induction l with
  | nil => rfl
  | cons c l ih => simp only [hexL, List.flatMap_cons, List.length_append, List.length_cons, List.length_nil] at ih ⊢; omega
/-- A digit's number. -/
def dg (c : Nat) : Option Nat := if 48 ≤ c ∧ c ≤ 57 then some (c - 48) else if 97 ≤ c ∧ c ≤ 102 then some (c - 87) else none
theorem dg_lt {c n : Nat} (h : dg c = some n) : n < 16 := by
  unfold dg at h
  split at h
  · cases h; omega
  · split at h
    · cases h; omega
    · cases h
theorem dg_hx {n : Nat} (h : n < 16) : dg (hx n) = some n := by
  unfold hx dg
  split
  · rw [if_pos (by omega)]; congr 1; omega
  · rw [if_neg (by omega), if_pos (by omega)]; congr 1; omega
def unhexL : List UInt8 → Option (List UInt8)
  | [] => some []
  | [_] => none
  | a :: b :: r => match dg a.toNat, dg b.toNat, unhexL r with
    | some x, some y, some l => some (UInt8.ofNat (16 * x + y) :: l)
    | _, _, _ => none
theorem unhexL_len : ∀ (l r : List UInt8), unhexL l = some r → l.length = 2 * r.length
  | [], r, h => by simp only [unhexL, Option.some.injEq] at h; subst h; rfl
  | [_], r, h => by simp [unhexL] at h
  | a :: b :: l, r, h => by
    simp only [unhexL] at h
    split at h
    · rename_i x y q h1 h2 h3
      cases h
      have := unhexL_len l q h3
      simp only [List.length_cons]; omega
    · cases h
theorem unhex_hex : ∀ l : List UInt8, unhexL (hexL l) = some l
  | [] => rfl
  | c :: l => by
    have hc := c.toNat_lt
    have h1 : (UInt8.ofNat (hx (c.toNat / 16))).toNat = hx (c.toNat / 16) := by have := hx_lt (n := c.toNat / 16) (by omega); simp; omega
    have h2 : (UInt8.ofNat (hx (c.toNat % 16))).toNat = hx (c.toNat % 16) := by have := hx_lt (n := c.toNat % 16) (by omega); simp; omega
    have : hexL (c :: l) = UInt8.ofNat (hx (c.toNat / 16)) :: UInt8.ofNat (hx (c.toNat % 16)) :: hexL l := rfl
    rw [this, unhexL, h1, h2, dg_hx (by omega), dg_hx (by omega), unhex_hex l]
    simp only [Option.some.injEq, List.cons.injEq, and_true]
    rw [show 16 * (c.toNat / 16) + c.toNat % 16 = c.toNat by omega, UInt8.ofNat_toNat]
/-- All are digits. -/
def digits (l : List UInt8) : Bool := l.all fun c => (dg c.toNat).isSome
theorem unhexL_iff : ∀ l : List UInt8, (unhexL l).isSome = (digits l && l.length % 2 == 0)
  | [] => rfl
  | [a] => by simp [unhexL]
  | a :: b :: l => by
    have ih := unhexL_iff l
    have hl : (a :: b :: l).length % 2 = l.length % 2 := by simp only [List.length_cons]; omega
    rw [hl]
    simp only [unhexL, digits, List.all_cons] at ih ⊢
    cases h1 : dg a.toNat <;> cases h2 : dg b.toNat <;> simp
    cases h3 : unhexL l <;> rw [h3] at ih <;> simp at ih ⊢ <;> simpa using ih
/-- An object's name. -/
def isId (l : List UInt8) : Bool := (unhexL l).isSome && l.length == 40
theorem unhexL_take : ∀ (n : Nat) (l : List UInt8) (r : List UInt8), unhexL (l.take (2 * n)) = some r → 2 * n ≤ l.length → ∀ a b : UInt8, l[2 * n]? = some a → l[2 * n + 1]? = some b →
    unhexL (l.take (2 * (n + 1))) = (match dg a.toNat, dg b.toNat with | some x, some y => some (r ++ [UInt8.ofNat (16 * x + y)]) | _, _ => none)
  | 0, l, r, h, _, a, b, ha, hb => by
    match l, ha, hb with
    | a' :: b' :: l, ha, hb =>
      simp only [Nat.mul_zero, List.getElem?_cons_zero, Option.some.injEq] at ha
      simp only [Nat.mul_zero, Nat.zero_add, List.getElem?_cons_succ, List.getElem?_cons_zero, Option.some.injEq] at hb
      subst ha; subst hb
      simp only [Nat.mul_zero, List.take_zero, unhexL, Option.some.injEq] at h
      subst h
      show unhexL [a', b'] = _
      cases h1 : dg a'.toNat <;> cases h2 : dg b'.toNat <;> simp [unhexL, h1, h2]
    | [], ha, _ => simp at ha
    | [_], _, hb => simp at hb
  | n + 1, l, r, h, hl, a, b, ha, hb => by
    match l, hl with
    | a' :: b' :: l, hl =>
      have ha' : l[2 * n]? = some a := by simpa [show 2 * (n + 1) = 2 * n + 1 + 1 by omega] using ha
      have hb' : l[2 * n + 1]? = some b := by simpa [show 2 * (n + 1) + 1 = 2 * n + 1 + 1 + 1 by omega] using hb
      have ht : ∀ k, (a' :: b' :: l).take (2 * (k + 1)) = a' :: b' :: l.take (2 * k) := fun k => by rw [show 2 * (k + 1) = 2 * k + 1 + 1 by omega]; rfl
      rw [ht] at h ⊢
      simp only [unhexL] at h
      split at h
      · rename_i x y q h1 h2 h3
        cases h
        have ih := unhexL_take n l q h3 (by simp only [List.length_cons] at hl; omega) a b ha' hb'
        simp only [unhexL, h1, h2, ih]
        cases dg a.toNat <;> cases dg b.toNat <;> simp
      · cases h
    | [], hl => simp at hl
    | [_], hl => simp only [List.length_cons, List.length_nil] at hl; omega
theorem unhexL_bad : ∀ (n : Nat) (l : List UInt8) (a : UInt8), l[n]? = some a → dg a.toNat = none → unhexL l = none := fun n l a h hd => by
  have := unhexL_iff l
  cases hu : unhexL l with
  | none => rfl
  | some r =>
    exfalso
    rw [hu] at this
    simp only [Option.isSome_some, digits] at this
    have h2 := (Bool.and_eq_true _ _ ▸ this.symm).1
    rw [List.all_eq_true] at h2
    have := h2 a (List.mem_of_getElem? h)
    rw [hd] at this; cases this
end HexM

/- A slice of the call's own, as the kit's contract of slices.SortFunc wants it, and as it leaves it. No condition. -/
set_option linter.unusedVariables false
set_option linter.unusedSectionVars false
namespace Vc
open Go Go.Proofs Go.Sort Go.Lib
variable {α : Type} [Inhabited α] {enc : α → List Value} {k : Nat} {w : World} {base : Nat} {e : TypeId} {l : Sl} {xs : List α} {g : Nat}
theorem own_row (h : OwnK enc k w base e l xs) (ha : l.a = some ⟨g, 0, none⟩) : ∃ cur, w.heap[g]? = some (.cells cur e (0, 0)) ∧ base ≤ g ∧ l.len ≤ l.cap ∧ l.cap ≤ maxLen ∧ cur.size = l.cap * k ∧ cur.toList.take (l.len * k) = xs.flatMap enc := by
  rcases h.2.2 with ⟨hv, _⟩ | ⟨g', cap, cur, hv, hb, hg, hl, hm, hs, ht⟩
  · simp only [Value.slice.injEq] at hv; rw [ha] at hv; cases hv.1
  · simp only [Value.slice.injEq] at hv
    obtain ⟨h1, _, h3⟩ := hv
    rw [ha] at h1
    cases h1
    subst h3
    exact ⟨cur, hg, hb, hl, hm, hs, ht⟩
theorem flatK_get (hk : ∀ x, (enc x).length = k) (h0 : 0 < k) {j : Nat} (hj : j < xs.length * k) : (xs.flatMap enc)[j]? = some ((flatK enc k xs.toArray)[j]!) := by
  have hl := flat_len hk xs
  obtain ⟨v, hv⟩ : ∃ v, (xs.flatMap enc)[j]? = some v := ⟨_, List.getElem?_eq_getElem (by omega)⟩
  obtain ⟨x, h1, h2⟩ := flat_get' hk h0 xs j v hv
  rw [hv, get_flatK enc k xs.toArray j (by simpa using hj)]
  have e1 : xs.toArray[j / k]! = x := by simp [h1]
  rw [e1]
  simp [h2]
theorem own_holds (hk : ∀ x, (enc x).length = k) (h0 : 0 < k) (h : OwnK enc k w base e l xs) (ha : l.a = some ⟨g, 0, none⟩) : HoldsK enc k w g 0 xs.toArray := fun j hj => by
  rw [size_flatK, List.size_toArray] at hj
  obtain ⟨cur, hg, _⟩ := own_row h ha
  have hr := h.reads hk
  rw [ha] at hr
  have := hr.flat hk h0 j _ (flatK_get hk h0 hj)
  rw [add_lit] at this
  exact ⟨this, by simp [World.frozen?, hg]⟩
theorem sort_fr (m : Nat) (ys : List α) (os : Array Obj) : Fr (· = g) w (sortWorldK enc k w g 0 m ys.toArray os) := by
  refine ⟨rfl, rfl, rfl, ?_, fun q hq hne => ?_⟩
  · simp [sortWorldK, grow, putRowK, putRow, mapBlock, Sort.ahead]
  · unfold sortWorldK
    rw [heap_grow_old _ _ (by simpa [putRowK, putRow, mapBlock, Sort.ahead] using hq)]
    simp only [putRowK, putRow, mapBlock, Sort.ahead, Array.getElem?_modify]
    rw [if_neg (fun e => hne e.symm)]
theorem own_sorted (hk : ∀ x, (enc x).length = k) (h0 : 0 < k) (h : OwnK enc k w base e l xs) (ha : l.a = some ⟨g, 0, none⟩) (m : Nat) (ys : List α) (hl : ys.length = xs.length) (os : Array Obj) : OwnK enc k (sortWorldK enc k w g 0 m ys.toArray os) base e l ys := by
  obtain ⟨cur, hg, hb, hc, hm, hs, ht⟩ := own_row h ha
  have hlen := h.1
  have hfl := flat_len hk ys
  have hkk : l.len * k ≤ l.cap * k := Nat.mul_le_mul_right _ hc
  have hgt := lt_blk hg
  refine ⟨by omega, by rw [hfl, hl, hlen], .inr ⟨g, l.cap, putCells id 0 (flatK enc k ys.toArray) cur, by rw [ha], hb, ?_, hc, hm, by simp [putCells, hs], ?_⟩⟩
  · unfold sortWorldK
    rw [heap_grow_old _ _ (by simpa [putRowK, putRow, mapBlock, Sort.ahead] using hgt)]
    simp only [putRowK, putRow, mapBlock, Sort.ahead, Array.getElem?_modify, if_true, hg]
    rfl
  · apply List.ext_getElem?
    intro j
    by_cases hj : j < l.len * k
    · rw [List.getElem?_take, if_pos hj, flatK_get hk h0 (by rw [hl, hlen]; exact hj)]
      simp only [putCells, Array.getElem?_toList, Array.getElem?_mapIdx]
      rw [Array.getElem?_eq_getElem (by omega)]
      simp only [Option.map_some, Nat.zero_le, true_and, Nat.zero_add, size_flatK, List.size_toArray, Nat.sub_zero, id]
      rw [if_pos (by rw [hl, hlen]; exact hj)]
    · rw [List.getElem?_eq_none (by rw [List.length_take]; omega), List.getElem?_eq_none (by rw [hfl, hl, hlen]; omega)]
end Vc

/- The kit's structure over slices.SortFunc at structs, at this seat (written by a program of the author's, laysort.py, with the kit's lay-plain). No condition. -/
namespace Go.Proofs.YtllegkmadljmaaaGreatDoor
open Go Go.Shelf Go.Proofs
def sortLays_ren : Go.Shelf.Ren := ⟨fun | 6 => 36 | 15 => 72 | 14 => 71 | 28 => 121 | 29 => 122 | 20 => 113 | 21 => 114 | 22 => 115 | 23 => 116 | 24 => 117 | 25 => 118 | 26 => 119 | 27 => 120 | 46 => 150 | 47 => 151 | 48 => 152 | 49 => 153 | 50 => 154 | 57 => 177 | n => n, fun | 22 => 42 | 24 => 39 | 25 => 74 | 3 => 3 | 39 => 109 | 0 => 0 | 53 => 128 | 55 => 111 | 4 => 4 | 46 => 173 | 45 => 172 | 50 => 120 | 5 => 5 | 9 => 9 | 66 => 217 | 70 => 221 | 76 => 251 | 77 => 216 | n => n, fun | n => n⟩
theorem sortLays : Go.Proofs.SlLaysF0.n6 Tryz.prog sortLays_ren := {
  mixed := by kernel_rfl
  f6 := ⟨Tryz.f36.name, by decide, Tryz.func36.trans (congrArg some (by kernel_rfl))⟩
  f14 := ⟨Tryz.f71.name, by decide, Tryz.func71.trans (congrArg some (by kernel_rfl))⟩
  f15 := Tryz.func72.trans (congrArg some (by kernel_rfl))
  f20 := ⟨Tryz.f113.name, by decide, Tryz.func113.trans (congrArg some (by kernel_rfl))⟩
  f21 := ⟨Tryz.f114.name, by decide, Tryz.func114.trans (congrArg some (by kernel_rfl))⟩
  f22 := ⟨Tryz.f115.name, by decide, Tryz.func115.trans (congrArg some (by kernel_rfl))⟩
  f23 := ⟨Tryz.f116.name, by decide, Tryz.func116.trans (congrArg some (by kernel_rfl))⟩
  f24 := ⟨Tryz.f117.name, by decide, Tryz.func117.trans (congrArg some (by kernel_rfl))⟩
  f25 := ⟨Tryz.f118.name, by decide, Tryz.func118.trans (congrArg some (by kernel_rfl))⟩
  f26 := ⟨Tryz.f119.name, by decide, Tryz.func119.trans (congrArg some (by kernel_rfl))⟩
  f27 := ⟨Tryz.f120.name, by decide, Tryz.func120.trans (congrArg some (by kernel_rfl))⟩
  f28 := Tryz.func121.trans (congrArg some (by kernel_rfl))
  f29 := Tryz.func122.trans (congrArg some (by kernel_rfl))
  f46 := ⟨Tryz.f150.name, by decide, Tryz.func150.trans (congrArg some (by kernel_rfl))⟩
  f47 := Tryz.func151.trans (congrArg some (by kernel_rfl))
  f48 := Tryz.func152.trans (congrArg some (by kernel_rfl))
  f49 := ⟨Tryz.f153.name, by decide, Tryz.func153.trans (congrArg some (by kernel_rfl))⟩
  f50 := ⟨Tryz.f154.name, by decide, Tryz.func154.trans (congrArg some (by kernel_rfl))⟩
  f57 := ⟨Tryz.f177.name, by decide, Tryz.func177.trans (congrArg some (by kernel_rfl))⟩
  t0 := Tryz.underlying0
  a0 := Tryz.isAgg0
  z0 := Tryz.sizeOf0
  v0 := Tryz.zeroValue0
  t3 := Tryz.underlying3
  a3 := Tryz.isAgg3
  z3 := Tryz.sizeOf3
  v3 := Tryz.zeroValue3
  t4 := Tryz.underlying4
  a4 := Tryz.isAgg4
  z4 := Tryz.sizeOf4
  v4 := Tryz.zeroValue4
  t5 := Tryz.underlying5
  a5 := Tryz.isAgg5
  z5 := Tryz.sizeOf5
  v5 := Tryz.zeroValue5
  t9 := Tryz.underlying9
  a9 := Tryz.isAgg9
  z9 := Tryz.sizeOf9
  v9 := Tryz.zeroValue9
  t22 := Tryz.underlying42
  a22 := Tryz.isAgg42
  z22 := Tryz.sizeOf42
  v22 := Tryz.zeroValue42
  t25 := Tryz.underlying74
  a25 := Tryz.isAgg74
  z25 := Tryz.sizeOf74
  v25 := Tryz.zeroValue74
  t39 := Tryz.underlying109
  a39 := Tryz.isAgg109
  z39 := Tryz.sizeOf109
  v39 := Tryz.zeroValue109
  t45 := Tryz.underlying172
  a45 := Tryz.isAgg172
  z45 := Tryz.sizeOf172
  v45 := Tryz.zeroValue172
  t46 := Tryz.underlying173
  a46 := Tryz.isAgg173
  z46 := Tryz.sizeOf173
  v46 := Tryz.zeroValue173
  t50 := Tryz.underlying120
  a50 := Tryz.isAgg120
  z50 := Tryz.sizeOf120
  v50 := Tryz.zeroValue120
  t53 := Tryz.underlying128
  a53 := Tryz.isAgg128
  z53 := Tryz.sizeOf128
  v53 := Tryz.zeroValue128
  t55 := Tryz.underlying111
  a55 := Tryz.isAgg111
  z55 := Tryz.sizeOf111
  v55 := Tryz.zeroValue111
  t66 := Tryz.underlying217
  a66 := Tryz.isAgg217
  z66 := Tryz.sizeOf217
  v66 := Tryz.zeroValue217
  t70 := Tryz.underlying221
  a70 := Tryz.isAgg221
  z70 := Tryz.sizeOf221
  v70 := Tryz.zeroValue221
  t76 := Tryz.underlying251
  a76 := Tryz.isAgg251
  z76 := Tryz.sizeOf251
  v76 := Tryz.zeroValue251
  t77 := Tryz.underlying216
  a77 := Tryz.isAgg216
  z77 := Tryz.sizeOf216
  v77 := Tryz.zeroValue216 }
end Go.Proofs.YtllegkmadljmaaaGreatDoor

/- The order of texts in plain. No condition. -/
set_option linter.unusedVariables false
namespace Go.Proofs.YtllegkmadljmaaaGreatDoor
open Go Vc Go.Proofs Go.Lib

theorem cmp_lt : ∀ a b : List UInt8, Lib.compareBytes a b < 0 ↔ a < b
  | [], [] => by simp [Lib.compareBytes]
  | [], _ :: _ => by simp [Lib.compareBytes]
  | _ :: _, [] => by simp [Lib.compareBytes]
  | a :: ra, b :: rb => by
    rw [Lib.compareBytes, List.cons_lt_cons_iff]
    by_cases h1 : a < b
    · rw [if_pos h1]; exact ⟨fun _ => .inl h1, fun _ => by decide⟩
    · rw [if_neg h1]
      by_cases h2 : b < a
      · rw [if_pos h2]
        refine ⟨fun h => absurd h (by decide), fun h => ?_⟩
        rcases h with h | ⟨h, _⟩
        · exact absurd h h1
        · rw [h] at h2; exact absurd h2 (by rw [UInt8.lt_iff_toNat_lt]; omega)
      · rw [if_neg h2, cmp_lt ra rb]
        have : a = b := UInt8.toNat_inj.1 (by rw [UInt8.lt_iff_toNat_lt] at h1 h2; omega)
        exact ⟨fun h => .inr ⟨this, h⟩, fun h => h.resolve_left h1 |>.2⟩
theorem cmp_zero : ∀ a b : List UInt8, Lib.compareBytes a b = 0 ↔ a = b
  | [], [] => by simp [Lib.compareBytes]
  | [], _ :: _ => by simp [Lib.compareBytes]
  | _ :: _, [] => by simp [Lib.compareBytes]
  | a :: ra, b :: rb => by
    rw [Lib.compareBytes]
    by_cases h1 : a < b
    · rw [if_pos h1]
      refine ⟨fun h => absurd h (by decide), fun h => ?_⟩
      cases h; exact absurd h1 (by rw [UInt8.lt_iff_toNat_lt]; omega)
    · rw [if_neg h1]
      by_cases h2 : b < a
      · rw [if_pos h2]
        refine ⟨fun h => absurd h (by decide), fun h => ?_⟩
        cases h; exact absurd h2 (by rw [UInt8.lt_iff_toNat_lt]; omega)
      · rw [if_neg h2, cmp_zero ra rb]
        have : a = b := UInt8.toNat_inj.1 (by rw [UInt8.lt_iff_toNat_lt] at h1 h2; omega)
        subst this
        simp
theorem lt_tri (a b : List UInt8) : a < b ∨ a = b ∨ b < a := by
  rcases Decidable.em (a < b) with h | h
  · exact .inl h
  · rcases Decidable.em (a = b) with h' | h'
    · exact .inr (.inl h')
    · exact .inr (.inr (Std.lt_of_le_of_ne (Std.not_lt.1 h) fun e => h' e.symm))
end Go.Proofs.YtllegkmadljmaaaGreatDoor

/- Structures of the kit over its shelf, at this seat (written by a program of the author's, laysn.py). No condition. -/
namespace Go.Proofs.YtllegkmadljmaaaGreatDoor
open Go Go.Shelf Go.Proofs
def lays106_ren : Go.Shelf.Ren := ⟨fun | 106 => 73 | 213 => 123 | 265 => 155 | n => n, fun | 3 => 3 | 9 => 9 | n => n, fun  | n => n⟩
theorem lays106 : Go.Proofs.Lays.n106 Tryz.prog lays106_ren := {
  mixed := by kernel_rfl,
  f106 := Tryz.func73.trans (congrArg some (by kernel_rfl)),
  f213 := Tryz.func123.trans (congrArg some (by kernel_rfl)),
  f265 := Tryz.func155.trans (congrArg some (by kernel_rfl)),
  t3 := Tryz.underlying3,
  a3 := Tryz.isAgg3,
  z3 := Tryz.sizeOf3,
  v3 := Tryz.zeroValue3,
  t9 := Tryz.underlying9,
  a9 := Tryz.isAgg9,
  z9 := Tryz.sizeOf9,
  v9 := Tryz.zeroValue9 }
end Go.Proofs.YtllegkmadljmaaaGreatDoor

/- strings.Compare. No condition. -/
set_option linter.unusedVariables false
namespace Go.Proofs.YtllegkmadljmaaaGreatDoor
open Go Vc Go.Proofs Go.Lib

theorem compare_spec (a b : ByteArray) (w : World) : Calls Tryz.prog F_strings_Compare #[.string a, .string b] w fun e w' => e = .returned (.int .i64 (Lib.compareBytes a.data.toList b.data.toList)) ∧ w' = w := Any.strings_Compare lays106 a b w
end Go.Proofs.YtllegkmadljmaaaGreatDoor

/- Formulas of 2 Go functions of this seat (written by a program of the author's, vcgen.py), and that each is enough for the call. No condition. -/
set_option linter.unusedVariables false
namespace Go.Proofs.YtllegkmadljmaaaGreatDoor
open Go Vc Go.Proofs
set_option maxRecDepth 100000
def vc_slices_Clone (x0a : Option Addr) (x0n : Nat) (x0c : Nat) (w : World) (R : Value → World → Prop) : Prop :=
 (((Option.isNone x0a = true →
 R (Value.slice none 0 0) w)) ∧
 (Option.isNone x0a = false →
 ∀ w1 : World,
 (w1 = World.alloc w (Obj.cells (Array.mk []) 39) →
 ∃ w2 : World, ∃ l3 : Sl, (Sem.run Tryz.prog (Builtin.append_ (Array.mk [42, 42]) 42 (Array.mk [Value.slice (some (Addr.mk (Array.size (World.heap w)) 0 none)) 0 0, Value.slice x0a x0n x0c])) w1 = Result.ok (Value.slice l3.1 l3.2 l3.3) w2 ∧
 R (Value.slice l3.1 l3.2 l3.3) w2))))
theorem vc_slices_Clone_ok {x0a : Option Addr} {x0n : Nat} {x0c : Nat} {w : World} {R : Value → World → Prop} {R' : Ending → World → Prop} (h : vc_slices_Clone x0a x0n x0c w R) (hR : ∀ v w', R v w' → R' (.returned v) w') :
    Calls Tryz.prog 35 #[.slice x0a x0n x0c] w R' :=
  calls_of_body (vs := [(.slice x0a x0n x0c, false)]) (ty := ty) (ann := ⟨[], [], [], []⟩) (c := Tryz.f35.body.getD .skip) (by kernel_rfl) Tryz.func35 (by kernel_rfl) (by kernel_rfl) (Eq.mp (by kernel_rfl) h) hR
def vc_slices_BinarySearchFunc_byPath (x0a : Option Addr) (x0n : Nat) (x0c : Nat) (x1_0 : ByteArray) (x1_1 : ByteArray) (w : World) (R : Value → World → Prop) : Prop :=
 ∀ w1 : World,
 (w1 = World.alloc w (Obj.cells (Array.mk [Value.string x1_0, Value.string x1_1]) 39) →
 ∃ I2 : Int → Int → World → Prop, ∃ I3 : Int → Int → World → Nat, (I2 0 (↑x0n : Int) w1 ∧
 ∀ n4 : Int,
 ∀ n5 : Int,
 ∀ w6 : World,
 (I2 n4 n5 w6 →
 (((decide (n4 < n5) = true →
 ((0 : Int) ≤ (1 : Int) ∧
 ∀ w7 : World,
 (Drew w6 w7 →
 ∃ I8 : World → Prop, (I8 w7 ∧
 ((0 ≤ IntKind.wrap .i64 (Int.fdiv (IntKind.wrap .u64 (IntKind.wrap .i64 (n4 + n5))) (2 ^ min (Int.toNat 1) 64)) ∧
 IntKind.wrap .i64 (Int.fdiv (IntKind.wrap .u64 (IntKind.wrap .i64 (n4 + n5))) (2 ^ min (Int.toNat 1) 64)) < (↑x0n : Int)) ∧
 ∃ a9 : Addr, (x0a = some a9 ∧
 ∃ s10 : ByteArray, ∃ s11 : ByteArray, ((∀ w12 : World,
 (I8 w12 →
 Sem.run Tryz.prog (loadVar 39 (Addr.add a9 (Int.toNat (IntKind.wrap .i64 (Int.fdiv (IntKind.wrap .u64 (IntKind.wrap .i64 (n4 + n5))) (2 ^ min (Int.toNat 1) 64))) * 2))) w12 = Result.ok (Value.agg (Array.mk [Value.string s10, Value.string s11])) w12)) ∧
 ∃ s13 : ByteArray, ∃ s14 : ByteArray, ((∀ w15 : World,
 (I8 w15 →
 Sem.run Tryz.prog (loadVar 39 (Addr.mk (Array.size (World.heap w)) 0 none)) w15 = Result.ok (Value.agg (Array.mk [Value.string s13, Value.string s14])) w15)) ∧
 Calls Tryz.prog (37 : FuncId) (Array.mk [Value.agg (Array.mk [Value.string s10, Value.string s11]), Value.agg (Array.mk [Value.string s13, Value.string s14])]) (w7) (fun e16 w17 =>
 ∃ n18 : Int, (e16 = Ending.returned (Value.int .i64 n18) ∧
 (I8 w17 ∧
 (((decide (n18 < 0) = true →
 (I2 (IntKind.wrap .i64 (IntKind.wrap .i64 (Int.fdiv (IntKind.wrap .u64 (IntKind.wrap .i64 (n4 + n5))) (2 ^ min (Int.toNat 1) 64)) + 1)) n5 w17 ∧
 I3 (IntKind.wrap .i64 (IntKind.wrap .i64 (Int.fdiv (IntKind.wrap .u64 (IntKind.wrap .i64 (n4 + n5))) (2 ^ min (Int.toNat 1) 64)) + 1)) n5 w17 < I3 n4 n5 w6))) ∧
 (decide (n18 < 0) = false →
 (I2 n4 (IntKind.wrap .i64 (Int.fdiv (IntKind.wrap .u64 (IntKind.wrap .i64 (n4 + n5))) (2 ^ min (Int.toNat 1) 64))) w17 ∧
 I3 n4 (IntKind.wrap .i64 (Int.fdiv (IntKind.wrap .u64 (IntKind.wrap .i64 (n4 + n5))) (2 ^ min (Int.toNat 1) 64))) w17 < I3 n4 n5 w6))))))))))))))) ∧
 (decide (n4 < n5) = false →
 ∀ w19 : World,
 (Drew w6 w19 →
 ∃ I20 : World → Prop, (I20 w19 ∧
 (((decide (n4 < (↑x0n : Int)) = true →
 ((0 ≤ n4 ∧
 n4 < (↑x0n : Int)) ∧
 ∃ a21 : Addr, (x0a = some a21 ∧
 ∃ s22 : ByteArray, ∃ s23 : ByteArray, ((∀ w24 : World,
 (I20 w24 →
 Sem.run Tryz.prog (loadVar 39 (Addr.add a21 (Int.toNat n4 * 2))) w24 = Result.ok (Value.agg (Array.mk [Value.string s22, Value.string s23])) w24)) ∧
 ∃ s25 : ByteArray, ∃ s26 : ByteArray, ((∀ w27 : World,
 (I20 w27 →
 Sem.run Tryz.prog (loadVar 39 (Addr.mk (Array.size (World.heap w)) 0 none)) w27 = Result.ok (Value.agg (Array.mk [Value.string s25, Value.string s26])) w27)) ∧
 Calls Tryz.prog (37 : FuncId) (Array.mk [Value.agg (Array.mk [Value.string s22, Value.string s23]), Value.agg (Array.mk [Value.string s25, Value.string s26])]) (w19) (fun e28 w29 =>
 ∃ n30 : Int, (e28 = Ending.returned (Value.int .i64 n30) ∧
 (I20 w29 ∧
 R (Value.tuple (Array.mk [Value.int .i64 n4, Value.bool (n30 == 0)])) w29))))))))) ∧
 (decide (n4 < (↑x0n : Int)) = false →
 (I20 w19 ∧
 R (Value.tuple (Array.mk [Value.int .i64 n4, Value.bool false])) w19))))))))))
theorem vc_slices_BinarySearchFunc_byPath_ok {x0a : Option Addr} {x0n : Nat} {x0c : Nat} {x1_0 : ByteArray} {x1_1 : ByteArray} {w : World} {R : Value → World → Prop} {R' : Ending → World → Prop} (h : vc_slices_BinarySearchFunc_byPath x0a x0n x0c x1_0 x1_1 w R) (hR : ∀ v w', R v w' → R' (.returned v) w') :
    Calls Tryz.prog 74 #[.slice x0a x0n x0c, .agg #[.string x1_0, .string x1_1], .func (.func 37) #[] #[]] w R' :=
  calls_of_body (vs := [(.slice x0a x0n x0c, false), (.agg #[.string x1_0, .string x1_1], false), (.func (.func 37) #[] #[], false)]) (ty := ty) (ann := ⟨[], [(3, [(9, .int .i64), (10, .int .i64)])], [(5, .held [(0, true), (1, true), (2, true), (3, true), (4, true), (5, true), (6, false), (7, true)]), (8, .held [(0, true), (1, true), (2, true), (3, true), (4, true), (5, true), (6, true), (7, true), (8, true), (9, true), (10, true), (11, false), (12, true), (13, true), (14, true), (15, true)])], []⟩) (c := Tryz.f74.body.getD .skip) (by kernel_rfl) Tryz.func74 (by kernel_rfl) (by kernel_rfl) (Eq.mp (by kernel_rfl) h) hR
end Go.Proofs.YtllegkmadljmaaaGreatDoor

/- Folders: sort, clone, search, New, Under, Get. Conditions: as named. -/
set_option linter.unusedVariables false
namespace Go.Proofs.YtllegkmadljmaaaGreatDoor
open Go Vc Go.Proofs Go.Sort Go.Lib

def cmpF (x y : FileE) : Int := Lib.compareBytes x.path.data.toList y.path.data.toList
theorem byPath_spec (x y : FileE) (w : World) : Calls Tryz.prog F_snap_byPath #[.agg (encF x).toArray, .agg (encF y).toArray] w fun e w' => e = .returned (.int .i64 (cmpF x y)) ∧ ∃ q os', w' = grow (w.drewN q) os' := by
  refine vc_snap_byPath_ok (R := fun v w' => v = .int .i64 (cmpF x y) ∧ ∃ q os', w' = grow (w.drewN q) os') ?_ (fun v w' h => ⟨by rw [h.1], h.2⟩)
  intro w1 h1 w2 h2
  have hb1 : w1.heap[w.heap.size]? = some (.cells (encF x).toArray T_api_File (0, 0)) := by rw [h1]; exact alloc_new _ _
  have hb2 : w2.heap[w1.heap.size]? = some (.cells (encF y).toArray T_api_File (0, 0)) := by rw [h2]; exact alloc_new _ _
  have hb1' : w2.heap[w.heap.size]? = some (.cells (encF x).toArray T_api_File (0, 0)) := by rw [h2]; exact (Fr.alloc (fun _ => False) _ _).keep hb1 (by simp)
  refine ⟨x.path, by rw [cell_blk hb1']; rfl, y.path, by rw [cell_blk hb2]; rfl, (compare_spec _ _ w2).mono ?_⟩
  rintro e w6 ⟨rfl, rfl⟩
  refine ⟨_, rfl, rfl, 0, #[.cells (encF x).toArray T_api_File (0, 0), .cells (encF y).toArray T_api_File (0, 0)], ?_⟩
  rw [h2, h1, alloc_eq_grow, alloc_eq_grow, grow_grow]
  rfl
theorem ltF (x y : FileE) : ltOf cmpF x y = decide (x.path.data.toList < y.path.data.toList) := decide_eq_decide.2 (cmp_lt _ _)
theorem swoF : SWO (ltOf cmpF) where
  irrefl x := by rw [ltF, decide_eq_false_iff_not]; exact List.lt_irrefl _
  trans x y z h1 h2 := by
    rw [ltF, decide_eq_true_eq] at *
    exact List.lt_trans h1 h2
  ntrans x y z h1 h2 := by
    rw [ltF, decide_eq_false_iff_not] at *
    intro h
    rcases lt_tri x.path.data.toList y.path.data.toList with h3 | h3 | h3
    · exact h1 h3
    · rw [h3] at h; exact h2 h
    · exact h2 (List.lt_trans h3 h)
/-- 'slices.SortFunc' of files by their paths. -/
theorem sort_spec {w : World} {base : Nat} {e : TypeId} {l : Sl} {xs : List FileE} {g : Nat} (h : OwnK encF 2 w base e l xs) (ha : l.a = some ⟨g, 0, none⟩) (hsz : xs.length ≤ 1000000) :
    Calls Tryz.prog 36 #[.slice l.a l.len l.cap, .func (.func F_snap_byPath) #[] #[]] w fun r w' =>
      r = .returned (.tuple #[]) ∧ ∃ ys : List FileE, ys.Perm xs ∧ (ys.Pairwise fun x y => ¬ y.path.data.toList < x.path.data.toList) ∧ OwnK encF 2 w' base e l ys ∧ Fr (At l) w w' := by
  obtain ⟨cur, hg, _⟩ := own_row h ha
  have hc := AnyQ.slices_SortFunc sortLays 2 Tryz.isAgg39 Tryz.sizeOf39 encF (fun _ => rfl) (fun x v hv => by
    simp only [encF, List.mem_cons, List.mem_nil_iff, or_false] at hv
    rcases hv with rfl | rfl <;> rfl) cmpF swoF F_snap_byPath #[] g 0 l.cap xs.toArray w (enters_of (P := Tryz.prog) Tryz.func37 (by kernel_rfl) rfl)
    (fun m os dk _ x y => byPath_spec x y _) (own_holds (fun _ => rfl) (by decide) h ha) (lt_blk hg) (by rw [List.size_toArray]; omega)
  have hl : l.len = xs.length := h.1.symm
  rw [ha, hl]
  rw [List.size_toArray] at hc
  refine hc.mono ?_
  rintro r w' ⟨rfl, d', n, os, ⟨p1, _, p3⟩, p4, rfl⟩
  have p1 : d'.size = xs.length := by simpa using p1
  refine ⟨rfl, d'.toList, ?_, ?_, ?_, ?_⟩
  · have e1 : (d'.extract 0 xs.length).toList = d'.toList := by rw [← p1]; simp
    have e2 : (xs.toArray.extract 0 xs.length).toList = xs := by simp
    rw [e1, e2] at p3
    exact p3
  · rw [List.pairwise_iff_getElem]
    intro i j hi hj hij
    have := p4 i j (Nat.zero_le _) hij (by rw [Array.length_toList] at hj; omega)
    rw [Array.length_toList] at hi hj
    rw [getElem!_pos d' i hi, getElem!_pos d' j hj, ltF, decide_eq_false_iff_not] at this
    simpa using this
  · have := own_sorted (enc := encF) (k := 2) (fun _ => rfl) (by decide) h ha n d'.toList (by rw [Array.length_toList, p1]) os
    simpa using this
  · have := sort_fr (enc := encF) (k := 2) (w := w) (g := g) n d'.toList os
    exact (by simpa using this : Fr (· = g) w (sortWorldK encF 2 w g 0 n d' os)).mono fun q _ e => ⟨_, ha, e⟩
end Go.Proofs.YtllegkmadljmaaaGreatDoor
namespace Go.Proofs.YtllegkmadljmaaaGreatDoor
open Go Vc Go.Proofs

theorem grow_fr (w : World) (q : Nat) (os : Array Obj) : Fr (fun _ => False) w (Sort.grow (w.drewN q) os) :=
  ⟨rfl, rfl, rfl, by simp [Sort.grow, World.drewN], fun k hk _ => by
    have hk' : k < (w.drewN q).heap.size := hk
    exact Sort.heap_grow_old _ _ hk'⟩
theorem byPath_fr (x y : FileE) (w : World) : Calls Tryz.prog F_snap_byPath #[.agg (encF x).toArray, .agg (encF y).toArray] w fun e w' => e = .returned (.int .i64 (cmpF x y)) ∧ Fr (fun _ => False) w w' :=
  (byPath_spec x y w).mono fun e w' ⟨h, q, os, h2⟩ => ⟨h, by rw [h2]; exact grow_fr _ _ _⟩
/-- 'slices.Clone'. -/
theorem clone_spec {w : World} {a : Option Addr} {n c : Nat} {xs : List FileE} (hr : ReadsK encF 2 w a xs) (hn : xs.length = n) (hl : n ≤ 1000000) : Calls Tryz.prog F_slices_Clone #[.slice a n c] w fun e w' =>
    ∃ l, e = .returned (.slice l.a l.len l.cap) ∧ OwnK encF 2 w' w.heap.size T_api_File l xs ∧ Fr (fun _ => False) w w' := by
  refine vc_slices_Clone_ok (R := fun v w' => ∃ l : Sl, v = .slice l.a l.len l.cap ∧ OwnK encF 2 w' w.heap.size T_api_File l xs ∧ Fr (fun _ => False) w w') ?_ (fun v w' ⟨l, h⟩ => ⟨l, by rw [h.1], h.2⟩)
  refine ⟨fun ha => ?_, fun ha w1 h1 => ?_⟩
  · have ha : a = none := by simpa using ha
    have hx : xs = [] := by
      cases xs with
      | nil => rfl
      | cons x r =>
        obtain ⟨ad, h, _⟩ := hr 0 x rfl
        rw [ha] at h; cases h
    subst hx
    exact ⟨⟨none, 0, 0⟩, rfl, .nil _ _ _, .refl _ _⟩
  · have hf1 : Fr (fun _ => False) w w1 := by rw [h1]; exact .alloc _ _ _
    have ho1 : OwnK encF 2 w1 w.heap.size T_api_File ⟨some ⟨w.heap.size, 0, none⟩, 0, 0⟩ [] := by rw [h1]; exact .empty w T_api_File
    obtain ⟨w2, l3, hr2, ho2, hf2⟩ := append_allK elF ho1 c (hr.keep hf1 (by simp)) (by simp [maxLen]; omega) (by simp; omega) hf1.size hn
    exact ⟨w2, l3, hr2, l3, rfl, ho2, hf1.trans hf2 fun q hq ⟨y, hy, e⟩ => by cases hy; simp only at e; omega⟩
/-- Rising by their paths. -/
def Rising (xs : List FileE) : Prop := xs.Pairwise fun x y => ¬ y.path.data.toList < x.path.data.toList
theorem rising_lt {xs : List FileE} (h : Rising xs) {i j : Nat} {x y : FileE} (hx : xs[i]? = some x) (hy : xs[j]? = some y) (hij : i ≤ j) {p : List UInt8} (hp : y.path.data.toList < p) : x.path.data.toList < p := by
  by_cases he : i = j
  · subst he; rw [hx] at hy; cases hy; exact hp
  · have := (List.pairwise_iff_getElem.1 h) i j (List.getElem?_eq_some_iff.1 hx).1 (List.getElem?_eq_some_iff.1 hy).1 (by omega)
    rw [(List.getElem?_eq_some_iff.1 hx).2, (List.getElem?_eq_some_iff.1 hy).2] at this
    rcases lt_tri x.path.data.toList y.path.data.toList with h3 | h3 | h3
    · exact List.lt_trans h3 hp
    · rw [h3]; exact hp
    · exact absurd h3 this
/-- 'slices.BinarySearchFunc'. -/
theorem search_spec {w : World} {a : Option Addr} {n c : Nat} {xs : List FileE} (hr : ReadsK encF 2 w a xs) (hn : xs.length = n) (hl : n ≤ 1000000) (hs : Rising xs) (t : FileE) :
    Calls Tryz.prog F_slices_BinarySearchFunc #[.slice a n c, .agg #[.string t.path, .string t.data], .func (.func F_snap_byPath) #[] #[]] w fun e w' =>
      ∃ i : Nat, i ≤ n ∧ e = .returned (.tuple #[.int .i64 i, .bool (match xs[i]? with | some x => decide (x.path = t.path) | none => false)]) ∧ (∀ k x, xs[k]? = some x → (x.path.data.toList < t.path.data.toList ↔ k < i)) ∧ Fr (fun _ => False) w w' := by
  refine vc_slices_BinarySearchFunc_byPath_ok (R := fun v w' => ∃ i : Nat, i ≤ n ∧ v = .tuple #[.int .i64 i, .bool (match xs[i]? with | some x => decide (x.path = t.path) | none => false)] ∧ (∀ k x, xs[k]? = some x → (x.path.data.toList < t.path.data.toList ↔ k < i)) ∧ Fr (fun _ => False) w w') ?_ (fun v w' ⟨i, h0, h, h2⟩ => ⟨i, h0, by rw [h], h2⟩)
  intro w1 h1
  have hf1 : Fr (fun _ => False) w w1 := by rw [h1]; exact .alloc _ _ _
  have hb1 : w1.heap[w.heap.size]? = some (.cells (encF t).toArray T_api_File (0, 0)) := by rw [h1]; exact alloc_new _ _
  clear h1
  have lt : ∀ w', Fr (fun _ => False) w1 w' → (loadVar T_api_File ⟨w.heap.size, 0, none⟩).run Tryz.prog w' = .ok (.agg #[.string t.path, .string t.data]) w' := fun w' hf =>
    load_agg (vs := encF t) (agg_of (by kernel_rfl)) (by kernel_rfl) fun k v hv => by rw [add_lit, Nat.zero_add, cell_blk (hf.keep hb1 (by simp))]; simpa [encF] using hv
  refine ⟨fun i j w' => ∃ p q : Nat, i = p ∧ j = q ∧ p ≤ q ∧ q ≤ n ∧ (∀ k x, xs[k]? = some x → k < p → x.path.data.toList < t.path.data.toList) ∧ (∀ k x, xs[k]? = some x → q ≤ k → ¬ x.path.data.toList < t.path.data.toList) ∧ Fr (fun _ => False) w1 w', fun i j _ => j.toNat - i.toNat,
    ⟨0, n, rfl, rfl, Nat.zero_le _, Nat.le_refl _, fun k x _ h => by omega, fun k x hx h => by have := (List.getElem?_eq_some_iff.1 hx).1; omega, .refl _ _⟩, ?_⟩
  rintro i j w6 ⟨p, q, rfl, rfl, hpq, hqn, hlo, hhi, hf⟩
  refine ⟨fun hlt => ⟨by decide, fun w7 d7 => ⟨fun w' => Fr (fun _ => False) w1 w', hf.trans' (.drew _ d7), ?_⟩⟩, fun hge w19 d19 => ⟨fun w' => Fr (fun _ => False) w1 w', hf.trans' (.drew _ d19), ?_⟩⟩
  · have hlt := of_decide_eq_true hlt
    have hf7 : Fr (fun _ => False) w1 w7 := hf.trans' (.drew _ d7)
    have e1 : IntKind.i64.wrap (Int.fdiv (IntKind.u64.wrap (IntKind.i64.wrap ((p : Int) + (q : Int)))) (2 ^ min (Int.toNat 1) 64)) = (((p + q) / 2 : Nat) : Int) := by
      rw [wrap_i64 (x := (p : Int) + (q : Int)) (by omega) (by omega), wrap_u64 (by omega) (by omega), show (2 : Int) ^ min (Int.toNat 1) 64 = 2 by decide, Int.fdiv_eq_ediv_of_nonneg _ (by omega), wrap_i64 (by omega) (by omega)]
      omega
    have hm : (p + q) / 2 < xs.length := by omega
    obtain ⟨m, hme⟩ : ∃ m, (p + q) / 2 = m := ⟨_, rfl⟩
    have e2 : IntKind.i64.wrap ((m : Int) + 1) = ((m + 1 : Nat) : Int) := by rw [wrap_i64 (by omega) (by omega)]; omega
    rw [hme] at e1 hm
    rw [e1, e2]
    have hx : xs[m]? = some xs[m] := List.getElem?_eq_getElem hm
    generalize xs[m] = x at hx
    obtain ⟨ad, had, _⟩ := hr.load elF hx
    refine ⟨⟨by omega, by omega⟩, ad, had, x.path, x.data, fun w' hw' => ?_, t.path, t.data, fun w' hw' => lt w' hw', (byPath_fr x t w7).mono ?_⟩
    · obtain ⟨b, hb, hld⟩ := (hr.keep (hf1.trans' hw') (by simp)).load elF hx
      rw [had] at hb; cases hb
      rw [Int.toNat_natCast]; exact hld
    · rintro e w17 ⟨rfl, hf17⟩
      have hf17' := hf7.trans' hf17
      refine ⟨_, rfl, hf17', fun hc => ⟨⟨m + 1, q, rfl, rfl, by omega, hqn, fun k y hy hk => ?_, hhi, hf17'⟩, by dsimp only; omega⟩, fun hc => ⟨⟨p, m, rfl, rfl, by omega, by omega, hlo, fun k y hy hk hlt' => ?_, hf17'⟩, by dsimp only; omega⟩⟩
      · exact rising_lt hs hy hx (by omega) ((cmp_lt _ _).1 (of_decide_eq_true hc))
      · exact of_decide_eq_false hc ((cmp_lt _ _).2 (rising_lt hs hx hy hk hlt'))
  · have hge := of_decide_eq_false hge
    have hpq' : p = q := by omega
    subst hpq'
    have hf19 : Fr (fun _ => False) w1 w19 := hf.trans' (.drew _ d19)
    have hiff : ∀ k x, xs[k]? = some x → (x.path.data.toList < t.path.data.toList ↔ k < p) := fun k x hx => ⟨fun h => by
      by_cases hk : k < p
      · exact hk
      · exact absurd h (hhi k x hx (by omega)), hlo k x hx⟩
    refine ⟨fun hlt => ?_, fun hlt => ⟨hf19, p, hqn, ?_, hiff, hf1.trans' hf19⟩⟩
    · have hlt := of_decide_eq_true hlt
      have hm : p < xs.length := by omega
      have hx : xs[p]? = some xs[p] := List.getElem?_eq_getElem hm
      generalize xs[p] = x at hx
      obtain ⟨ad, had, _⟩ := hr.load elF hx
      refine ⟨⟨by omega, by omega⟩, ad, had, x.path, x.data, fun w' hw' => ?_, t.path, t.data, fun w' hw' => lt w' hw', (byPath_fr x t w19).mono ?_⟩
      · obtain ⟨b, hb, hld⟩ := (hr.keep (hf1.trans' hw') (by simp)).load elF hx
        rw [had] at hb; cases hb
        rw [Int.toNat_natCast]; exact hld
      · rintro e w29 ⟨rfl, hf29⟩
        have hf29' := hf19.trans' hf29
        refine ⟨_, rfl, hf29', p, hqn, ?_, hiff, hf1.trans' hf29'⟩
        rw [hx]
        have : (cmpF x t == 0) = decide (x.path = t.path) := by
          rw [Bool.eq_iff_iff, beq_iff_eq, decide_eq_true_eq]
          exact (cmp_zero _ _).trans ⟨fun h => bs_ext h, fun h => by rw [h]⟩
        rw [this]
    · have hlt := of_decide_eq_false hlt
      rw [List.getElem?_eq_none (by omega)]
end Go.Proofs.YtllegkmadljmaaaGreatDoor
namespace Go.Proofs.YtllegkmadljmaaaGreatDoor
open Go Vc Go.Proofs

def underE (xs : List FileE) (front : ByteArray) : List ByteArray := (xs.filter fun x => begB x.path front).map (·.path)
/-- A folder of files that stands still. -/
structure IsSnap (w : World) (b : Nat) (l : Sl) (xs : List FileE) (size : Int) : Prop where
  files : w.cell? ⟨b, 0, none⟩ = some (.slice l.a l.len l.cap)
  size : w.cell? ⟨b, 1, none⟩ = some (.int .i64 size)
  len : xs.length = l.len
  reads : ReadsK encF 2 w l.a xs
  small : xs.length ≤ 1000000
theorem IsSnap.keep {w w1 : World} {b : Nat} {l : Sl} {xs : List FileE} {size : Int} (h : IsSnap w b l xs size) (hf : Fr (fun _ => False) w w1) : IsSnap w1 b l xs size :=
  ⟨hf.cell h.files (by simp), hf.cell h.size (by simp), h.len, h.reads.keep hf (by simp), h.small⟩
theorem under_spec {w : World} {b : Nat} {l : Sl} {xs : List FileE} {size : Int} (h : IsSnap w b l xs size) (hs : Rising xs) (front : ByteArray) : Calls Tryz.prog F_snap_Snap_Under #[.pointer (some ⟨b, 0, none⟩), .string front] w fun e w' =>
    ∃ o, e = .returned (.slice o.a o.len o.cap) ∧ Vc.Own w' w.heap.size T_string o (strV (underE xs front)) ∧ Fr (fun _ => False) w w' := by
  refine vc_snap_Snap_Under_ok (R := fun v w' => ∃ o : Sl, v = .slice o.a o.len o.cap ∧ Vc.Own w' w.heap.size T_string o (strV (underE xs front)) ∧ Fr (fun _ => False) w w') ?_ (fun v w' ⟨o, h⟩ => ⟨o, by rw [h.1], h.2⟩)
  have hsm := h.small
  have hlen := h.len
  refine ⟨l, h.files, (search_spec h.reads h.len (by omega) hs ⟨front, ⟨#[]⟩⟩).mono ?_⟩
  rintro e w3 ⟨i, hin, rfl, hiff, hf3⟩
  refine ⟨_, _, rfl, fun o j w' => ∃ m : Nat, j = m ∧ i ≤ m ∧ m ≤ xs.length ∧ (∀ k x, xs[k]? = some x → i ≤ k → k < m → begB x.path front = true) ∧ Vc.Own w' w.heap.size T_string o (strV (((xs.take m).drop i).map (·.path))) ∧ Fr (fun _ => False) w w', fun _ j _ => xs.length - j.toNat,
    ⟨i, rfl, Nat.le_refl _, by omega, fun k x _ h1 h2 => by omega, by rw [List.drop_eq_nil_of_le (by rw [List.length_take]; omega)]; exact Vc.Own.nil _ _ _, hf3⟩, ?_⟩
  rintro o j w10 ⟨m, rfl, him, hm, hall, ho, hf⟩
  have hk := h.keep hf
  have e1 : IntKind.i64.wrap ((m : Int) + 1) = ((m + 1 : Nat) : Int) := by rw [wrap_i64 (by omega) (by omega)]; omega
  rw [e1]
  have hlow : ∀ k x, xs[k]? = some x → k < i → begB x.path front = false := fun k x hx hki => by
    have := (hiff k x hx).2 hki
    refine decide_eq_false fun hp => pre_le _ _ hp this
  have fin : (∀ k x, xs[k]? = some x → m ≤ k → begB x.path front = false) → Vc.Own w10 w.heap.size T_string o (strV (underE xs front)) := fun h3 => by
    unfold underE
    rw [filter_mid (fun x => begB x.path front) xs him hlow hall h3]
    exact ho
  refine ⟨l, hk.files, fun hlt => ⟨l, hk.files, ?_⟩, fun hge => ⟨o, rfl, fin fun k x hx hmk => ?_, hf⟩⟩
  · have hlt := of_decide_eq_true hlt
    have hml : m < xs.length := by omega
    have hx : xs[m]? = some xs[m] := List.getElem?_eq_getElem hml
    generalize xs[m] = x at hx
    obtain ⟨ad, had, hc⟩ := hk.reads m x hx
    have hc0 : w10.cell? (ad.add (m * 2)) = some (.string x.path) := by
      have := hc 0 (.string x.path) rfl
      rw [add_add] at this; simpa using this
    refine ⟨⟨by omega, by omega⟩, ad, had, x.path, by rw [Int.toNat_natCast]; exact hc0, (hasPrefix_spec x.path front w10).mono ?_⟩
    rintro e w16 ⟨rfl, hw⟩
    replace hw := hw.symm
    subst hw
    refine ⟨_, rfl, fun hb => ⟨l, hk.files, ⟨by omega, by omega⟩, ad, had, x.path, by rw [Int.toNat_natCast]; exact hc0, fun w21 h21 => ?_⟩, fun hb => ⟨o, rfl, fin fun k y hy hmk => ?_, hf⟩⟩
    · have hol : (((xs.take m).drop i).map (·.path)).length ≤ 1000000 := by rw [List.length_map, List.length_drop, List.length_take]; omega
      obtain ⟨w22, o23, hr22, ho22, hf22, _⟩ := append_one' elString ho (v := .string x.path) rfl (by simp only [strV, List.length_map, maxLen] at hol ⊢; omega) (by simp only [strV, List.length_map] at hol ⊢; omega) hf.size h21
      refine ⟨w22, o23, hr22, ⟨m + 1, rfl, by omega, by omega, fun k y hy h1 h2 => ?_, ?_, hf.trans hf22 fun q hq ⟨z, hz, e⟩ => by have := (ho.blk hz).1; omega⟩, by dsimp only; omega⟩
      · by_cases hkm : k = m
        · subst hkm; rw [hx] at hy; cases hy; exact hb
        · exact hall k y hy h1 (by omega)
      · have : (xs.take (m + 1)).drop i = (xs.take m).drop i ++ [x] := by
          rw [List.take_add_one, hx, Option.toList, List.drop_append_of_le_length (by rw [List.length_take]; omega)]
        rw [this]
        simpa [strV] using ho22
    · by_cases hkm : k = m
      · subst hkm; rw [hx] at hy; cases hy; exact hb
      · refine decide_eq_false fun hp => ?_
        have hge1 : ¬ x.path.data.toList < front.data.toList := fun hl => by have := (hiff m x hx).1 hl; omega
        have hge2 : ¬ y.path.data.toList < x.path.data.toList := by
          have := (List.pairwise_iff_getElem.1 hs) m k hml (List.getElem?_eq_some_iff.1 hy).1 (by omega)
          rw [(List.getElem?_eq_some_iff.1 hx).2, (List.getElem?_eq_some_iff.1 hy).2] at this
          exact this
        have := pre_between _ _ _ hge1 hge2 hp
        rw [begB, decide_eq_false_iff_not] at hb
        exact hb this
  · have hge := of_decide_eq_false hge
    have := (List.getElem?_eq_some_iff.1 hx).1
    omega
end Go.Proofs.YtllegkmadljmaaaGreatDoor
namespace Go.Proofs.YtllegkmadljmaaaGreatDoor
open Go Vc Go.Proofs

def okF (ys : List FileE) (i : Nat) : Prop := ∀ x, ys[i]? = some x → cleanB x.path = true ∧ ∀ y, 0 < i → ys[i - 1]? = some y → y.path ≠ x.path
def NewOK (ys : List FileE) : Prop := (∀ i, okF ys i) ∧ ∀ x ∈ ys, underE ys (x.path ++ ⟨#[47]⟩) = []
/-- What New hands back. -/
def NewR (w : World) (xs : List FileE) (v : Value) (w' : World) : Prop := Fr (fun _ => False) w w' ∧
  ((v = .tuple #[.pointer none, .int .i64 2] ∧ (2000 < xs.length ∨ 4194304 < totalF xs)) ∨
   (xs.length ≤ 2000 ∧ totalF xs ≤ 4194304 ∧ ∃ ys : List FileE, ys.Perm xs ∧ Rising ys ∧
     ((¬ NewOK ys ∧ v = .tuple #[.pointer none, .int .i64 4]) ∨ (NewOK ys ∧ ∃ b l, v = .tuple #[.pointer (some ⟨b, 0, none⟩), .int .i64 0] ∧ (w.heap.size ≤ b ∧ ∀ x, l.a = some x → w.heap.size ≤ x.block) ∧ IsSnap w' b l ys (totalF xs)))))
theorem new_spec {w : World} {a : Option Addr} {n c : Nat} {xs : List FileE} (hr : ReadsK encF 2 w a xs) (hn : xs.length = n) (hl : n ≤ 1000000) (ht : totalF xs ≤ 4611686018427387904) (hp : ∀ x ∈ xs, x.path.size ≤ 140737488355328)
    (hnil : ∀ W, Calls Tryz.prog 36 #[.slice none 0 0, .func (.func F_snap_byPath) #[] #[]] W fun e w' => e = .returned (.tuple #[]) ∧ w' = W) :
    Calls Tryz.prog F_snap_New #[.slice a n c] w fun e w' => ∃ v, e = .returned v ∧ NewR w xs v w' := by
  refine vc_snap_New_ok (R := NewR w xs) ?_ (fun v w' h => ⟨v, rfl, h⟩)
  refine (clone_spec hr hn hl).mono ?_
  rintro e w2 ⟨l3, rfl, ho2, hf2⟩
  refine ⟨l3, rfl, fun w4 h4 => ?_⟩
  have hb4 : w4.heap[w2.heap.size]? = some (.cells #[.slice l3.a l3.len l3.cap, .int .i64 0] T_snap_Snap (0, 0)) := by rw [h4]; exact alloc_new _ _
  have hf4 : Fr (fun _ => False) w2 w4 := by rw [h4]; exact .alloc _ _ _
  clear h4
  have hsz := hf2.size
  have hf4' := hf2.trans' hf4
  have hsb : ∀ {q : Nat}, q < w.heap.size → q ≠ w2.heap.size := fun h => by omega
  refine ⟨fun i w' => ∃ k : Nat, i = k ∧ k ≤ n ∧ w'.cell? ⟨w2.heap.size, 0, none⟩ = some (.slice l3.a l3.len l3.cap) ∧ w'.cell? ⟨w2.heap.size, 1, none⟩ = some (.int .i64 (totalF (xs.take k) : Nat)) ∧ w'.frozen? ⟨w2.heap.size, 1, none⟩ = false ∧ Fr (· = w2.heap.size) w4 w',
    fun i _ => n - i.toNat, ⟨0, rfl, Nat.zero_le _, by rw [cell_blk hb4]; rfl, by rw [cell_blk hb4]; rfl, frozen_blk hb4 1, .refl _ _⟩, ?_⟩
  rintro i w8 ⟨k, rfl, hk, c0, c1, cz, hf8⟩
  have e1 : IntKind.i64.wrap ((k : Int) + 1) = ((k + 1 : Nat) : Int) := by rw [wrap_i64 (by omega) (by omega)]; omega
  rw [e1]
  have hf8' : Fr (fun _ => False) w w8 := hf4'.trans hf8 fun q hq e => hsb hq e
  refine ⟨fun hlt => ?_, fun hge => ?_⟩
  · have hlt := of_decide_eq_true hlt
    have hkl : k < xs.length := by omega
    have hx : xs[k]? = some xs[k] := List.getElem?_eq_getElem hkl
    generalize xs[k] = x at hx
    obtain ⟨ad, had, hload⟩ := (hr.keep hf8' (by simp)).load elF hx
    refine ⟨⟨by omega, by omega⟩, ad, had, x.path, x.data, by rw [Int.toNat_natCast]; exact hload, fun w12 h12 => ?_⟩
    subst h12
    refine ⟨_, boxF_run w8 x, fun w14 d14 => ?_⟩
    have hfa : Fr (fun _ => False) w8 w14 := (Fr.alloc (fun _ => False) w8 (.cells (encF x).toArray T_api_File)).trans' (.drew _ d14)
    have hbx : w14.cell? ⟨w8.heap.size, 1, none⟩ = some (.string x.data) := boxF_cell w8 x (.drew (fun _ => False) d14) (by simp) rfl
    have hlt2 := World.block_lt_of_cell? _ _ c0
    simp only at hlt2
    have cz14 : w14.frozen? ⟨w2.heap.size, 1, none⟩ = false := (World.frozen?_of_block (hfa.blk _ hlt2 (by simp))).trans cz
    have c114 := hfa.cell c1 (by simp)
    have htot := totalF_take hx
    have hle := totalF_le xs (k + 1)
    refine ⟨_, c114, x.data, hbx, ⟨⟨_, c114⟩, cz14⟩, fun w17 h17 => ⟨⟨k + 1, rfl, by omega, ?_, ?_, ?_, ?_⟩, by dsimp only; omega⟩⟩
    · rw [h17, World.cell?_setCell_other _ _ _ _ (by simp)]; exact hfa.cell c0 (by simp)
    · rw [h17, World.cell?_setCell_same' _ _ _ (by rw [c114]; rfl), htot, wrap_i64 (by omega) (by omega)]; simp
    · rw [h17, World.frozen?_setCell]; exact cz14
    · rw [h17]
      exact (hf8.trans hfa fun q hq h => h.elim).trans' (.set _ _ _ rfl)
  have hge := of_decide_eq_false hge
  have hk' : k = n := by omega
  rw [hk', ← hn, List.take_of_length_le (Nat.le_refl _)] at c1
  refine ⟨fun hb => ⟨hf8', .inl ⟨rfl, .inl (by have := of_decide_eq_true hb; omega)⟩⟩, fun hb => ⟨_, c1, fun hb2 => ⟨hf8', .inl ⟨rfl, .inr (by have := of_decide_eq_true hb2; omega)⟩⟩, fun hb2 => ⟨l3, c0, ?_⟩⟩⟩
  have hb := of_decide_eq_false hb
  have hb2 := of_decide_eq_false hb2
  have ho8 : OwnK encF 2 w8 w.heap.size T_api_File l3 xs := (ho2.keep hf4 (by simp)).keep hf8 fun y hy e => by have := (ho2.blk hy).2; omega
  have hsort : Calls Tryz.prog 36 #[.slice l3.a l3.len l3.cap, .func (.func F_snap_byPath) #[] #[]] w8 fun r w' => r = .returned (.tuple #[]) ∧ ∃ ys : List FileE, ys.Perm xs ∧ Rising ys ∧ OwnK encF 2 w' w.heap.size T_api_File l3 ys ∧ Fr (At l3) w8 w' := by
    rcases ho8.2.2 with ⟨hv, hz⟩ | ⟨g, cap, cur, hv, _⟩
    · simp only [Value.slice.injEq] at hv
      have hx0 : xs = [] := List.length_eq_zero_iff.1 (by have := ho8.1; omega)
      have ho8' := ho8
      rw [hv.1, hv.2.1, hv.2.2]
      refine (hnil w8).mono ?_
      rintro e w' ⟨rfl, rfl⟩
      exact ⟨rfl, xs, .refl _, by rw [hx0]; exact .nil, ho8', .refl _ _⟩
    · simp only [Value.slice.injEq] at hv
      exact sort_spec ho8 hv.1 (by omega)
  refine hsort.mono ?_
  rintro e w21 ⟨rfl, ys, hperm, hris, ho21, hf21⟩
  have hlen : ys.length = l3.len := ho21.1
  have hyl : ys.length = xs.length := hperm.length_eq
  have hne : ¬ At l3 w2.heap.size := fun ⟨y, hy, e⟩ => by have := (ho2.blk hy).2; omega
  have hat : ∀ {q : Nat}, q < w.heap.size → ¬ At l3 q := fun hq ⟨y, hy, e⟩ => by have := (ho2.blk hy).1; omega
  have hf21' : Fr (fun _ => False) w w21 := hf8'.trans hf21 fun q hq h => hat hq h
  have hS : IsSnap w21 w2.heap.size l3 ys (totalF xs) := ⟨hf21.cell c0 hne, hf21.cell c1 hne, hlen, ho21.reads fun _ => rfl, by omega⟩
  have bad : ∀ {w' : World}, Fr (fun _ => False) w21 w' → ¬ NewOK ys → NewR w xs (.tuple #[.pointer none, .int .i64 4]) w' := fun hf h => ⟨hf21'.trans' hf, .inr ⟨by omega, by omega, ys, hperm, hris, .inl ⟨h, rfl⟩⟩⟩
  refine ⟨rfl, l3, hS.files, fun i w' => ∃ k : Nat, i = k ∧ k ≤ ys.length ∧ (∀ j, j < k → okF ys j) ∧ Fr (fun _ => False) w21 w', fun i _ => ys.length - i.toNat, ⟨0, rfl, Nat.zero_le _, fun j hj => by omega, .refl _ _⟩, ?_⟩
  rintro i w26 ⟨k, rfl, hk, hall, hf26⟩
  have e1 : IntKind.i64.wrap ((k : Int) + 1) = ((k + 1 : Nat) : Int) := by rw [wrap_i64 (by omega) (by omega)]; omega
  rw [e1]
  refine ⟨fun hlt => ?_, fun hge => ?_⟩
  · have hlt := of_decide_eq_true hlt
    have hkl : k < ys.length := by omega
    have hx : ys[k]? = some ys[k] := List.getElem?_eq_getElem hkl
    generalize ys[k] = x at hx
    have hxs : x.path.size ≤ 140737488355328 := hp x (hperm.subset (List.mem_of_getElem? hx))
    obtain ⟨ad, had, hload⟩ := (hS.keep hf26).reads.load elF hx
    refine ⟨⟨by omega, by omega⟩, ad, had, x.path, x.data, by rw [Int.toNat_natCast]; exact hload, fun w30 h30 => ?_⟩
    subst h30
    refine ⟨_, boxF_run w26 x, fun w32 d32 => ?_⟩
    have hfa : Fr (fun _ => False) w26 w32 := (Fr.alloc (fun _ => False) w26 (.cells (encF x).toArray T_api_File)).trans' (.drew _ d32)
    have hbx : w32.cell? ⟨w26.heap.size, 0, none⟩ = some (.string x.path) := boxF_cell w26 x (.drew (fun _ => False) d32) (by simp) rfl
    have hf32 := hf26.trans' hfa
    refine ⟨fun w' => Fr (fun _ => False) w32 w', .refl _ _, x.path, fun w' hw' => hw'.cell hbx (by simp), (clean_spec x.path hxs w32).mono ?_⟩
    rintro e w37 ⟨rfl, hf37⟩
    have hf37' := hf32.trans' hf37
    refine ⟨_, rfl, hf37, fun hb => bad hf37' fun h => ?_, fun hb => ⟨fun h0 => ?_, fun h0 => ?_⟩⟩
    · have := (h.1 k x hx).1
      rw [this] at hb; cases hb
    · have hb : cleanB x.path = true := by simpa using hb
      have h0 := of_decide_eq_true h0
      have e2 : IntKind.i64.wrap ((k : Int) - 1) = ((k - 1 : Nat) : Int) := by rw [wrap_i64 (by omega) (by omega)]; omega
      rw [e2]
      have hy : ys[k - 1]? = some ys[k - 1] := List.getElem?_eq_getElem (by omega)
      generalize ys[k - 1] = y at hy
      obtain ⟨ad', had', _⟩ := hS.reads.load elF hy
      refine ⟨l3, fun w' hw' => (hS.keep (hf32.trans' hw')).files, ⟨by omega, by omega⟩, ad', had', y.path, fun w' hw' => ?_, x.path, fun w' hw' => hw'.cell hbx (by simp), fun he => bad hf37' fun h => ?_, fun he => ⟨⟨k + 1, rfl, by omega, fun j hj => ?_, hf37'⟩, by dsimp only; omega⟩⟩
      · obtain ⟨b, hb', hc⟩ := (hS.keep (hf32.trans' hw')).reads (k - 1) y hy
        rw [had'] at hb'; cases hb'
        have := hc 0 (.string y.path) rfl
        rw [add_add] at this
        rw [Int.toNat_natCast]; simpa using this
      · rw [bs_eq] at he
        exact (h.1 k x hx).2 y (by omega) hy (of_decide_eq_true he)
      · rw [bs_eq] at he
        by_cases hjk : j = k
        · subst hjk
          intro z hz
          rw [hx] at hz; cases hz
          refine ⟨hb, fun y' _ hy' => ?_⟩
          rw [hy] at hy'; cases hy'
          exact of_decide_eq_false he
        · exact hall j (by omega)
    · have hb : cleanB x.path = true := by simpa using hb
      have h0 := of_decide_eq_false h0
      refine ⟨⟨k + 1, rfl, by omega, fun j hj => ?_, hf37'⟩, by dsimp only; omega⟩
      by_cases hjk : j = k
      · subst hjk
        intro z hz
        rw [hx] at hz; cases hz
        exact ⟨hb, fun y' h1 _ => by omega⟩
      · exact hall j (by omega)
  have hge := of_decide_eq_false hge
  have hokA : ∀ j, okF ys j := fun j => by
    by_cases hj : j < k
    · exact hall j hj
    · intro x hx
      have := (List.getElem?_eq_some_iff.1 hx).1
      omega
  clear hall e1
  refine ⟨l3, (hS.keep hf26).files, fun i w' => ∃ k : Nat, i = k ∧ k ≤ ys.length ∧ (∀ x ∈ ys.take k, underE ys (x.path ++ ⟨#[47]⟩) = []) ∧ Fr (fun _ => False) w21 w', fun i _ => ys.length - i.toNat, ⟨0, rfl, Nat.zero_le _, fun x hx => by simp at hx, hf26⟩, ?_⟩
  rintro i w50 ⟨k, rfl, hk, hall, hf50⟩
  have e1 : IntKind.i64.wrap ((k : Int) + 1) = ((k + 1 : Nat) : Int) := by rw [wrap_i64 (by omega) (by omega)]; omega
  rw [e1]
  refine ⟨fun hlt => ?_, fun hge => ?_⟩
  · have hlt := of_decide_eq_true hlt
    have hkl : k < ys.length := by omega
    have hx : ys[k]? = some ys[k] := List.getElem?_eq_getElem hkl
    generalize ys[k] = x at hx
    have hxs : x.path.size ≤ 140737488355328 := hp x (hperm.subset (List.mem_of_getElem? hx))
    obtain ⟨ad, had, hload⟩ := (hS.keep hf50).reads.load elF hx
    refine ⟨⟨by omega, by omega⟩, ad, had, x.path, x.data, by rw [Int.toNat_natCast]; exact hload, fun w54 h54 => ?_⟩
    subst h54
    have hfa : Fr (fun _ => False) w50 (w50.alloc (.cells (encF x).toArray T_api_File)) := .alloc _ _ _
    refine ⟨_, boxF_run w50 x, x.path, boxF_cell w50 x (.refl (fun _ => False) _) (by simp) rfl, by rw [show (ByteArray.mk #[47]).size = 1 from rfl]; omega, (under_spec (hS.keep (hf50.trans' hfa)) hris _).mono ?_⟩
    rintro e w58 ⟨o, rfl, ho, hf58⟩
    have hf58' := (hf50.trans' hfa).trans' hf58
    have hol : o.len = (underE ys (x.path ++ ⟨#[47]⟩)).length := by rw [ho.len]; simp [strV]
    refine ⟨o, rfl, fun h0 => bad hf58' fun h => ?_, fun h0 => ⟨⟨k + 1, rfl, by omega, fun y hy => ?_, hf58'⟩, by dsimp only; omega⟩⟩
    · have h0 := of_decide_eq_true h0
      rw [h.2 x (List.mem_of_getElem? hx)] at hol
      simp at hol; omega
    · have h0 := of_decide_eq_false h0
      rw [List.take_add_one, hx] at hy
      rcases List.mem_append.1 hy with hy | hy
      · exact hall y hy
      · simp only [Option.toList, List.mem_cons, List.mem_nil_iff, or_false] at hy
        subst hy
        exact List.length_eq_zero_iff.1 (by omega)
  · have hge := of_decide_eq_false hge
    have hk' : k = ys.length := by omega
    rw [hk', List.take_of_length_le (Nat.le_refl _)] at hall
    exact ⟨hf21'.trans' hf50, .inr ⟨by omega, by omega, ys, hperm, hris, .inr ⟨⟨hokA, hall⟩, _, l3, rfl, ⟨hsz, fun x hx => (ho2.blk hx).1⟩, hS.keep hf50⟩⟩⟩
end Go.Proofs.YtllegkmadljmaaaGreatDoor
namespace Go.Proofs.YtllegkmadljmaaaGreatDoor
open Go Vc Go.Proofs

theorem cut_sz (s : ByteArray) (c : UInt8) : (cutS s c).1.size + (cutS s c).2.1.size ≤ s.size ∧ ((cutS s c).2.2 = true → (cutS s c).1.size + (cutS s c).2.1.size + 1 = s.size) := by
  unfold cutS
  rcases fnd_cases s c with ⟨h, _⟩ | ⟨i, h, hi, _⟩
  · rw [h, if_pos rfl]
    refine ⟨?_, fun h => by cases h⟩
    show s.size + 0 ≤ s.size
    omega
  · rw [h, if_neg (by omega), Int.toNat_natCast]
    simp only [ByteArray.size_extract]
    exact ⟨by omega, fun _ => by omega⟩
def getE (xs : List FileE) (p : ByteArray) : ByteArray × Int := match xs.find? (fun x => decide (x.path = p)) with
  | some x => (x.data, 0)
  | none => (⟨#[]⟩, 7)
theorem get_spec {w : World} {b : Nat} {l : Sl} {xs : List FileE} {size : Int} (h : IsSnap w b l xs size) (hs : Rising xs) (p : ByteArray) : Calls Tryz.prog F_snap_Snap_Get #[.pointer (some ⟨b, 0, none⟩), .string p] w fun e w' =>
    e = .returned (.tuple #[.string (getE xs p).1, .int .i64 (getE xs p).2]) ∧ Fr (fun _ => False) w w' := by
  refine vc_snap_Snap_Get_ok (R := fun v w' => v = .tuple #[.string (getE xs p).1, .int .i64 (getE xs p).2] ∧ Fr (fun _ => False) w w') ?_ (fun v w' h => ⟨by rw [h.1], h.2⟩)
  have hsm := h.small
  have hlen := h.len
  refine ⟨l, h.files, (search_spec h.reads h.len (by omega) hs ⟨p, ⟨#[]⟩⟩).mono ?_⟩
  rintro e w3 ⟨i, hin, rfl, hiff, hf3⟩
  refine ⟨_, _, rfl, fun hb => ?_, fun hb => ⟨l, (h.keep hf3).files, ?_⟩⟩
  · have hno : xs.find? (fun x => decide (x.path = p)) = none := by
      rw [List.find?_eq_none]
      intro x hx
      rw [decide_eq_true_eq]
      intro he
      obtain ⟨k, hk⟩ := List.mem_iff_getElem?.1 hx
      have hnl : ¬ k < i := fun h => by
        have := (hiff k x hk).2 h
        rw [he] at this; exact List.lt_irrefl _ this
      have hil : i < xs.length := by have := (List.getElem?_eq_some_iff.1 hk).1; omega
      have hy : xs[i]? = some xs[i] := List.getElem?_eq_getElem hil
      generalize xs[i] = y at hy
      rw [hy] at hb
      have hyp : y.path ≠ p := by simpa using hb
      have h1 : ¬ y.path.data.toList < p.data.toList := fun h => by have := (hiff i y hy).1 h; omega
      by_cases hki : k = i
      · subst hki; rw [hy] at hk; cases hk; exact hyp he
      · have h2 := (List.pairwise_iff_getElem.1 hs) i k hil (List.getElem?_eq_some_iff.1 hk).1 (by omega)
        rw [(List.getElem?_eq_some_iff.1 hk).2, (List.getElem?_eq_some_iff.1 hy).2, he] at h2
        rcases lt_tri y.path.data.toList p.data.toList with h3 | h3 | h3
        · exact h1 h3
        · exact hyp (bs_ext h3)
        · exact h2 h3
    unfold getE
    rw [hno]
    exact ⟨rfl, hf3⟩
  · cases hxi : xs[i]? with
    | none => rw [hxi] at hb; simp at hb
    | some x =>
      rw [hxi] at hb
      have hxp : x.path = p := by simpa using hb
      have hil := (List.getElem?_eq_some_iff.1 hxi).1
      obtain ⟨ad, had, hc⟩ := (h.keep hf3).reads i x hxi
      have hc1 : w3.cell? ((ad.add (i * 2)).add 1) = some (.string x.data) := hc 1 (.string x.data) rfl
      refine ⟨⟨by omega, by omega⟩, ad, had, x.data, by rw [Int.toNat_natCast]; exact hc1, ?_, hf3⟩
      have hfd : ∃ y, xs.find? (fun x => decide (x.path = p)) = some y ∧ y.path = p ∧ ∃ k, xs[k]? = some y ∧ k ≤ i := by
        cases hff : xs.find? (fun x => decide (x.path = p)) with
        | none => exact absurd (List.find?_eq_none.1 hff x (List.mem_of_getElem? hxi)) (by simp [hxp])
        | some y =>
          obtain ⟨h1, k, hk, h2, h3⟩ := List.find?_eq_some_iff_getElem.1 hff
          refine ⟨y, rfl, of_decide_eq_true h1, k, by rw [List.getElem?_eq_getElem hk, h2], ?_⟩
          by_cases hki : k ≤ i
          · exact hki
          · have := h3 i (by omega)
            rw [(List.getElem?_eq_some_iff.1 hxi).2] at this
            simp [hxp] at this
      obtain ⟨y, hy1, hy2, k, hk, hki⟩ := hfd
      have hke : k = i := by
        by_cases hlt : k < i
        · have := (hiff k y hk).2 hlt
          rw [hy2] at this; exact absurd this (List.lt_irrefl _)
        · omega
      subst hke
      rw [hxi] at hk; cases hk
      unfold getE
      rw [hy1]
end Go.Proofs.YtllegkmadljmaaaGreatDoor

/- The parts of a path, in plain. No condition. -/
set_option linter.unusedVariables false
namespace Go.Proofs.YtllegkmadljmaaaGreatDoor
open Go Vc Go.Proofs

/-- The parts of bytes. -/
def partsL : List UInt8 → List (List UInt8)
  | [] => [[]]
  | b :: r => if b = 47 then [] :: partsL r else match partsL r with
    | h :: t => (b :: h) :: t
    | [] => [[b]]
def bsm (l : List (List UInt8)) : List ByteArray := l.map fun x => ⟨x.toArray⟩
theorem partsL_plain : ∀ l : List UInt8, (47 : UInt8) ∉ l → partsL l = [l]
  | [], _ => rfl
  | b :: r, h => by
    rw [partsL, if_neg (fun e => h (by simp [e])), partsL_plain r (fun e => h (by simp [e]))]
theorem partsL_cut : ∀ a b : List UInt8, (47 : UInt8) ∉ a → partsL (a ++ 47 :: b) = a :: partsL b
  | [], b, _ => by rw [List.nil_append, partsL, if_pos rfl]
  | c :: r, b, h => by
    rw [List.cons_append, partsL, if_neg (fun e => h (by simp [e])), partsL_cut r b (fun e => h (by simp [e]))]
theorem partsF_L : ∀ (g : Nat) (s : ByteArray), s.size ≤ g → partsF g s = bsm (partsL s.data.toList)
  | 0, s, h => by
    have : s.data.toList = [] := List.length_eq_zero_iff.1 (by rw [bs_len]; omega)
    rw [this]
    have e : s = ⟨[].toArray⟩ := bs_ext (by rw [this])
    rw [partsF, e]; rfl
  | g + 1, s, h => by
    rcases fnd_cases s 47 with ⟨hi, hno⟩ | ⟨i, hi, hlt, hb, hno⟩
    · rw [partsF_no hi, partsL_plain _ (fun hm => by
        obtain ⟨k, hk, he⟩ := List.getElem_of_mem hm
        obtain ⟨h1, h2⟩ := bs_get? (s := s) (i := k) (c := 47) (by rw [List.getElem?_eq_getElem hk, he])
        exact hno k h1 h2)]
      show [s] = [⟨s.data.toList.toArray⟩]
      rw [bs_self]
    · have hlt' : i < s.data.toList.length := by rw [bs_len]; exact hlt
      have hc : s.data.toList[i] = 47 := by
        have := bs_byt hlt
        rw [hb] at this
        exact (UInt8.toNat_inj.1 this).symm
      have hsp : s.data.toList = s.data.toList.take i ++ 47 :: s.data.toList.drop (i + 1) := by
        rw [← hc, ← List.drop_eq_getElem_cons hlt', List.take_append_drop]
      have hp : partsL s.data.toList = s.data.toList.take i :: partsL (s.data.toList.drop (i + 1)) := by
        conv => lhs; rw [hsp]
        exact partsL_cut _ _ fun hm => by
          obtain ⟨k, hk, he⟩ := List.getElem_of_mem hm
          rw [List.length_take] at hk
          rw [List.getElem_take] at he
          obtain ⟨h1, h2⟩ := bs_get? (s := s) (i := k) (c := 47) (by rw [List.getElem?_eq_getElem (by omega), he])
          exact hno k (by omega) h2
      rw [partsF_yes hi, partsF_L g _ (by simp; omega), hp, bs_tail]
      show s.extract 0 i :: _ = ⟨(s.data.toList.take i).toArray⟩ :: _
      congr 1
      refine bs_ext ?_
      rw [bs_head, bs_mk]
theorem partsL_size : ∀ l : List UInt8, ∀ p ∈ partsL l, p.length ≤ l.length
  | [], p, h => by simp [partsL] at h; simp [h]
  | b :: r, p, h => by
    have ih := partsL_size r
    rw [partsL] at h
    split at h
    · rcases List.mem_cons.1 h with h | h
      · simp [h]
      · have := ih p h; simp; omega
    · split at h
      · rename_i q t e
        rw [e] at ih
        rcases List.mem_cons.1 h with h | h
        · have := ih q (by simp); simp [h]; omega
        · have := ih p (by simp [h]); simp; omega
      · simp at h; simp [h]
end Go.Proofs.YtllegkmadljmaaaGreatDoor

/- Does a text stand in another one, or at its end, in plain. No condition. -/
set_option linter.unusedVariables false
namespace Go.Proofs.YtllegkmadljmaaaGreatDoor
open Go Vc Go.Proofs

/-- Does t stand somewhere? -/
def hasL (t : List UInt8) : List UInt8 → Bool
  | [] => t.isEmpty
  | c :: r => t.isPrefixOf (c :: r) || hasL t r
theorem hasL_index (t : List UInt8) : ∀ l : List UInt8, decide (0 ≤ Lib.index l t) = hasL t l
  | [] => by
    unfold Lib.index hasL
    cases t.isEmpty <;> rfl
  | c :: r => by
    have ih := hasL_index t r
    have hg := Lib.index_ge r t
    rw [hasL, Lib.index]
    by_cases hp : t.isPrefixOf (c :: r) = true
    · rw [if_pos hp, hp]; rfl
    · rw [if_neg hp, Bool.eq_false_iff.2 hp, Bool.false_or, ← ih]
      by_cases h1 : Lib.index r t = -1
      · rw [if_pos (by rw [h1]; rfl), h1]
      · rw [if_neg (by simpa using h1)]
        exact decide_eq_decide.2 (by omega)
def sufL (t l : List UInt8) : Bool := decide (t <:+ l)
def cutPre (s t : ByteArray) : ByteArray := if begB s t = true then s.extract t.size s.size else s
def cutSuf (s t : ByteArray) : ByteArray := if sufL t.data.toList s.data.toList = true then s.extract 0 (s.size - t.size) else s
end Go.Proofs.YtllegkmadljmaaaGreatDoor

/- References' names in plain. Plain. -/
set_option linter.unusedVariables false
namespace Go.Proofs.YtllegkmadljmaaaGreatDoor
open Go Vc Go.Proofs

def sHEAD : ByteArray := ⟨#[72, 69, 65, 68]⟩
def sRefs : ByteArray := ⟨#[114, 101, 102, 115, 47]⟩
def lockL : List UInt8 := [46, 108, 111, 99, 107]
def nbadL : List UInt8 := [32, 126, 94, 58, 63, 42, 91, 92]
def partName (p : List UInt8) : Bool := decide (p.head? ≠ some 46) && !sufL lockL p
/-- Is it a reference's name? -/
def nameB (s : ByteArray) : Bool := decide (s = sHEAD) || (begB s sRefs && cleanB s && !hasL [46, 46] s.data.toList && !hasL [64, 123] s.data.toList && !sufL [46] s.data.toList &&
  !(s.data.toList.any fun c => nbadL.contains c) && (partsL s.data.toList).all partName)
def prL (c : UInt8) : Bool := decide (32 ≤ c.toNat) && decide (c.toNat ≤ 126)
theorem print_list (s : ByteArray) : printB s = s.data.toList.all prL := by
  unfold printB
  rw [Bool.eq_iff_iff, decide_eq_true_eq, List.all_eq_true]
  refine ⟨fun h c hc => ?_, fun h k hk => ?_⟩
  · obtain ⟨k, hk, he⟩ := List.getElem_of_mem hc
    rw [bs_len] at hk
    have := h k hk
    rw [bs_byt hk, he] at this
    unfold prL
    rw [decide_eq_true this.1, decide_eq_true this.2]; rfl
  · have := h _ (List.mem_of_getElem? (bs_get hk))
    unfold prL at this
    rw [toNat_of _ (byt_lt s k), Bool.and_eq_true] at this
    exact ⟨of_decide_eq_true this.1, of_decide_eq_true this.2⟩
end Go.Proofs.YtllegkmadljmaaaGreatDoor

/- Formulas of 7 Go functions of this seat (written by a program of the author's, vcgen.py), and that each is enough for the call. No condition. -/
set_option linter.unusedVariables false
namespace Go.Proofs.YtllegkmadljmaaaGreatDoor
open Go Vc Go.Proofs
set_option maxRecDepth 100000
def vc_strings_HasSuffix (x0 : ByteArray) (x1 : ByteArray) (w : World) (R : Value → World → Prop) : Prop :=
 Calls Tryz.prog (62 : Nat) (Array.mk [Value.string x0, Value.string x1]) (w) (fun e1 w2 =>
 ∃ b3 : Bool, (e1 = Ending.returned (Value.bool b3) ∧
 R (Value.bool b3) w2))
theorem vc_strings_HasSuffix_ok {x0 : ByteArray} {x1 : ByteArray} {w : World} {R : Value → World → Prop} {R' : Ending → World → Prop} (h : vc_strings_HasSuffix x0 x1 w R) (hR : ∀ v w', R v w' → R' (.returned v) w') :
    Calls Tryz.prog 25 #[.string x0, .string x1] w R' :=
  calls_of_body (vs := [(.string x0, false), (.string x1, false)]) (ty := ty) (ann := ⟨[], [], [], []⟩) (c := Tryz.f25.body.getD .skip) (by kernel_rfl) Tryz.func25 (by kernel_rfl) (by kernel_rfl) (Eq.mp (by kernel_rfl) h) hR
def vc_stringslite_HasSuffix (x0 : ByteArray) (x1 : ByteArray) (w : World) (R : Value → World → Prop) : Prop :=
 (((decide ((↑(ByteArray.size x0) : Int) ≥ (↑(ByteArray.size x1) : Int)) = true →
 ((0 ≤ IntKind.wrap .i64 ((↑(ByteArray.size x0) : Int) - (↑(ByteArray.size x1) : Int)) ∧
 IntKind.wrap .i64 ((↑(ByteArray.size x0) : Int) - (↑(ByteArray.size x1) : Int)) ≤ (↑(ByteArray.size x0) : Int)) ∧
 R (Value.bool (ByteArray.toList (ByteArray.extract x0 (Int.toNat (IntKind.wrap .i64 ((↑(ByteArray.size x0) : Int) - (↑(ByteArray.size x1) : Int)))) (ByteArray.size x0)) == ByteArray.toList x1)) w))) ∧
 (decide ((↑(ByteArray.size x0) : Int) ≥ (↑(ByteArray.size x1) : Int)) = false →
 R (Value.bool false) w))
theorem vc_stringslite_HasSuffix_ok {x0 : ByteArray} {x1 : ByteArray} {w : World} {R : Value → World → Prop} {R' : Ending → World → Prop} (h : vc_stringslite_HasSuffix x0 x1 w R) (hR : ∀ v w', R v w' → R' (.returned v) w') :
    Calls Tryz.prog 62 #[.string x0, .string x1] w R' :=
  calls_of_body (vs := [(.string x0, false), (.string x1, false)]) (ty := ty) (ann := ⟨[], [], [], []⟩) (c := Tryz.f62.body.getD .skip) (by kernel_rfl) Tryz.func62 (by kernel_rfl) (by kernel_rfl) (Eq.mp (by kernel_rfl) h) hR
def vc_strings_Contains (x0 : ByteArray) (x1 : ByteArray) (w : World) (R : Value → World → Prop) : Prop :=
 Calls Tryz.prog (61 : Nat) (Array.mk [Value.string x0, Value.string x1]) (w) (fun e1 w2 =>
 ∃ n3 : Int, (e1 = Ending.returned (Value.int .i64 n3) ∧
 R (Value.bool (decide (n3 ≥ 0))) w2))
theorem vc_strings_Contains_ok {x0 : ByteArray} {x1 : ByteArray} {w : World} {R : Value → World → Prop} {R' : Ending → World → Prop} (h : vc_strings_Contains x0 x1 w R) (hR : ∀ v w', R v w' → R' (.returned v) w') :
    Calls Tryz.prog 24 #[.string x0, .string x1] w R' :=
  calls_of_body (vs := [(.string x0, false), (.string x1, false)]) (ty := ty) (ann := ⟨[], [], [], []⟩) (c := Tryz.f24.body.getD .skip) (by kernel_rfl) Tryz.func24 (by kernel_rfl) (by kernel_rfl) (Eq.mp (by kernel_rfl) h) hR
def vc_strings_CutPrefix (x0 : ByteArray) (x1 : ByteArray) (w : World) (R : Value → World → Prop) : Prop :=
 Calls Tryz.prog (79 : Nat) (Array.mk [Value.string x0, Value.string x1]) (w) (fun e1 w2 =>
 ∃ s3 : ByteArray, ∃ b4 : Bool, (e1 = Ending.returned (Value.tuple (Array.mk [Value.string s3, Value.bool b4])) ∧
 R (Value.tuple (Array.mk [Value.string s3, Value.bool b4])) w2))
theorem vc_strings_CutPrefix_ok {x0 : ByteArray} {x1 : ByteArray} {w : World} {R : Value → World → Prop} {R' : Ending → World → Prop} (h : vc_strings_CutPrefix x0 x1 w R) (hR : ∀ v w', R v w' → R' (.returned v) w') :
    Calls Tryz.prog 47 #[.string x0, .string x1] w R' :=
  calls_of_body (vs := [(.string x0, false), (.string x1, false)]) (ty := ty) (ann := ⟨[], [], [], []⟩) (c := Tryz.f47.body.getD .skip) (by kernel_rfl) Tryz.func47 (by kernel_rfl) (by kernel_rfl) (Eq.mp (by kernel_rfl) h) hR
def vc_stringslite_CutPrefix (x0 : ByteArray) (x1 : ByteArray) (w : World) (R : Value → World → Prop) : Prop :=
 Calls Tryz.prog (58 : Nat) (Array.mk [Value.string x0, Value.string x1]) (w) (fun e1 w2 =>
 ∃ b3 : Bool, (e1 = Ending.returned (Value.bool b3) ∧
 ((((!b3) = true →
 R (Value.tuple (Array.mk [Value.string x0, Value.bool false])) w2)) ∧
 ((!b3) = false →
 ((0 ≤ (↑(ByteArray.size x1) : Int) ∧
 (↑(ByteArray.size x1) : Int) ≤ (↑(ByteArray.size x0) : Int)) ∧
 R (Value.tuple (Array.mk [Value.string (ByteArray.extract x0 (Int.toNat (↑(ByteArray.size x1) : Int)) (ByteArray.size x0)), Value.bool true])) w2)))))
theorem vc_stringslite_CutPrefix_ok {x0 : ByteArray} {x1 : ByteArray} {w : World} {R : Value → World → Prop} {R' : Ending → World → Prop} (h : vc_stringslite_CutPrefix x0 x1 w R) (hR : ∀ v w', R v w' → R' (.returned v) w') :
    Calls Tryz.prog 79 #[.string x0, .string x1] w R' :=
  calls_of_body (vs := [(.string x0, false), (.string x1, false)]) (ty := ty) (ann := ⟨[], [], [], []⟩) (c := Tryz.f79.body.getD .skip) (by kernel_rfl) Tryz.func79 (by kernel_rfl) (by kernel_rfl) (Eq.mp (by kernel_rfl) h) hR
def vc_strings_CutSuffix (x0 : ByteArray) (x1 : ByteArray) (w : World) (R : Value → World → Prop) : Prop :=
 Calls Tryz.prog (75 : Nat) (Array.mk [Value.string x0, Value.string x1]) (w) (fun e1 w2 =>
 ∃ s3 : ByteArray, ∃ b4 : Bool, (e1 = Ending.returned (Value.tuple (Array.mk [Value.string s3, Value.bool b4])) ∧
 R (Value.tuple (Array.mk [Value.string s3, Value.bool b4])) w2))
theorem vc_strings_CutSuffix_ok {x0 : ByteArray} {x1 : ByteArray} {w : World} {R : Value → World → Prop} {R' : Ending → World → Prop} (h : vc_strings_CutSuffix x0 x1 w R) (hR : ∀ v w', R v w' → R' (.returned v) w') :
    Calls Tryz.prog 39 #[.string x0, .string x1] w R' :=
  calls_of_body (vs := [(.string x0, false), (.string x1, false)]) (ty := ty) (ann := ⟨[], [], [], []⟩) (c := Tryz.f39.body.getD .skip) (by kernel_rfl) Tryz.func39 (by kernel_rfl) (by kernel_rfl) (Eq.mp (by kernel_rfl) h) hR
def vc_stringslite_CutSuffix (x0 : ByteArray) (x1 : ByteArray) (w : World) (R : Value → World → Prop) : Prop :=
 Calls Tryz.prog (62 : Nat) (Array.mk [Value.string x0, Value.string x1]) (w) (fun e1 w2 =>
 ∃ b3 : Bool, (e1 = Ending.returned (Value.bool b3) ∧
 ((((!b3) = true →
 R (Value.tuple (Array.mk [Value.string x0, Value.bool false])) w2)) ∧
 ((!b3) = false →
 ((0 ≤ IntKind.wrap .i64 ((↑(ByteArray.size x0) : Int) - (↑(ByteArray.size x1) : Int)) ∧
 IntKind.wrap .i64 ((↑(ByteArray.size x0) : Int) - (↑(ByteArray.size x1) : Int)) ≤ (↑(ByteArray.size x0) : Int)) ∧
 R (Value.tuple (Array.mk [Value.string (ByteArray.extract x0 0 (Int.toNat (IntKind.wrap .i64 ((↑(ByteArray.size x0) : Int) - (↑(ByteArray.size x1) : Int))))), Value.bool true])) w2)))))
theorem vc_stringslite_CutSuffix_ok {x0 : ByteArray} {x1 : ByteArray} {w : World} {R : Value → World → Prop} {R' : Ending → World → Prop} (h : vc_stringslite_CutSuffix x0 x1 w R) (hR : ∀ v w', R v w' → R' (.returned v) w') :
    Calls Tryz.prog 75 #[.string x0, .string x1] w R' :=
  calls_of_body (vs := [(.string x0, false), (.string x1, false)]) (ty := ty) (ann := ⟨[], [], [], []⟩) (c := Tryz.f75.body.getD .skip) (by kernel_rfl) Tryz.func75 (by kernel_rfl) (by kernel_rfl) (Eq.mp (by kernel_rfl) h) hR
end Go.Proofs.YtllegkmadljmaaaGreatDoor

/- Structures of the kit over its shelf, at this seat (written by a program of the author's, laysn.py). No condition. -/
namespace Go.Proofs.YtllegkmadljmaaaGreatDoor
open Go Go.Shelf Go.Proofs
def lays143_ren : Go.Shelf.Ren := ⟨fun | 143 => 61 | 217 => 136 | 219 => 91 | 224 => 138 | 225 => 137 | 266 => 174 | 267 => 139 | 314 => 175 | n => n, fun | 146 => 244 | 3 => 3 | 4 => 4 | 46 => 109 | 5 => 5 | 51 => 128 | 9 => 9 | n => n, fun | 1 => 0 | n => n⟩
theorem lays143 : Go.Proofs.Lays.n143 Tryz.prog lays143_ren := {
  mixed := by kernel_rfl,
  f143 := Tryz.func61.trans (congrArg some (by kernel_rfl)),
  f217 := Tryz.func136.trans (congrArg some (by kernel_rfl)),
  f219 := Tryz.func91.trans (congrArg some (by kernel_rfl)),
  f224 := Tryz.func138.trans (congrArg some (by kernel_rfl)),
  f225 := Tryz.func137.trans (congrArg some (by kernel_rfl)),
  f266 := Tryz.func174.trans (congrArg some (by kernel_rfl)),
  f267 := Tryz.func139.trans (congrArg some (by kernel_rfl)),
  f314 := Tryz.func175.trans (congrArg some (by kernel_rfl)),
  t3 := Tryz.underlying3,
  a3 := Tryz.isAgg3,
  z3 := Tryz.sizeOf3,
  v3 := Tryz.zeroValue3,
  t4 := Tryz.underlying4,
  a4 := Tryz.isAgg4,
  z4 := Tryz.sizeOf4,
  v4 := Tryz.zeroValue4,
  t5 := Tryz.underlying5,
  a5 := Tryz.isAgg5,
  z5 := Tryz.sizeOf5,
  v5 := Tryz.zeroValue5,
  t9 := Tryz.underlying9,
  a9 := Tryz.isAgg9,
  z9 := Tryz.sizeOf9,
  v9 := Tryz.zeroValue9,
  t46 := Tryz.underlying109,
  a46 := Tryz.isAgg109,
  z46 := Tryz.sizeOf109,
  v46 := Tryz.zeroValue109,
  t51 := Tryz.underlying128,
  a51 := Tryz.isAgg128,
  z51 := Tryz.sizeOf128,
  v51 := Tryz.zeroValue128,
  t146 := Tryz.underlying244,
  a146 := Tryz.isAgg244,
  z146 := Tryz.sizeOf244,
  v146 := Tryz.zeroValue244,
  g1 := by kernel_rfl }
end Go.Proofs.YtllegkmadljmaaaGreatDoor

/- The frame of a row that lists laid tables, the world's shape kept. No condition. -/
set_option linter.unusedVariables false
namespace Go.Proofs.YtllegkmadljmaaaGreatDoor
open Go Vc Go.Proofs
variable {H : Type} {enc : TypeId × Value → H}

theorem handed_shaped {a : Assume} {C : Checked} {os : Os} {f : FuncId} {fn : Func} {s : ChangeSpec} {conds : List PathCond} {apart fresh handsOn again : Bool} {X : World → Array Value → Prop}
    (hX : ∀ (w w' : World) (args : Array Value), w.heap = w'.heap → X w args → X w' args)
    (own : ownKnob C.prog.godebug = none) (started : os.Started) (noInit : C.prog.inits.idxOf? f = none) (hfn : C.prog.funcs[f]? = some fn)
    (witness : ∃ (w : World) (tape : Tape) (i : Input), w.os = os ∧ (w.forCall tape i).Shaped C.prog ∧ i.vars = [] ∧ Input.okWide C.prog (w.forCall tape i) .any w.heap.size f i ∧
      ((s.pre enc C.prog fn conds apart (w.forCall tape i).memory i.args ∧ X (w.forCall tape i).memory i.args) ∧ sizedMet enc C.prog fn (OpenSpec.ofChange s) apart (w.forCall tape i).memory i.args) ∧ a.holds C.prog (lone (Frame.enter C.prog f i.args .normal) [] (w.forCall tape i)))
    (contract : ∀ (W : World) (base : Nat) (args : Array Value) (ds gs : List (DataW H)) (before : List MemPlace),
      (∀ (j : Nat) t v, fn.params[j]? = some t → args[j]? = some v → Value.okWide C.prog W .any base t v) →
      DataW.Whole enc C.prog fn.params.toList s.vars apart W args.toList ds gs before →
      conds.all (PathCond.test C.prog ⟨fn.params.toList, ds, s.plain.varTypes C.prog, gs⟩) = true →
      (DataW.weightsEach C.prog (fn.params.toList ++ s.plain.varTypes C.prog) (ds ++ gs)).all (· ≤ reachBytes) = true → X W args → W.ShapedOpen C.prog →
      a.holds C.prog (lone (Frame.enter C.prog f args .normal) [] W) →
      Calls C.prog f args W fun e W' => ∃ v, e = .returned v ∧ s.post enc C.prog fn apart fresh handsOn again W args v W') :
    ReturnsInHanded a C os f .any (fun w args => (s.pre enc C.prog fn conds apart w args ∧ X w args) ∧ sizedMet enc C.prog fn (OpenSpec.ofChange s) apart w args) (s.post enc C.prog fn apart fresh handsOn again) := by
  refine returnsInHanded_of_calls own started noInit witness ?_
  intro w tape i _ hsh _ hok hpre hholds
  obtain ⟨_, _, _, fn', hfn', _, _, _, _, hval⟩ := hok
  have e : fn' = fn := Option.some.inj (hfn'.symm.trans hfn)
  subst e
  obtain ⟨⟨⟨ds, gs, before, hw, hc⟩, hx⟩, hz⟩ := hpre
  have hw' := DataW.Whole.of_heap (w' := w.forCall tape i) (by rfl) hw
  refine (contract (w.forCall tape i) w.heap.size i.args ds gs before hval hw' hc (hz.weights hw) (hX _ _ _ (by rfl) hx) hsh hholds).mono fun e W' ⟨v, he, hp⟩ => ?_
  subst he
  exact ChangeSpec.post_blind hp
/-- The library's own variable holds some number. -/
def MaxL (w : World) : Prop := ∃ m : Int, w.cell? ⟨G_bytealg_MaxLen, 0, none⟩ = some (.int .i64 m)
theorem MaxL.keep {w w' : World} (h : MaxL w) (hf : Fr (fun _ => False) w w') : MaxL w' := by
  obtain ⟨m, hm⟩ := h
  exact ⟨m, hf.cell hm (by simp)⟩
theorem maxL_of {W : World} (h : W.ShapedOpen Tryz.prog) : MaxL W :=
  cell_of_shapedOpen_int (t := T_int) (zero := #[.int .i64 0]) h (of_decide_eq_true (by kernel_rfl)) (by kernel_rfl) rfl (by kernel_rfl) (by kernel_rfl) (by kernel_rfl)
end Go.Proofs.YtllegkmadljmaaaGreatDoor

/- Go's text functions HasSuffix, CutPrefix, CutSuffix, Contains. Condition: the texts are no longer than memory; the library's own variable holds some number. -/
set_option linter.unusedVariables false
namespace Go.Proofs.YtllegkmadljmaaaGreatDoor
open Go Vc Go.Proofs

theorem ext_suf {s t : ByteArray} (h : t.size ≤ s.size) : decide (s.extract (s.size - t.size) s.size = t) = sufL t.data.toList s.data.toList := by
  unfold sufL
  refine decide_eq_decide.2 ?_
  rw [List.suffix_iff_eq_drop, bs_len, bs_len]
  refine ⟨fun e => ?_, fun e => bs_ext ?_⟩
  · conv => lhs; rw [← e]
    rw [bs_tail]
  · rw [bs_tail]; exact e.symm
theorem suf_short {s t : ByteArray} (h : ¬ t.size ≤ s.size) : sufL t.data.toList s.data.toList = false := decide_eq_false fun e => h (by rw [← bs_len, ← bs_len]; exact e.length_le)
theorem suffixL_spec (s t : ByteArray) (hs : s.size ≤ 140737488355328) (w : World) : Calls Tryz.prog F_stringslite_HasSuffix #[.string s, .string t] w fun e w' => e = .returned (.bool (sufL t.data.toList s.data.toList)) ∧ w' = w := by
  refine vc_stringslite_HasSuffix_ok (R := fun v w' => v = .bool (sufL t.data.toList s.data.toList) ∧ w' = w) ?_ (fun v w' h => ⟨by rw [h.1], h.2⟩)
  refine ⟨fun h => ?_, fun h => ⟨by rw [suf_short (by have := of_decide_eq_false h; omega)], rfl⟩⟩
  have h := of_decide_eq_true h
  have e1 : IntKind.i64.wrap ((s.size : Int) - (t.size : Int)) = ((s.size - t.size : Nat) : Int) := by rw [wrap_i64 (by omega) (by omega)]; omega
  rw [e1]
  refine ⟨⟨by omega, by omega⟩, ?_, rfl⟩
  rw [Int.toNat_natCast, bs_eq, ext_suf (by omega)]
theorem suffix_spec (s t : ByteArray) (hs : s.size ≤ 140737488355328) (w : World) : Calls Tryz.prog F_strings_HasSuffix #[.string s, .string t] w fun e w' => e = .returned (.bool (sufL t.data.toList s.data.toList)) ∧ w' = w := by
  refine vc_strings_HasSuffix_ok (R := fun v w' => v = .bool (sufL t.data.toList s.data.toList) ∧ w' = w) ?_ (fun v w' h => ⟨by rw [h.1], h.2⟩)
  refine (suffixL_spec s t hs w).mono ?_
  rintro e w2 ⟨rfl, rfl⟩
  exact ⟨_, rfl, rfl, rfl⟩
theorem prefixL_spec (s t : ByteArray) (w : World) : Calls Tryz.prog F_stringslite_HasPrefix #[.string s, .string t] w fun e w' => e = .returned (.bool (begB s t)) ∧ w' = w := by
  refine vc_stringslite_HasPrefix_ok (R := fun v w' => v = .bool (begB s t) ∧ w' = w) ?_ (fun v w' h => ⟨by rw [h.1], h.2⟩)
  refine ⟨fun h => ⟨⟨by omega, by have := of_decide_eq_true h; omega⟩, ?_, rfl⟩, fun h => ⟨?_, rfl⟩⟩
  · have h := of_decide_eq_true h
    rw [Int.toNat_natCast, begB_cut (by omega)]
  · rw [begB_short (by have := of_decide_eq_false h; omega)]
theorem suf_le {s t : ByteArray} (h : sufL t.data.toList s.data.toList = true) : t.size ≤ s.size := by
  have := (of_decide_eq_true h : t.data.toList <:+ s.data.toList).length_le
  rw [bs_len, bs_len] at this; exact this
theorem cutPrefix_spec (s t : ByteArray) (w : World) : Calls Tryz.prog F_strings_CutPrefix #[.string s, .string t] w fun e w' => e = .returned (.tuple #[.string (cutPre s t), .bool (begB s t)]) ∧ w' = w := by
  refine vc_strings_CutPrefix_ok (R := fun v w' => v = .tuple #[.string (cutPre s t), .bool (begB s t)] ∧ w' = w) ?_ (fun v w' h => ⟨by rw [h.1], h.2⟩)
  refine Calls.mono (R := fun e w' => e = .returned (.tuple #[.string (cutPre s t), .bool (begB s t)]) ∧ w' = w) (vc_stringslite_CutPrefix_ok (R := fun v w' => v = .tuple #[.string (cutPre s t), .bool (begB s t)] ∧ w' = w) ?_ (fun v w' h => ⟨by rw [h.1], h.2⟩)) ?_
  · refine (prefixL_spec s t w).mono ?_
    rintro e w2 ⟨rfl, rfl⟩
    refine ⟨_, rfl, fun h => ⟨?_, rfl⟩, fun h => ⟨⟨by omega, ?_⟩, ?_, rfl⟩⟩
    · have h : begB s t = false := by simpa using h
      unfold cutPre; rw [h]; rfl
    · have := beg_le (show begB s t = true by simpa using h); omega
    · have h : begB s t = true := by simpa using h
      unfold cutPre; rw [h, Int.toNat_natCast]; rfl
  · rintro e w2 ⟨rfl, rfl⟩
    exact ⟨_, _, rfl, rfl, rfl⟩
theorem contains2_spec (s t : ByteArray) (hs : s.size < 4294967281) {w : World} (hm : MaxL w) : Calls Tryz.prog F_strings_Contains #[.string s, .string t] w fun e w' => e = .returned (.bool (hasL t.data.toList s.data.toList)) ∧ w' = w := by
  refine vc_strings_Contains_ok (R := fun v w' => v = .bool (hasL t.data.toList s.data.toList) ∧ w' = w) ?_ (fun v w' h => ⟨by rw [h.1], h.2⟩)
  obtain ⟨m, hm⟩ := hm
  refine (Any.strings_Index lays143 s t m w hs hm).mono ?_
  rintro e w2 ⟨rfl, rfl⟩
  refine ⟨_, rfl, ?_, rfl⟩
  rw [← hasL_index]
end Go.Proofs.YtllegkmadljmaaaGreatDoor

/- IndexByte of the package strings. No condition. -/
set_option linter.unusedVariables false
namespace Go.Proofs.YtllegkmadljmaaaGreatDoor
open Go Vc Go.Proofs

theorem indexByte_spec (s : ByteArray) (c : Nat) (hc : c < 256) (w : World) : Calls Tryz.prog F_strings_IndexByte #[.string s, .int .u8 (c : Int)] w fun e w' => e = .returned (.int .i64 (Lib.indexByte s.data.toList (UInt8.ofNat c))) ∧ w' = w := by
  refine vc_strings_IndexByte_ok (R := fun v w' => v = .int .i64 (Lib.indexByte s.data.toList (UInt8.ofNat c)) ∧ w' = w) ?_ (fun v w' h => ⟨by rw [h.1], h.2⟩)
  refine (indexByteL_spec s c w).mono ?_
  rintro e w2 ⟨rfl, rfl⟩
  refine ⟨_, rfl, ?_, rfl⟩
  simp
end Go.Proofs.YtllegkmadljmaaaGreatDoor

/- Go's text functions of this seat: IndexRune, IndexAny and ContainsAny where what is looked for is ASCII; any text. -/
set_option linter.unusedVariables false
namespace Go.Proofs.YtllegkmadljmaaaGreatDoor
open Go Vc Go.Proofs

theorem validRune_spec (r : Int) (w : World) : Calls Tryz.prog F_utf8_ValidRune #[.int .i32 r] w fun e w' => (∃ b : Bool, e = .returned (.bool b)) ∧ w' = w := by
  refine vc_utf8_ValidRune_ok (R := fun v w' => (∃ b : Bool, v = .bool b) ∧ w' = w) ?_ (fun v w' ⟨⟨b, h⟩, h2⟩ => ⟨⟨b, by rw [h]⟩, h2⟩)
  have t : ∀ b : Bool, (∃ b' : Bool, Value.bool b = .bool b') ∧ w = w := fun b => ⟨⟨b, rfl⟩, rfl⟩
  exact ⟨fun _ => ⟨fun _ => t _, fun _ => ⟨fun _ => ⟨fun _ => t _, fun _ => t _⟩, fun _ => t _⟩⟩, fun _ => ⟨fun _ => ⟨fun _ => t _, fun _ => t _⟩, fun _ => t _⟩⟩
/-- All bytes are ASCII. -/
def Ascii (s : ByteArray) : Prop := ∀ j, j < s.size → byt s j < 128
theorem indexRune_low (s : ByteArray) (r : Nat) (hr : r < 128) (w : World) : Calls Tryz.prog F_strings_IndexRune #[.string s, .int .i32 (r : Int)] w fun e w' => e = .returned (.int .i64 (Lib.indexByte s.data.toList (UInt8.ofNat r))) ∧ w' = w := by
  refine vc_strings_IndexRune_ok (R := fun v w' => v = .int .i64 (Lib.indexByte s.data.toList (UInt8.ofNat r)) ∧ w' = w) ?_ (fun v w' h => ⟨by rw [h.1], h.2⟩)
  refine ⟨fun b w' => b = true ∧ w' = w, ⟨fun _ => ⟨by simp; omega, rfl⟩, fun h => absurd (of_decide_eq_false h) (by omega)⟩, ?_⟩
  rintro b w3 ⟨rfl, rfl⟩
  refine ⟨fun _ => ?_, fun h => by cases h⟩
  rw [wrap_u8 (by omega) (by omega)]
  refine (indexByte_spec s r (by omega) w3).mono ?_
  rintro e w5 ⟨rfl, rfl⟩
  exact ⟨_, rfl, rfl, rfl⟩
theorem ascii_none {s : ByteArray} (hs : Ascii s) {c : UInt8} (hc : 128 ≤ c.toNat) (i j : Nat) (hj : j ≤ s.size) : Lib.indexByte (s.extract i j).data.toList c = -1 := by
  refine fnd_no fun k hk he => ?_
  have hk' : k < j - i := by rw [ByteArray.size_extract] at hk; omega
  rw [byt_extract hj hk'] at he
  have := hs (i + k) (by omega)
  omega
theorem indexRune_high (s : ByteArray) (hs : Ascii s) (hl : s.size ≤ 1000000) (r : Nat) (hr : 128 ≤ r) (hr2 : r ≤ 1114111) (w : World) : Calls Tryz.prog F_strings_IndexRune #[.string s, .int .i32 (r : Int)] w fun e w' => e = .returned (.int .i64 (-1)) ∧ Fr (fun _ => False) w w' := by
  refine vc_strings_IndexRune_ok (R := fun v w' => v = .int .i64 (-1) ∧ Fr (fun _ => False) w w') ?_ (fun v w' h => ⟨by rw [h.1], h.2⟩)
  refine ⟨fun b w' => b = false ∧ w' = w, ⟨fun _ => ⟨by simp; omega, rfl⟩, fun _ => ⟨rfl, rfl⟩⟩, ?_⟩
  rintro b w3 ⟨rfl, rfl⟩
  refine ⟨fun h => (by cases h), fun _ => ⟨fun _ => ?_, fun _ => ?_⟩⟩
  · obtain ⟨w7, hr7, hi7, hf7⟩ := iter_new (P := Tryz.prog) (w := w3) (t := 9) (s := s) (by kernel_rfl)
    refine ⟨w7, _, hr7, fun w' => ∃ p, IsIter w' w3.heap.size s p ∧ p ≤ s.size ∧ Fr (fun _ => False) w3 w', itLeft w3.heap.size, ⟨0, hi7, Nat.zero_le _, hf7⟩, ?_⟩
    rintro w11 ⟨p, hi, hp, hf⟩
    by_cases hps : p < s.size
    · refine .inr ?_
      obtain ⟨w13, hr13, hi13, hf13⟩ := iter_next (P := Tryz.prog) hi hps 0
      have hd := dec_low hps (hs p hps)
      rw [hd] at hr13 hi13
      have hb := hs p hps
      refine ⟨w13, _, _, hr13, fun _ => ⟨fun h => ?_, fun _ => ⟨⟨p + 1, hi13, by omega, hf.trans hf13 fun k hk e => by omega⟩, ?_⟩⟩, fun h => (by cases h)⟩
      · exfalso
        have := eq_of_beq h
        simp only at this
        omega
      · rw [hi13.left, hi.left]; omega
    · exact .inl ⟨w11, iter_end hi (by omega) 0, fun h => (by cases h), fun _ => ⟨rfl, hf⟩⟩
  · refine (validRune_spec _ w3).mono ?_
    rintro e w17 ⟨⟨b, rfl⟩, rfl⟩
    refine ⟨b, rfl, fun _ => ⟨rfl, .refl _ _⟩, fun _ => ?_⟩
    obtain ⟨e1, e2, e3⟩ := enc_high hr
    refine ⟨w17, Utf8.encode r, run_convert_int_string w17 _ _ _ _ (by kernel_rfl) (by kernel_rfl), ?_⟩
    generalize Utf8.encode (r : Int) = t at e1 e2 e3 ⊢
    have ew : IntKind.i64.wrap ((t.size : Int) - 1) = ((t.size - 1 : Nat) : Int) := by rw [wrap_i64 (by omega) (by omega)]; omega
    rw [ew]
    refine ⟨fun i w' => i = ((t.size - 1 : Nat) : Int) ∧ w' = w17, fun _ _ => 0, ⟨rfl, rfl⟩, ?_⟩
    rintro i w24 ⟨rfl, rfl⟩
    refine ⟨fun hlt => ?_, fun _ => ⟨rfl, .refl _ _⟩⟩
    have hlt := of_decide_eq_true hlt
    have hne : (byteAt s ((t.size - 1 : Nat) : Int) != byteAt t ((t.size - 1 : Nat) : Int)) = true := by
      rw [byteAt_nat, byteAt_nat]
      have := hs (t.size - 1) (by omega)
      simp; omega
    refine ⟨fun _ _ => False, ⟨⟨by omega, by omega⟩, ⟨by omega, by omega⟩, fun w26 d26 => ⟨fun _ w27 d27 => ?_, fun h => (by rw [hne] at h; cases h)⟩⟩, fun _ _ h => h.elim⟩
    have ew2 : IntKind.i64.wrap (((t.size - 1 : Nat) : Int) + 1) = ((t.size : Nat) : Int) := by rw [wrap_i64 (by omega) (by omega)]; omega
    rw [ew2]
    refine ⟨fun w' => True, trivial, ⟨by omega, by omega⟩, ⟨by omega, by omega⟩, ?_⟩
    rw [byteAt_nat]
    refine (indexByte_spec _ _ (byt_lt _ _) w27).mono ?_
    rintro e w30 ⟨rfl, hw⟩
    rw [ascii_none hs (by rw [toNat_of _ (byt_lt _ _)]; exact e3) _ _ (Nat.le_refl _)]
    refine ⟨_, rfl, trivial, fun _ => ⟨rfl, ?_⟩, fun h => absurd h (by decide)⟩
    subst hw
    exact (Fr.drew _ d26).trans' (.drew _ d27)
theorem shouldSet_spec (n : Int) (w : World) : Calls Tryz.prog F_strings_shouldUseASCIISet #[.int .i64 n] w fun e w' => e = .returned (.bool (decide (n > 8))) ∧ w' = w :=
  vc_strings_shouldUseASCIISet_ok (R := fun v w' => v = .bool (decide (n > 8)) ∧ w' = w) ⟨rfl, rfl⟩ (fun v w' h => ⟨by rw [h.1], h.2⟩)
theorem indexAny_spec (s cs : ByteArray) (hs : s.size ≤ 4000000000) (h2 : 2 ≤ cs.size) (hl : cs.size ≤ 1000000) (hc : Ascii cs) (w : World) :
    Calls Tryz.prog F_strings_IndexAny #[.string s, .string cs] w fun e w' => e = .returned (.int .i64 (Lib.indexAny s.data.toList cs.data.toList)) ∧ Fr (fun _ => False) w w' := by
  by_cases h8 : 8 < s.size
  · refine (Any.strings_IndexAny_long lays153 (fun w => by kernel_rfl) (by kernel_rfl) s cs w h2 h8 (by omega) (by omega) (fun j b hb => ?_)).mono ?_
    · obtain ⟨h1, h3⟩ := bs_get? hb
      have := hc j h1; omega
    · rintro e w' ⟨rfl, rfl⟩
      exact ⟨rfl, (Fr.alloc _ _ _).trans' (.alloc _ _ _)⟩
  · refine vc_strings_IndexAny_ok (R := fun v w' => v = .int .i64 (Lib.indexAny s.data.toList cs.data.toList) ∧ Fr (fun _ => False) w w') ?_ (fun v w' h => ⟨by rw [h.1], h.2⟩)
    refine ⟨fun h => ?_, fun _ => ⟨fun h => ?_, fun _ => ⟨fun w' => w' = w, ?_, ?_⟩⟩⟩
    · rw [bs_eq] at h
      have := of_decide_eq_true h
      rw [bs_empty] at this; omega
    · have := eq_of_beq h; omega
    · refine (shouldSet_spec _ w).mono ?_
      rintro e w9 ⟨rfl, rfl⟩
      rw [decide_eq_false (show ¬ ((s.size : Int) > 8) by omega)]
      exact ⟨_, rfl, fun h => (by cases h), fun _ => rfl⟩
    · rintro w24 rfl
      obtain ⟨w7, hr7, hi7, hf7⟩ := iter_new (P := Tryz.prog) (w := w24) (t := 9) (s := s) (by kernel_rfl)
      refine ⟨w7, _, hr7, fun w' => ∃ p, IsIter w' w24.heap.size s p ∧ p ≤ s.size ∧ Fr (fun _ => False) w24 w' ∧ Lib.NoAny s.data.toList cs.data.toList p, itLeft w24.heap.size, ⟨0, hi7, Nat.zero_le _, hf7, .zero _ _⟩, ?_⟩
      rintro w11 ⟨p, hi, hp, hf, hn⟩
      by_cases hps : p < s.size
      · refine .inr ?_
        obtain ⟨w13, hr13, hi13, hf13⟩ := iter_next (P := Tryz.prog) hi hps 0
        have hfn : Fr (fun _ => False) w24 w13 := hf.trans hf13 fun k hk e => by omega
        refine ⟨w13, _, _, hr13, fun _ => ?_, fun h => (by cases h)⟩
        by_cases hb : byt s p < 128
        · rw [dec_low hps hb]
          rw [dec_low hps hb] at hi13
          refine (indexRune_low cs (byt s p) hb w13).mono ?_
          rintro e w35 ⟨rfl, rfl⟩
          have hcon := Lib.contains_iff_indexByte cs.data.toList (UInt8.ofNat (byt s p))
          refine ⟨_, rfl, fun h => ⟨?_, hfn⟩, fun h => ⟨⟨p + 1, hi13, by omega, hfn, hn.succ (bs_get hps) ?_⟩, ?_⟩⟩
          · have h := of_decide_eq_true h
            rw [decide_eq_true (show (0 : Int) ≤ Lib.indexByte cs.data.toList (UInt8.ofNat (byt s p)) from h)] at hcon
            rw [Lib.indexAny_hit hn (bs_get hps) hcon]
          · have h := of_decide_eq_false h
            rw [hcon]
            exact decide_eq_false h
          · rw [hi13.left, hi.left]; omega
        · obtain ⟨d1, d2, d3, d4, d5⟩ := dec_high hps (by omega)
          refine (indexRune_high cs hc hl _ d1 d2 w13).mono ?_
          rintro e w35 ⟨rfl, hf35⟩
          refine ⟨_, rfl, fun h => absurd h (by decide), fun h => ⟨⟨_, hi13.keep hf35 (by simp), d4, hfn.trans' hf35, ?_⟩, ?_⟩⟩
          · intro j b hj hb'
            by_cases hjp : j < p
            · exact hn j b hjp hb'
            · obtain ⟨h1, h3⟩ := bs_get? hb'
              have h4 := d5 j (by omega) hj
              refine Bool.eq_false_iff.2 fun hcont => ?_
              obtain ⟨k, hk, hkb⟩ := List.getElem_of_mem (List.contains_iff_mem.1 hcont)
              have := bs_get? (s := cs) (i := k) (c := b) (by rw [List.getElem?_eq_getElem hk, hkb])
              have := hc k this.1
              omega
          · rw [(hi13.keep hf35 (by simp)).left, hi.left]; omega
      · refine .inl ⟨w11, iter_end hi (by omega) 0, fun h => (by cases h), fun _ => ⟨?_, hf⟩⟩
        have : p = s.size := by omega
        subst this
        rw [Lib.indexAny_none (by rw [bs_len]; exact hn)]
theorem containsAny_eq (s cs : List UInt8) : decide (Lib.indexAny s cs ≥ 0) = s.any fun c => cs.contains c := by
  induction s with
  | nil => rfl
  | cons b l ih =>
    have hg := Lib.indexAny_ge cs l
    rw [Lib.indexAny, List.any_cons, ← ih]
    cases hb : cs.contains b
    · simp only [Bool.false_eq_true, if_false, Bool.false_or]
      by_cases h : Lib.indexAny l cs = -1
      · rw [h]; rfl
      · rw [if_neg (by simpa using h)]
        refine decide_eq_decide.2 ?_
        omega
    · simp
theorem containsAny_spec (s cs : ByteArray) (hs : s.size ≤ 4000000000) (h2 : 2 ≤ cs.size) (hl : cs.size ≤ 1000000) (hc : Ascii cs) (w : World) :
    Calls Tryz.prog F_strings_ContainsAny #[.string s, .string cs] w fun e w' => e = .returned (.bool (s.data.toList.any fun c => cs.data.toList.contains c)) ∧ Fr (fun _ => False) w w' := by
  refine vc_strings_ContainsAny_ok (R := fun v w' => v = .bool (s.data.toList.any fun c => cs.data.toList.contains c) ∧ Fr (fun _ => False) w w') ?_ (fun v w' h => ⟨by rw [h.1], h.2⟩)
  refine (indexAny_spec s cs hs h2 hl hc w).mono ?_
  rintro e w2 ⟨rfl, hf⟩
  exact ⟨_, rfl, by rw [containsAny_eq], hf⟩
end Go.Proofs.YtllegkmadljmaaaGreatDoor

/- Texts of this seat in one: made by a program of ours. -/
import Derived.Test.YtlohadencnpdgaaDoorZipOneQ0
import Derived.Lib.OthersKept
import Derived.Lib.IndexLaws
import Derived.Laws.Strings
import Derived.Laws.RangeString
import Derived.Test.YtlohadencnpdgaaDoorProg
import Derived.Shelf.Lays
import Derived.Shelf.Strings.BuilderX
import Derived.Shelf.Strings.Search1
import Derived.RangeFuncNested
import Derived.RangeFuncBound
import Derived.RangeFuncCalls
import Derived.RangeFuncLeaves
import Derived.Shelf.Abstract
import Derived.Shelf.RegionOpen
import Derived.WalkKit
import Derived.OwnWalkIn
import Derived.TacticsInMore
import Derived.LoopNIn
import Derived.LoopIn
import Derived.Sort.Walk0
import Derived.Defers
import Derived.Recover
/- Texts as lists of bytes: places, parts, runes, the model's iterator over a text. No condition: for all programs. -/
set_option linter.unusedVariables false
namespace Vc
open Go

theorem bs_len (s : ByteArray) : s.data.toList.length = s.size := by simp
theorem bs_ext {a b : ByteArray} (h : a.data.toList = b.data.toList) : a = b := ByteArray.ext (Array.ext' h)
theorem bs_app (a b : ByteArray) : (a ++ b).data.toList = a.data.toList ++ b.data.toList := by simp
theorem bs_mk (l : List UInt8) : (⟨l.toArray⟩ : ByteArray).data.toList = l := by simp
theorem bs_mksize (l : List UInt8) : (⟨l.toArray⟩ : ByteArray).size = l.length := by simp [ByteArray.size]
theorem bs_self (s : ByteArray) : (⟨s.data.toList.toArray⟩ : ByteArray) = s := bs_ext (by simp)
theorem bs_extract (s : ByteArray) (i j : Nat) : (s.extract i j).data.toList = (s.data.toList.drop i).take (j - i) := by
  rw [ByteArray.data_extract, Array.toList_extract, List.extract_eq_take_drop]
theorem bs_tail (s : ByteArray) (i : Nat) : (s.extract i s.size).data.toList = s.data.toList.drop i := by
  rw [bs_extract, List.take_of_length_le (by rw [List.length_drop, bs_len]; exact Nat.le_refl _)]
theorem bs_head (s : ByteArray) (i : Nat) : (s.extract 0 i).data.toList = s.data.toList.take i := by rw [bs_extract]; simp
theorem bs_empty {s : ByteArray} : s = ⟨#[]⟩ ↔ s.size = 0 := by
  constructor
  · rintro rfl; rfl
  · intro h
    have : s.data.toList = [] := List.length_eq_zero_iff.1 (by rw [bs_len]; exact h)
    exact bs_ext (by rw [this])
theorem bs_eq (a b : ByteArray) : (a.toList == b.toList) = decide (a = b) := by
  rw [ByteArray.toList_eq, ByteArray.toList_eq]
  by_cases h : a = b
  · subst h; simp
  · rw [decide_eq_false h, beq_eq_false_iff_ne]
    exact fun e => h (bs_ext e)
theorem bs_byt {s : ByteArray} {i : Nat} (h : i < s.size) : byt s i = (s.data.toList[i]'(by rw [bs_len]; exact h)).toNat := by
  unfold byt; rw [List.getElem?_eq_getElem (by rw [bs_len]; exact h)]; rfl
theorem bs_get {s : ByteArray} {i : Nat} (h : i < s.size) : s.data.toList[i]? = some (UInt8.ofNat (byt s i)) := by
  rw [bs_byt h, List.getElem?_eq_getElem (by rw [bs_len]; exact h), UInt8.ofNat_toNat]
theorem bs_get? {s : ByteArray} {i : Nat} {c : UInt8} (h : s.data.toList[i]? = some c) : i < s.size ∧ byt s i = c.toNat := by
  obtain ⟨hl, hc⟩ := List.getElem?_eq_some_iff.1 h
  rw [bs_len] at hl
  exact ⟨hl, by rw [bs_byt hl, hc]⟩
theorem bs_take {s : ByteArray} {n : Nat} (h : n < s.size) : s.data.toList.take (n + 1) = s.data.toList.take n ++ [UInt8.ofNat (byt s n)] := by
  have hlt : n < s.data.toList.length := by rw [bs_len]; exact h
  rw [List.take_succ_eq_append_getElem hlt, bs_byt h, UInt8.ofNat_toNat]
theorem bs_all (s : ByteArray) : s.data.toList.take s.size = s.data.toList := List.take_of_length_le (by simp)
theorem bv_snoc (l : List UInt8) (c : Nat) (h : c < 256) : byteV l ++ [.int .u8 (c : Int)] = byteV (l ++ [UInt8.ofNat c]) := by
  simp [byteV]
  omega
theorem bv_len (l : List UInt8) : (byteV l).length = l.length := by simp [byteV]
theorem bv_one (l : List UInt8) : ∀ u ∈ byteV l, u.oneCell' = true := fun u h => by
  obtain ⟨b, _, rfl⟩ := List.mem_map.1 h; rfl
theorem toNat_of (c : Nat) (h : c < 256) : (UInt8.ofNat c).toNat = c := by simp; omega
theorem ofNat_inj {a b : Nat} (ha : a < 256) (hb : b < 256) (h : UInt8.ofNat a = UInt8.ofNat b) : a = b := by
  have := congrArg UInt8.toNat h
  rwa [toNat_of a ha, toNat_of b hb] at this
/-- Texts that differ nowhere. -/
theorem bs_ext_byt {a b : ByteArray} (hs : a.size = b.size) (h : ∀ i, i < a.size → byt a i = byt b i) : a = b := by
  refine bs_ext (List.ext_getElem? fun i => ?_)
  by_cases hi : i < a.size
  · rw [bs_get hi, bs_get (by omega), h i hi]
  · rw [List.getElem?_eq_none (by rw [bs_len]; omega), List.getElem?_eq_none (by rw [bs_len]; omega)]
theorem byt_extract {s : ByteArray} {i j k : Nat} (hj : j ≤ s.size) (hk : k < j - i) : byt (s.extract i j) k = byt s (i + k) := by
  unfold byt
  rw [bs_extract, List.getElem?_take, if_pos hk, List.getElem?_drop]

/-! ### Where a byte comes first -/
open Go.Lib in
theorem fnd_cases (s : ByteArray) (c : UInt8) : (indexByte s.data.toList c = -1 ∧ ∀ k, k < s.size → byt s k ≠ c.toNat) ∨
    ∃ i : Nat, indexByte s.data.toList c = (i : Int) ∧ i < s.size ∧ byt s i = c.toNat ∧ ∀ k, k < i → byt s k ≠ c.toNat := by
  by_cases h : indexByte s.data.toList c = -1
  · refine .inl ⟨h, fun k hk he => indexByte_none h k ?_⟩
    rw [bs_get hk, he, UInt8.ofNat_toNat]
  · have hg := indexByte_ge s.data.toList c
    obtain ⟨i, hi⟩ := Int.eq_ofNat_of_zero_le (show 0 ≤ indexByte s.data.toList c by omega)
    obtain ⟨h1, h2⟩ := indexByte_some hi
    obtain ⟨h3, h4⟩ := bs_get? h1
    refine .inr ⟨i, hi, h3, h4, fun k hk he => h2 k hk ?_⟩
    rw [bs_get (by omega), he, UInt8.ofNat_toNat]
open Go.Lib in
theorem fnd_at {s : ByteArray} {c : UInt8} {i : Nat} (h : i < s.size) (hc : byt s i = c.toNat) (hn : ∀ k, k < i → byt s k ≠ c.toNat) : indexByte s.data.toList c = (i : Int) := by
  rcases fnd_cases s c with ⟨_, h2⟩ | ⟨j, h1, h2, h3, h4⟩
  · exact absurd hc (h2 i h)
  · rw [h1]
    by_cases hij : i < j
    · exact absurd hc (h4 i hij)
    · by_cases hji : j < i
      · exact absurd h3 (hn j hji)
      · have : i = j := by omega
        rw [this]
open Go.Lib in
theorem fnd_no {s : ByteArray} {c : UInt8} (h : ∀ k, k < s.size → byt s k ≠ c.toNat) : indexByte s.data.toList c = -1 := by
  rcases fnd_cases s c with ⟨h1, _⟩ | ⟨i, _, h2, h3, _⟩
  · exact h1
  · exact absurd h3 (h i h2)

/-! ### Runes -/
theorem get_byt {s : ByteArray} {i : Nat} (h : i < s.size) : (s.get! i).toNat = byt s i := by
  rw [bs_byt h]
  obtain ⟨d⟩ := s
  have h' : i < d.size := h
  show (d[i]!).toNat = _
  rw [getElem!_pos d i h']
  simp
theorem dec_high {s : ByteArray} {p : Nat} (h : p < s.size) (hb : 128 ≤ byt s p) :
    128 ≤ (Utf8.decode s p).1 ∧ (Utf8.decode s p).1 ≤ 1114111 ∧ 1 ≤ (Utf8.decode s p).2 ∧ p + (Utf8.decode s p).2 ≤ s.size ∧ ∀ j, p ≤ j → j < p + (Utf8.decode s p).2 → 128 ≤ byt s j := by
  have hb0 := byt_lt s p
  have g0 : (s.get! (p + 0)).toNat = byt s p := get_byt h
  have one : 128 ≤ ((65533, 1) : Nat × Nat).1 ∧ ((65533, 1) : Nat × Nat).1 ≤ 1114111 ∧ 1 ≤ ((65533, 1) : Nat × Nat).2 ∧ p + ((65533, 1) : Nat × Nat).2 ≤ s.size ∧ ∀ j, p ≤ j → j < p + ((65533, 1) : Nat × Nat).2 → 128 ≤ byt s j :=
    ⟨by decide, by decide, by decide, h, fun j h1 h2 => by have : j = p := by simp only at h2; omega
                                                           rw [this]; exact hb⟩
  have cont : ∀ k, p + k < s.size → (s.get! (p + k)).toNat / 64 = 2 → 128 ≤ byt s (p + k) := fun k hk hc => by
    rw [get_byt hk] at hc; omega
  unfold Utf8.decode Utf8.runeError
  simp only [g0]
  rw [if_neg (by omega)]
  split
  · rename_i hc
    simp only [Bool.and_eq_true, beq_iff_eq, decide_eq_true_eq] at hc
    obtain ⟨h1, h2, h3⟩ := hc
    split
    · rename_i hv
      refine ⟨hv, by simp only; omega, by simp, by simp only; omega, fun j hj1 hj2 => ?_⟩
      simp only at hj2
      by_cases hjp : j = p
      · rw [hjp]; exact hb
      · have : j = p + 1 := by omega
        rw [this]; exact cont 1 h2 h3
    · exact one
  · split
    · rename_i hc
      simp only [Bool.and_eq_true, beq_iff_eq, decide_eq_true_eq] at hc
      obtain ⟨⟨h1, h2, h3⟩, h4, h5⟩ := hc
      split
      · rename_i hv
        simp only [Bool.and_eq_true, decide_eq_true_eq] at hv
        refine ⟨by simp only; omega, by simp only; omega, by simp, by simp only; omega, fun j hj1 hj2 => ?_⟩
        simp only at hj2
        by_cases hjp : j = p
        · rw [hjp]; exact hb
        · by_cases hj1' : j = p + 1
          · rw [hj1']; exact cont 1 h2 h3
          · have : j = p + 2 := by omega
            rw [this]; exact cont 2 h4 h5
      · exact one
    · split
      · rename_i hc
        simp only [Bool.and_eq_true, beq_iff_eq, decide_eq_true_eq] at hc
        obtain ⟨⟨⟨h1, h2, h3⟩, h4, h5⟩, h6, h7⟩ := hc
        split
        · rename_i hv
          simp only [Bool.and_eq_true, decide_eq_true_eq] at hv
          have hval := hv.2
          simp only [Utf8.valid, Bool.or_eq_true, Bool.and_eq_true, decide_eq_true_eq] at hval
          refine ⟨by simp only; omega, by simp only; omega, by simp, by simp only; omega, fun j hj1 hj2 => ?_⟩
          simp only at hj2
          by_cases hjp : j = p
          · rw [hjp]; exact hb
          · by_cases hj1' : j = p + 1
            · rw [hj1']; exact cont 1 h2 h3
            · by_cases hj2' : j = p + 2
              · rw [hj2']; exact cont 2 h4 h5
              · have : j = p + 3 := by omega
                rw [this]; exact cont 3 h6 h7
        · exact one
      · exact one
theorem dec_low {s : ByteArray} {p : Nat} (h : p < s.size) (hb : byt s p < 128) : Utf8.decode s p = (byt s p, 1) := by
  have g0 : (s.get! (p + 0)).toNat = byt s p := get_byt h
  unfold Utf8.decode
  simp only [g0]
  rw [if_pos (by omega)]
/-- An iterator over a text. -/
def IsIter (w : World) (k : Nat) (s : ByteArray) (p : Nat) : Prop := w.heap[k]? = some (.stringIter s p)
theorem IsIter.keep {w w1 : World} {k p : Nat} {s : ByteArray} (h : IsIter w k s p) {X : Nat → Prop} (hf : Fr X w w1) (hx : ¬ X k) : IsIter w1 k s p := hf.keep h hx
section
variable {P : Program}
theorem iter_new {w : World} {t : TypeId} {s : ByteArray} (ht : P.underlying t = some .string) :
    ∃ w', (Instr.range t (.string s)).run P w = .ok (.pointer (some ⟨w.heap.size, 0, none⟩)) w' ∧ IsIter w' w.heap.size s 0 ∧ Fr (fun _ => False) w w' :=
  ⟨_, run_range_string w t s ht, World.iter_heap w s 0, .alloc _ _ _⟩
theorem iter_end {w : World} {k p : Nat} {s : ByteArray} (h : IsIter w k s p) (hp : s.size ≤ p) (ty : TypeId) : (Instr.next (.pointer (some ⟨k, 0, none⟩)) true ty).run P w = .ok (.tuple #[.bool false]) w :=
  Lib.run_next_end_at w k s p ty h (by omega)
theorem iter_next {w : World} {k p : Nat} {s : ByteArray} (h : IsIter w k s p) (hp : p < s.size) (ty : TypeId) :
    ∃ w', (Instr.next (.pointer (some ⟨k, 0, none⟩)) true ty).run P w = .ok (.tuple #[.bool true, .int .i64 p, .int .i32 (Utf8.decode s p).1]) w' ∧ IsIter w' k s (p + (Utf8.decode s p).2) ∧ Fr (· = k) w w' :=
  ⟨_, Lib.run_next_any_at w k s p ty h hp, Lib.iterAt_heap w k s p _ h, ⟨rfl, rfl, rfl, by rw [Lib.iterAt_size]; exact Nat.le_refl _, fun j _ hj => Lib.iterAt_other w k j s _ hj⟩⟩
end
end Vc
namespace Vc
open Go
/-- How much an iterator has ahead of it. -/
def itLeft (k : Nat) (w : World) : Nat := match w.heap[k]? with
  | some (.stringIter s p) => s.size - p
  | _ => 0
theorem IsIter.left {w : World} {k p : Nat} {s : ByteArray} (h : IsIter w k s p) : itLeft k w = s.size - p := by
  unfold itLeft; rw [h]
/-- A rune's text. -/
theorem enc_high {r : Nat} (h : 128 ≤ r) : 2 ≤ (Utf8.encode r).size ∧ (Utf8.encode r).size ≤ 4 ∧ 128 ≤ byt (Utf8.encode r) ((Utf8.encode r).size - 1) := by
  have key : ∀ c : Nat, 128 ≤ c → ∀ (b : Nat → UInt8), (b = fun n => UInt8.ofNat n) →
      let t : ByteArray := if c < 0x80 then ⟨#[b c]⟩ else if c < 0x800 then ⟨#[b (0xC0 + c / 64), b (0x80 + c % 64)]⟩ else if c < 0x10000 then ⟨#[b (0xE0 + c / 4096), b (0x80 + c / 64 % 64), b (0x80 + c % 64)]⟩
        else ⟨#[b (0xF0 + c / 262144), b (0x80 + c / 4096 % 64), b (0x80 + c / 64 % 64), b (0x80 + c % 64)]⟩
      2 ≤ t.size ∧ t.size ≤ 4 ∧ 128 ≤ byt t (t.size - 1) := by
    intro c hc b hb
    subst hb
    have hl : 128 ≤ (UInt8.ofNat (0x80 + c % 64)).toNat := by rw [toNat_of _ (by omega)]; omega
    dsimp only
    rw [if_neg (by omega)]
    split
    · exact ⟨Nat.le_refl 2, show (2 : Nat) ≤ 4 by decide, hl⟩
    · split
      · exact ⟨show (2 : Nat) ≤ 3 by decide, show (3 : Nat) ≤ 4 by decide, hl⟩
      · exact ⟨show (2 : Nat) ≤ 4 by decide, show (4 : Nat) ≤ 4 by decide, hl⟩
  unfold Utf8.encode Utf8.runeError
  split
  · exact key _ (by simp only [Int.toNat_natCast]; exact h) _ rfl
  · exact key _ (by decide) _ rfl
end Vc

/- Formulas of 2 Go functions of this seat (written by a program of the author's, vcgen.py), and that each is enough for the call. No condition. -/
set_option linter.unusedVariables false
namespace Go.Proofs.YtlohadencnpdgaaDoor
open Go Vc Go.Proofs
set_option maxRecDepth 100000
/-- internal/stringslite.Index -/
def vc_stringslite_Index (x0 : ByteArray) (x1 : ByteArray) (w : World) (R : Value → World → Prop) : Prop :=
  ∃ I1 : World → Prop, ((((((↑(ByteArray.size x1) : Int) == 0) = true →
      R (Value.int IntKind.i64 0) w)) ∧
    (((↑(ByteArray.size x1) : Int) == 0) = false →
      ((((ByteArray.toList x1 == ByteArray.toList x0) = true →
         R (Value.int IntKind.i64 0) w)) ∧
       ((ByteArray.toList x1 == ByteArray.toList x0) = false →
         (((((↑(ByteArray.size x1) : Int) == 1) = true →
            (((0 : Int) ≤ (0 : Int) ∧
              0 < (↑(ByteArray.size x1) : Int)) ∧
             Calls Tryd.prog (62 : Nat) (Array.mk [Value.string x0, Value.int IntKind.u8 (byteAt x1 0)]) (w) (fun e2 w3 =>
               ∃ n4 : Int, (e2 = Ending.returned (Value.int IntKind.i64 n4) ∧
                R (Value.int IntKind.i64 n4) w3))))) ∧
          (((↑(ByteArray.size x1) : Int) == 1) = false →
            (((decide ((↑(ByteArray.size x1) : Int) ≥ (↑(ByteArray.size x0) : Int)) = true →
               R (Value.int IntKind.i64 (-1)) w)) ∧
             (decide ((↑(ByteArray.size x1) : Int) ≥ (↑(ByteArray.size x0) : Int)) = false →
               ∃ n5 : Int, (World.cell? w (Addr.mk 2 0 none) = some (Value.int IntKind.i64 n5) ∧
                (((decide ((↑(ByteArray.size x1) : Int) ≤ n5) = true →
                   (((decide ((↑(ByteArray.size x0) : Int) ≤ 64) = true →
                      False)) ∧
                    (decide ((↑(ByteArray.size x0) : Int) ≤ 64) = false →
                      I1 w)))) ∧
                 (decide ((↑(ByteArray.size x1) : Int) ≤ n5) = false →
                   I1 w))))))))))) ∧
   ∀ w6 : World,
   (I1 w6 →
     (((0 : Int) ≤ (0 : Int) ∧
       0 < (↑(ByteArray.size x1) : Int)) ∧
      (((0 : Int) ≤ (1 : Int) ∧
        1 < (↑(ByteArray.size x1) : Int)) ∧
       ∃ I7 : Int → Int → World → Prop, ∃ I8 : Int → Int → World → Nat, (I7 0 0 w6 ∧
        ∀ n9 : Int,
        ∀ n10 : Int,
        ∀ w11 : World,
        (I7 n9 n10 w11 →
          (((decide (n9 < IntKind.wrap IntKind.i64 (IntKind.wrap IntKind.i64 ((↑(ByteArray.size x0) : Int) - (↑(ByteArray.size x1) : Int)) + 1)) = true →
             ∃ I12 : Int → World → Prop, (((0 ≤ n9 ∧
                n9 < (↑(ByteArray.size x0) : Int)) ∧
               ((((byteAt x0 n9 != byteAt x1 0) = true →
                  ((0 ≤ IntKind.wrap IntKind.i64 (n9 + 1) ∧
                    (IntKind.wrap IntKind.i64 (n9 + 1) ≤ IntKind.wrap IntKind.i64 (IntKind.wrap IntKind.i64 ((↑(ByteArray.size x0) : Int) - (↑(ByteArray.size x1) : Int)) + 1) ∧
                     IntKind.wrap IntKind.i64 (IntKind.wrap IntKind.i64 ((↑(ByteArray.size x0) : Int) - (↑(ByteArray.size x1) : Int)) + 1) ≤ (↑(ByteArray.size x0) : Int))) ∧
                   Calls Tryd.prog (62 : Nat) (Array.mk [Value.string (ByteArray.extract x0 (Int.toNat (IntKind.wrap IntKind.i64 (n9 + 1))) (Int.toNat (IntKind.wrap IntKind.i64 (IntKind.wrap IntKind.i64 ((↑(ByteArray.size x0) : Int) - (↑(ByteArray.size x1) : Int)) + 1)))), Value.int IntKind.u8 (byteAt x1 0)]) (w11) (fun e13 w14 =>
                     ∃ n15 : Int, (e13 = Ending.returned (Value.int IntKind.i64 n15) ∧
                      (((decide (n15 < 0) = true →
                         R (Value.int IntKind.i64 (-1)) w14)) ∧
                       (decide (n15 < 0) = false →
                         I12 (IntKind.wrap IntKind.i64 (n9 + IntKind.wrap IntKind.i64 (n15 + 1))) w14))))))) ∧
                ((byteAt x0 n9 != byteAt x1 0) = false →
                  I12 n9 w11))) ∧
              ∀ n16 : Int,
              ∀ w17 : World,
              (I12 n16 w17 →
                ∃ I18 : World → Prop, (((0 ≤ IntKind.wrap IntKind.i64 (n16 + 1) ∧
                   IntKind.wrap IntKind.i64 (n16 + 1) < (↑(ByteArray.size x0) : Int)) ∧
                  ((((byteAt x0 (IntKind.wrap IntKind.i64 (n16 + 1)) == byteAt x1 1) = true →
                     ((0 ≤ n16 ∧
                       (n16 ≤ IntKind.wrap IntKind.i64 (n16 + (↑(ByteArray.size x1) : Int)) ∧
                        IntKind.wrap IntKind.i64 (n16 + (↑(ByteArray.size x1) : Int)) ≤ (↑(ByteArray.size x0) : Int))) ∧
                      ((((ByteArray.toList (ByteArray.extract x0 (Int.toNat n16) (Int.toNat (IntKind.wrap IntKind.i64 (n16 + (↑(ByteArray.size x1) : Int))))) == ByteArray.toList x1) = true →
                         R (Value.int IntKind.i64 n16) w17)) ∧
                       ((ByteArray.toList (ByteArray.extract x0 (Int.toNat n16) (Int.toNat (IntKind.wrap IntKind.i64 (n16 + (↑(ByteArray.size x1) : Int))))) == ByteArray.toList x1) = false →
                         I18 w17))))) ∧
                   ((byteAt x0 (IntKind.wrap IntKind.i64 (n16 + 1)) == byteAt x1 1) = false →
                     I18 w17))) ∧
                 ∀ w19 : World,
                 (I18 w19 →
                   ∃ I20 : Bool → World → Prop, ((∃ n21 : Int, (World.cell? w19 (Addr.mk 2 0 none) = some (Value.int IntKind.i64 n21) ∧
                     (((decide ((↑(ByteArray.size x1) : Int) ≤ n21) = true →
                        Calls Tryd.prog (64 : Nat) (Array.mk [Value.int IntKind.i64 (IntKind.wrap IntKind.i64 (n16 + 1))]) (w19) (fun e22 w23 =>
                          ∃ n24 : Int, (e22 = Ending.returned (Value.int IntKind.i64 n24) ∧
                           I20 (decide (IntKind.wrap IntKind.i64 (n10 + 1) > n24)) w23)))) ∧
                      (decide ((↑(ByteArray.size x1) : Int) ≤ n21) = false →
                        I20 false w19)))) ∧
                    ∀ b25 : Bool,
                    ∀ w26 : World,
                    (I20 b25 w26 →
                      (((b25 = true →
                         ((0 ≤ IntKind.wrap IntKind.i64 (n16 + 1) ∧
                           IntKind.wrap IntKind.i64 (n16 + 1) ≤ (↑(ByteArray.size x0) : Int)) ∧
                          False))) ∧
                       (b25 = false →
                         ∃ n27 : Int, (World.cell? w26 (Addr.mk 2 0 none) = some (Value.int IntKind.i64 n27) ∧
                          (((decide ((↑(ByteArray.size x1) : Int) > n27) = true →
                             ((0 : Int) ≤ (4 : Int) ∧
                              (((decide (IntKind.wrap IntKind.i64 (n10 + 1) ≥ IntKind.wrap IntKind.i64 (4 + Int.fdiv (IntKind.wrap IntKind.i64 (n16 + 1)) (2 ^ min (Int.toNat 4) 64))) = true →
                                 (((decide (IntKind.wrap IntKind.i64 (n16 + 1) < IntKind.wrap IntKind.i64 (IntKind.wrap IntKind.i64 ((↑(ByteArray.size x0) : Int) - (↑(ByteArray.size x1) : Int)) + 1)) = true →
                                    ((0 ≤ IntKind.wrap IntKind.i64 (n16 + 1) ∧
                                      IntKind.wrap IntKind.i64 (n16 + 1) ≤ (↑(ByteArray.size x0) : Int)) ∧
                                     Calls Tryd.prog (65 : Nat) (Array.mk [Value.string (ByteArray.extract x0 (Int.toNat (IntKind.wrap IntKind.i64 (n16 + 1))) (ByteArray.size x0)), Value.string x1]) (w26) (fun e28 w29 =>
                                       ∃ n30 : Int, (e28 = Ending.returned (Value.int IntKind.i64 n30) ∧
                                        (((decide (n30 < 0) = true →
                                           R (Value.int IntKind.i64 (-1)) w29)) ∧
                                         (decide (n30 < 0) = false →
                                           R (Value.int IntKind.i64 (IntKind.wrap IntKind.i64 (IntKind.wrap IntKind.i64 (n16 + 1) + n30))) w29))))))) ∧
                                  (decide (IntKind.wrap IntKind.i64 (n16 + 1) < IntKind.wrap IntKind.i64 (IntKind.wrap IntKind.i64 ((↑(ByteArray.size x0) : Int) - (↑(ByteArray.size x1) : Int)) + 1)) = false →
                                    (I7 (IntKind.wrap IntKind.i64 (n16 + 1)) (IntKind.wrap IntKind.i64 (n10 + 1)) w26 ∧
                                     I8 (IntKind.wrap IntKind.i64 (n16 + 1)) (IntKind.wrap IntKind.i64 (n10 + 1)) w26 < I8 n9 n10 w11))))) ∧
                               (decide (IntKind.wrap IntKind.i64 (n10 + 1) ≥ IntKind.wrap IntKind.i64 (4 + Int.fdiv (IntKind.wrap IntKind.i64 (n16 + 1)) (2 ^ min (Int.toNat 4) 64))) = false →
                                 (I7 (IntKind.wrap IntKind.i64 (n16 + 1)) (IntKind.wrap IntKind.i64 (n10 + 1)) w26 ∧
                                  I8 (IntKind.wrap IntKind.i64 (n16 + 1)) (IntKind.wrap IntKind.i64 (n10 + 1)) w26 < I8 n9 n10 w11)))))) ∧
                           (decide ((↑(ByteArray.size x1) : Int) > n27) = false →
                             (I7 (IntKind.wrap IntKind.i64 (n16 + 1)) (IntKind.wrap IntKind.i64 (n10 + 1)) w26 ∧
                              I8 (IntKind.wrap IntKind.i64 (n16 + 1)) (IntKind.wrap IntKind.i64 (n10 + 1)) w26 < I8 n9 n10 w11)))))))))))))) ∧
           (decide (n9 < IntKind.wrap IntKind.i64 (IntKind.wrap IntKind.i64 ((↑(ByteArray.size x0) : Int) - (↑(ByteArray.size x1) : Int)) + 1)) = false →
             R (Value.int IntKind.i64 (-1)) w11))))))))
theorem vc_stringslite_Index_ok {x0 : ByteArray} {x1 : ByteArray} {w : World} {R : Value → World → Prop} {R' : Ending → World → Prop} (h : vc_stringslite_Index x0 x1 w R) (hR : ∀ v w', R v w' → R' (.returned v) w') :
    Calls Tryd.prog 61 #[.string x0, .string x1] w R' :=
  calls_of_body (vs := [(.string x0, false), (.string x1, false)]) (ty := ty) (ann := ⟨[(10, []), (21, [(8, .int .i64)]), (23, []), (26, [(107, .bool)])], [(15, [(8, .int .i64), (10, .int .i64)])], [], []⟩) (c := Tryd.f61.body.getD .skip) (by kernel_rfl) Tryd.func61 (by kernel_rfl) (by kernel_rfl) (Eq.mp (by kernel_rfl) h) hR
/-- strings.Index -/
def vc_strings_Index (x0 : ByteArray) (x1 : ByteArray) (w : World) (R : Value → World → Prop) : Prop :=
  Calls Tryd.prog (61 : Nat) (Array.mk [Value.string x0, Value.string x1]) (w) (fun e1 w2 =>
    ∃ n3 : Int, (e1 = Ending.returned (Value.int IntKind.i64 n3) ∧
     R (Value.int IntKind.i64 n3) w2))
theorem vc_strings_Index_ok {x0 : ByteArray} {x1 : ByteArray} {w : World} {R : Value → World → Prop} {R' : Ending → World → Prop} (h : vc_strings_Index x0 x1 w R) (hR : ∀ v w', R v w' → R' (.returned v) w') :
    Calls Tryd.prog 56 #[.string x0, .string x1] w R' :=
  calls_of_body (vs := [(.string x0, false), (.string x1, false)]) (ty := ty) (ann := ⟨[], [], [], []⟩) (c := Tryd.f56.body.getD .skip) (by kernel_rfl) Tryd.func56 (by kernel_rfl) (by kernel_rfl) (Eq.mp (by kernel_rfl) h) hR
end Go.Proofs.YtlohadencnpdgaaDoor

/- Structures of the kit over its shelf, at this seat (written by a program of the author's, laysn.py). No condition. -/
namespace Go.Proofs.YtlohadencnpdgaaDoor
open Go Go.Shelf Go.Proofs
def lays217_ren : Go.Shelf.Ren := ⟨fun | 217 => 62 | 266 => 66 | n => n, fun | 3 => 3 | 5 => 5 | 9 => 9 | n => n, fun  | n => n⟩
theorem lays217 : Go.Proofs.Lays.n217 Tryd.prog lays217_ren := {
  mixed := by kernel_rfl,
  f217 := Tryd.func62.trans (congrArg some (by kernel_rfl)),
  f266 := Tryd.func66.trans (congrArg some (by kernel_rfl)),
  t3 := Tryd.underlying3,
  a3 := Tryd.isAgg3,
  z3 := Tryd.sizeOf3,
  v3 := Tryd.zeroValue3,
  t5 := Tryd.underlying5,
  a5 := Tryd.isAgg5,
  z5 := Tryd.sizeOf5,
  v5 := Tryd.zeroValue5,
  t9 := Tryd.underlying9,
  a9 := Tryd.isAgg9,
  z9 := Tryd.sizeOf9,
  v9 := Tryd.zeroValue9 }
end Go.Proofs.YtlohadencnpdgaaDoor

/- Go's text functions of this seat: Index at one byte. Conditions: as named. -/
set_option linter.unusedVariables false
namespace Go.Proofs.YtlohadencnpdgaaDoor
open Go Vc Go.Proofs

theorem indexByteL_spec (s : ByteArray) (c : Int) (w : World) : Calls Tryd.prog F_stringslite_IndexByte #[.string s, .int .u8 c] w fun e w' => e = .returned (.int .i64 (Lib.indexByte s.data.toList c.toNat.toUInt8)) ∧ w' = w :=
  Any.stringslite_IndexByte lays217 s c w
/-- 'Index' at one byte. -/
theorem index1_spec (s : ByteArray) (c : Nat) (hc : c < 256) (w : World) : Calls Tryd.prog F_stringslite_Index #[.string s, .string ⟨#[UInt8.ofNat c]⟩] w fun e w' => e = .returned (.int .i64 (Lib.indexByte s.data.toList (UInt8.ofNat c))) ∧ w' = w := by
  refine vc_stringslite_Index_ok (R := fun v w' => v = .int .i64 (Lib.indexByte s.data.toList (UInt8.ofNat c)) ∧ w' = w) ?_ (fun v w' h => ⟨by rw [h.1], h.2⟩)
  have hb : byteAt ⟨#[UInt8.ofNat c]⟩ 0 = (c : Int) := by
    show (((UInt8.ofNat c).toNat : Nat) : Int) = _
    rw [toNat_of c hc]
  have h1 : (ByteArray.mk #[UInt8.ofNat c]).size = 1 := rfl
  refine ⟨fun _ => False, ⟨fun h => absurd h (by rw [h1]; decide), fun _ => ⟨fun h => ?_, fun _ => ⟨fun _ => ⟨⟨by decide, by rw [h1]; decide⟩, ?_⟩, fun h => absurd h (by rw [h1]; decide)⟩⟩⟩, fun _ h => h.elim⟩
  · rw [bs_eq] at h
    have h := of_decide_eq_true h
    subst h
    refine ⟨?_, rfl⟩
    have : Lib.indexByte (ByteArray.mk #[UInt8.ofNat c]).data.toList (UInt8.ofNat c) = ((0 : Nat) : Int) :=
      fnd_at (by rw [h1]; decide) rfl (fun k hk => by omega)
    rw [this]; rfl
  · rw [hb]
    refine (indexByteL_spec s c w).mono ?_
    rintro e w2 ⟨rfl, rfl⟩
    refine ⟨_, rfl, ?_, rfl⟩
    simp
/-- What 'Cut' at one byte says. -/
def cutS (s : ByteArray) (c : UInt8) : ByteArray × ByteArray × Bool :=
  if Lib.indexByte s.data.toList c = -1 then (s, ⟨#[]⟩, false) else (s.extract 0 (Lib.indexByte s.data.toList c).toNat, s.extract ((Lib.indexByte s.data.toList c).toNat + 1) s.size, true)
end Go.Proofs.YtlohadencnpdgaaDoor

/- Formulas of 4 Go functions of this seat (written by a program of the author's, vcgen.py), and that each is enough for the call. No condition. -/
set_option linter.unusedVariables false
namespace Go.Proofs.YtlohadencnpdgaaDoor
open Go Vc Go.Proofs
set_option maxRecDepth 100000
/-- snap.Clean$1 -/
def vc_snap_Clean_1 (x0 : Int) (w : World) (R : Value → World → Prop) : Prop :=
  (((decide (x0 < 32) = true →
     R (Value.bool true) w)) ∧
   (decide (x0 < 32) = false →
     R (Value.bool (decide (x0 > 126))) w))
theorem vc_snap_Clean_1_ok {x0 : Int} {w : World} {R : Value → World → Prop} {R' : Ending → World → Prop} (h : vc_snap_Clean_1 x0 w R) (hR : ∀ v w', R v w' → R' (.returned v) w') :
    Calls Tryd.prog 36 #[.int .i32 x0] w R' :=
  calls_of_body (vs := [(.int .i32 x0, false)]) (ty := ty) (ann := ⟨[], [], [], []⟩) (c := Tryd.f36.body.getD .skip) (by kernel_rfl) Tryd.func36 (by kernel_rfl) (by kernel_rfl) (Eq.mp (by kernel_rfl) h) hR
/-- strings.indexFunc#clean -/
def vc_strings_indexFunc_clean (x0 : ByteArray) (x2 : Bool) (w : World) (R : Value → World → Prop) : Prop :=
  ∃ w1 : World, ∃ a2 : Addr, (Sem.run Tryd.prog (Instr.range 9 (Value.string x0)) w = Result.ok (Value.pointer (some a2)) w1 ∧
   ∃ I3 : World → Prop, ∃ I4 : World → Nat, (I3 w1 ∧
    ∀ w5 : World,
    (I3 w5 →
      ((∃ w6 : World, (Sem.run Tryd.prog (Instr.next (Value.pointer (some a2)) true 0) w5 = Result.ok (Value.tuple (Array.mk [Value.bool false])) w6 ∧
        (((false = true →
           False)) ∧
         (false = false →
           R (Value.int IntKind.i64 (-1)) w6)))) ∨
       (∃ w7 : World, ∃ n8 : Int, ∃ n9 : Int, (Sem.run Tryd.prog (Instr.next (Value.pointer (some a2)) true 0) w5 = Result.ok (Value.tuple (Array.mk [Value.bool true, Value.int IntKind.i64 n8, Value.int IntKind.i32 n9])) w7 ∧
        (((true = true →
           Calls Tryd.prog (36 : FuncId) (Array.mk [Value.int IntKind.i32 n9]) (w7) (fun e10 w11 =>
             ∃ b12 : Bool, (e10 = Ending.returned (Value.bool b12) ∧
              ((((b12 == x2) = true →
                 R (Value.int IntKind.i64 n8) w11)) ∧
               ((b12 == x2) = false →
                 (I3 w11 ∧
                  I4 w11 < I4 w5))))))) ∧
         (true = false →
           R (Value.int IntKind.i64 (-1)) w7))))))))
theorem vc_strings_indexFunc_clean_ok {x0 : ByteArray} {x2 : Bool} {w : World} {R : Value → World → Prop} {R' : Ending → World → Prop} (h : vc_strings_indexFunc_clean x0 x2 w R) (hR : ∀ v w', R v w' → R' (.returned v) w') :
    Calls Tryd.prog 57 #[.string x0, .func (.func 36) #[] #[], .bool x2] w R' :=
  calls_of_body (vs := [(.string x0, false), (.func (.func 36) #[] #[], false), (.bool x2, false)]) (ty := ty) (ann := ⟨[], [(2, [])], [], []⟩) (c := Tryd.f57.body.getD .skip) (by kernel_rfl) Tryd.func57 (by kernel_rfl) (by kernel_rfl) (Eq.mp (by kernel_rfl) h) hR
/-- strings.IndexFunc#clean -/
def vc_strings_IndexFunc_clean (x0 : ByteArray) (w : World) (R : Value → World → Prop) : Prop :=
  Calls Tryd.prog (57 : Nat) (Array.mk [Value.string x0, Value.func (Fn.func 36) (Array.mk []) (Array.mk []), Value.bool true]) (w) (fun e1 w2 =>
    ∃ n3 : Int, (e1 = Ending.returned (Value.int IntKind.i64 n3) ∧
     R (Value.int IntKind.i64 n3) w2))
theorem vc_strings_IndexFunc_clean_ok {x0 : ByteArray} {w : World} {R : Value → World → Prop} {R' : Ending → World → Prop} (h : vc_strings_IndexFunc_clean x0 w R) (hR : ∀ v w', R v w' → R' (.returned v) w') :
    Calls Tryd.prog 45 #[.string x0, .func (.func 36) #[] #[]] w R' :=
  calls_of_body (vs := [(.string x0, false), (.func (.func 36) #[] #[], false)]) (ty := ty) (ann := ⟨[], [], [], []⟩) (c := Tryd.f45.body.getD .skip) (by kernel_rfl) Tryd.func45 (by kernel_rfl) (by kernel_rfl) (Eq.mp (by kernel_rfl) h) hR
/-- strings.ContainsFunc#clean -/
def vc_strings_ContainsFunc_clean (x0 : ByteArray) (w : World) (R : Value → World → Prop) : Prop :=
  Calls Tryd.prog (45 : Nat) (Array.mk [Value.string x0, Value.func (Fn.func 36) (Array.mk []) (Array.mk [])]) (w) (fun e1 w2 =>
    ∃ n3 : Int, (e1 = Ending.returned (Value.int IntKind.i64 n3) ∧
     R (Value.bool (decide (n3 ≥ 0))) w2))
theorem vc_strings_ContainsFunc_clean_ok {x0 : ByteArray} {w : World} {R : Value → World → Prop} {R' : Ending → World → Prop} (h : vc_strings_ContainsFunc_clean x0 w R) (hR : ∀ v w', R v w' → R' (.returned v) w') :
    Calls Tryd.prog 35 #[.string x0, .func (.func 36) #[] #[]] w R' :=
  calls_of_body (vs := [(.string x0, false), (.func (.func 36) #[] #[], false)]) (ty := ty) (ann := ⟨[], [], [], []⟩) (c := Tryd.f35.body.getD .skip) (by kernel_rfl) Tryd.func35 (by kernel_rfl) (by kernel_rfl) (Eq.mp (by kernel_rfl) h) hR
end Go.Proofs.YtlohadencnpdgaaDoor

/- strings.SplitSeq at a slash, a range over it, ContainsFunc, snap.Clean. Conditions: as named. -/
set_option linter.unusedVariables false
namespace Go.Proofs.YtlohadencnpdgaaDoor
open Go Vc Go.Proofs Go.RowKit Go.Shelf
attribute [local go_sem] Oper.semAt_some

/-- The parts of a text, cut at each slash. -/
def partsF : Nat → ByteArray → List ByteArray
  | 0, s => [s]
  | f + 1, s => if Lib.indexByte s.data.toList 47 = -1 then [s] else s.extract 0 (Lib.indexByte s.data.toList 47).toNat :: partsF f (s.extract ((Lib.indexByte s.data.toList 47).toNat + 1) s.size)
theorem index47 (s : ByteArray) (w : World) : Calls Tryd.prog F_strings_Index #[.string s, .string ⟨#[47]⟩] w fun e w' => e = .returned (.int .i64 (Lib.indexByte s.data.toList 47)) ∧ w' = w := by
  refine vc_strings_Index_ok (R := fun v w' => v = .int .i64 (Lib.indexByte s.data.toList 47) ∧ w' = w) ?_ (fun v w' h => ⟨by rw [h.1], h.2⟩)
  refine (index1_spec s 47 (by decide) w).mono ?_
  rintro e w2 ⟨rfl, rfl⟩
  exact ⟨_, rfl, rfl, rfl⟩
theorem partsF_no {s : ByteArray} (h : Lib.indexByte s.data.toList 47 = -1) (g : Nat) : partsF g s = [s] := by
  cases g with
  | zero => rfl
  | succ g => rw [partsF, if_pos h]
theorem partsF_yes {s : ByteArray} {i : Nat} (h : Lib.indexByte s.data.toList 47 = (i : Int)) (g : Nat) : partsF (g + 1) s = s.extract 0 i :: partsF g (s.extract (i + 1) s.size) := by
  rw [partsF, h, if_neg (by omega), Int.toNat_natCast]
set_option maxRecDepth 100000 in
set_option maxHeartbeats 2000000 in
theorem splitSeq_rounds (n : Nat) (hn : 1 ≤ n) (l b0 b1 b2 n₀ : Nat) (h0n : b0 < n₀) (h1n : b1 < n₀) (h2n : b2 < n₀) (h01 : b0 ≠ b1) (h12 : b2 ≠ b1) (s0 : ByteArray) (hs : s0.size ≤ 140737488355328) (f : Nat) (hf : s0.size ≤ f)
    (J Jx : List ByteArray → World → Prop) (hJ : ∀ pre W1 W2, J pre W1 → Fr (· = b1) W1 W2 → J pre W2)
    (hY : ∀ pre x W1, J pre W1 → (∃ r, pre ++ x :: r = partsF f s0) → YieldAt Fence.wide (n - 1) Tryd.prog l #[.string x] W1 fun e W' =>
      (e = .returned (.bool true) ∧ J (pre ++ [x]) W' ∧ Below n₀ W1 W') ∨ (e = .returned (.bool false) ∧ Jx (pre ++ [x]) W'))
    (W : World) (hc0 : W.cell? ⟨b0, 0, none⟩ = some (.string ⟨#[47]⟩)) (hc1 : W.cell? ⟨b1, 0, none⟩ = some (.string s0)) (hc2 : W.cell? ⟨b2, 0, none⟩ = some (.int .i64 0)) (hfz : W.frozen? ⟨b1, 0, none⟩ = false) (hJ0 : J [] W) :
    CallsIn Fence.wide n Tryd.prog 54 #[.func (.yield l) #[] #[], .pointer (some ⟨b0, 0, none⟩), .pointer (some ⟨b1, 0, none⟩), .pointer (some ⟨b2, 0, none⟩)] W fun e W' => (∃ v, e = .returned v) ∧ (J (partsF f s0) W' ∨ ∃ pre, Jx pre W') := by
  refine callsIn_of_wp Tryd.func54 rfl trivial ?_ rfl
  simp only [Tryd.ntmps54, List.size_toArray, List.length_cons, List.length_nil, Nat.reduceAdd, Nat.reduceSub, Array.replicate_succ, Array.replicate_zero, List.push_toArray, List.append_toArray, List.nil_append, List.cons_append]
  gi_wp2
  gi_loopw [] (fun wr => ∃ (pre : List ByteArray) (s : ByteArray) (g : Nat), wr.cell? ⟨b1, 0, none⟩ = some (.string s) ∧ s.size ≤ g ∧ s.size ≤ 140737488355328 ∧ pre ++ partsF g s = partsF f s0 ∧ J pre wr ∧ wr.cell? ⟨b0, 0, none⟩ = some (.string ⟨#[47]⟩) ∧ wr.cell? ⟨b2, 0, none⟩ = some (.int .i64 0) ∧ wr.frozen? ⟨b1, 0, none⟩ = false)
    (fun wr => match wr.cell? ⟨b1, 0, none⟩ with | some (.string s) => s.size | _ => 0)
  case atStart => exact ⟨[], s0, f, hc1, hf, hs, rfl, hJ0, hc0, hc2, hfz⟩
  case round =>
    obtain ⟨pre, s, g, k1, k2, k3, k4, k5, k6, k7, k8⟩ := hrel
    rcases fnd_cases s 47 with ⟨hi, hno⟩ | ⟨i, hi, hlt, hb, hno⟩
    · rw [partsF_no hi] at k4
      obtain ⟨fn, tmps, assign, body, hy, hR⟩ := hY pre s wr k5 ⟨[], k4⟩
      gi_wp2_with (refine ⟨trivial, ?_⟩; gi_at_call 56; refine (callsIn_wide.2 (index47 s _)).mono ?_; rw [hi]; rintro e w' ⟨rfl, rfl⟩)
      refine hR.mono ?_
      rintro e W3 (⟨rfl, hJ3, hk3⟩ | ⟨rfl, hJx3⟩)
      · gi_wp2
        go_end0
        exact ⟨⟨_, rfl⟩, .inl (by rw [← k4]; exact hJ3)⟩
      · gi_wp2
        go_end0
        exact ⟨⟨_, rfl⟩, .inr ⟨_, hJx3⟩⟩
    · obtain ⟨g, rfl⟩ : ∃ g', g = g' + 1 := ⟨g - 1, by omega⟩
      rw [partsF_yes hi] at k4
      obtain ⟨fn, tmps, assign, body, hy, hR⟩ := hY pre (s.extract 0 i) wr k5 ⟨_, k4⟩
      have e1 : IntKind.i64.wrap ((i : Int) + 0) = (i : Int) := by rw [wrap_i64 (by omega) (by omega)]; omega
      have e2 : IntKind.i64.wrap ((i : Int) + 1) = ((i + 1 : Nat) : Int) := by rw [wrap_i64 (by omega) (by omega)]; omega
      gi_wp2_with (refine ⟨trivial, ?_⟩; gi_at_call 56; refine (callsIn_wide.2 (index47 s _)).mono ?_; rw [hi]; rintro e w' ⟨rfl, rfl⟩)
      refine hR.mono ?_
      rintro e W3 (⟨rfl, hJ3, hk3⟩ | ⟨rfl, hJx3⟩)
      · have m0 : W3.cell? ⟨b0, 0, none⟩ = some (.string ⟨#[47]⟩) := (hk3.cell (p := ⟨b0, 0, none⟩) h0n).trans k6
        have m1 : W3.cell? ⟨b1, 0, none⟩ = some (.string s) := (hk3.cell (p := ⟨b1, 0, none⟩) h1n).trans k1
        have m2 : W3.cell? ⟨b2, 0, none⟩ = some (.int .i64 0) := (hk3.cell (p := ⟨b2, 0, none⟩) h2n).trans k7
        have m3 : W3.frozen? ⟨b1, 0, none⟩ = false := (hk3.frozen (p := ⟨b1, 0, none⟩) h1n).trans k8
        gi_wp2
        have hfr : Fr (· = b1) W3 (W3.setCell ⟨b1, 0, none⟩ (.string (s.extract (i + 1) s.size))) := .set _ _ _ rfl
        have c1 : (W3.setCell ⟨b1, 0, none⟩ (.string (s.extract (i + 1) s.size))).cell? ⟨b1, 0, none⟩ = some (.string (s.extract (i + 1) s.size)) := World.cell?_setCell_same' _ _ _ (by rw [m1]; rfl)
        have hsz : (s.extract (i + 1) s.size).size = s.size - (i + 1) := by simp
        refine ⟨⟨pre ++ [s.extract 0 i], s.extract (i + 1) s.size, g, c1, by omega, by omega, by rw [List.append_assoc]; exact k4, hJ _ _ _ hJ3 hfr, hfr.cell m0 h01, hfr.cell m2 h12, by rw [World.frozen?_setCell]; exact m3⟩, ?_⟩
        rw [c1, k1]
        simp only
        omega
      · gi_wp2
        refine bodyPost_ret (results_none rfl _ _ _) rfl ?_
        exact ⟨⟨_, rfl⟩, .inr ⟨_, hJx3⟩⟩
end Go.Proofs.YtlohadencnpdgaaDoor
namespace Go.Proofs.YtlohadencnpdgaaDoor
open Go Vc Go.Proofs Go.RowKit Go.Shelf

/-- How a round's body ends. -/
def RoundEnd (I Ix : List ByteArray → World → Prop) (B : Nat) (xs : List ByteArray) (W : World) : Exit → Act → World → Prop
  | .normal, _, W' => Fr (fun _ => False) W W' ∧ I xs W'
  | .ret, _, W' => Fr (fun k => k < B) W W' ∧ Ix xs W'
  | _, _, _ => False
theorem range_split {g : Operand} {p : Tmp} {assign body : Code} {Q : Exit → Act → World → Prop} {a : Act} {w : World} {B b0 b1 b2 : Nat} (hB0 : B ≤ b0) (hB1 : B ≤ b1) (hB2 : B ≤ b2) (h01 : b0 ≠ b1) (h12 : b2 ≠ b1)
    (hg : a.eval g = .func (.func 54) #[] #[.pointer (some ⟨b0, 0, none⟩), .pointer (some ⟨b1, 0, none⟩), .pointer (some ⟨b2, 0, none⟩)])
    (s0 : ByteArray) (hs : s0.size ≤ 140737488355328) (hc0 : w.cell? ⟨b0, 0, none⟩ = some (.string ⟨#[47]⟩)) (hc1 : w.cell? ⟨b1, 0, none⟩ = some (.string s0)) (hc2 : w.cell? ⟨b2, 0, none⟩ = some (.int .i64 0)) (hfz : w.frozen? ⟨b1, 0, none⟩ = false)
    (I Ix : List ByteArray → World → Prop) (hI : ∀ pre W W', I pre W → Fr (fun k => B ≤ k) W W' → I pre W') (hIx : ∀ pre W W', Ix pre W → Fr (fun k => B ≤ k) W W' → Ix pre W') (h0 : I [] w) (a₁ : ByteArray → Act)
    (hassign : ∀ (l : Nat) (x : ByteArray) (W : World) (K : Act → World → Prop), K (a₁ x) W →
      assign.wpIn (Fence.wide.inRound l) 1 Tryd.prog (Exit.then K (fun _ _ _ => False)) { tmps := ((#[p] : Array Tmp).zip #[Value.string x]).foldl (fun t (p, v) => t.setIfInBounds p v) a.tmps, defers := [] } W)
    (hbody : ∀ (l : Nat) (pre : List ByteArray) (x : ByteArray) (W : World), I pre W → (∃ r, pre ++ x :: r = partsF s0.size s0) → body.wpIn (Fence.wide.inRound l) 1 Tryd.prog (RoundEnd I Ix B (pre ++ [x]) W) (a₁ x) W)
    (hdone : ∀ (D : Nat) (W : World), w.heap.size ≤ D → I (partsF s0.size s0) W → W.heap[D]? = some (.deferred (some [])) → Q .normal { a with defers := { target := .collected D, args := #[] } :: a.defers } W)
    (hstop : ∀ (D : Nat) (pre : List ByteArray) (W : World), w.heap.size ≤ D → Ix pre W → W.heap[D]? = some (.deferred (some [])) → Q .ret { a with defers := { target := .collected D, args := #[] } :: a.defers } W) :
    (Code.rangeFunc g #[p] assign body).wpIn Fence.wide 3 Tryd.prog Q a w := by
  have hl0 := World.block_lt_of_cell? w _ hc0
  have hl1 := World.block_lt_of_cell? w _ hc1
  have hl2 := World.block_lt_of_cell? w _ hc2
  simp only at hl0 hl1 hl2
  have put : ∀ {W : World} {k : Nat} {o : Obj}, Fr (· = k) W (W.putObj k o) := fun {W k o} => (Fr.grown (grownBy_putObj' W k o)).mono fun q _ h => by cases h; rfl
  have hup : ∀ {q : Nat}, q = w.heap.size + 1 → B ≤ q := fun h => by omega
  have hge : ∀ {q : Nat}, q = w.heap.size + 1 → w.heap.size ≤ q := fun h => by omega
  refine wpIn_rangeFunc ?_
  intro fn hfn
  obtain ⟨rec, hrec⟩ : ∃ rec : LoopState → Option Code → Loop, rec = fun st pe => { state := st, pending := pe, fn, tmps := a.tmps, params := #[p], assign, body, defers := w.heap.size } := ⟨_, rfl⟩
  obtain ⟨W1, hW1⟩ : ∃ W1, (w.alloc (.deferred (some []))).alloc (.loop (rec .ready none)) = W1 := ⟨_, rfl⟩
  have hL1 : W1.heap[w.heap.size + 1]? = some (.loop (rec .ready none)) := by
    rw [← hW1]; have := World.alloc_heap_new (w.alloc (.deferred (some []))) (.loop (rec .ready none)); rwa [World.size_alloc] at this
  have hK1 : W1.heap[w.heap.size]? = some (.deferred (some [])) := by
    rw [← hW1]; exact (Below.heap_alloc _ _ _ (by simp)).trans (World.alloc_heap_new w _)
  have hf1 : Fr (fun _ => False) w W1 := by rw [← hW1]; exact (Fr.alloc _ _ _).trans' (.alloc _ _ _)
  refine ⟨w.heap.size + 1, [{ target := .collected w.heap.size, args := #[] }], W1, { target := .fn (.func 54) #[.pointer (some ⟨b0, 0, none⟩), .pointer (some ⟨b1, 0, none⟩), .pointer (some ⟨b2, 0, none⟩)], args := #[.func (.yield (w.heap.size + 1)) #[] #[]] }, W1, 54,
    #[.func (.yield (w.heap.size + 1)) #[] #[], .pointer (some ⟨b0, 0, none⟩), .pointer (some ⟨b1, 0, none⟩), .pointer (some ⟨b2, 0, none⟩)], W1, ?_, ?_, ?_, ?_, fun h => (by cases h), ?_⟩
  · rw [← hW1, hrec]; exact run_enterLoop_outer _ _ _ _ _
  · simp only [resolve, hg]
    simp [go_sem]
  · exact fun f' _ => trivial
  · have eg := enters_of (P := Tryd.prog) Tryd.func54 (by kernel_rfl) rfl
    first | (simp [invoke, go_sem]; done) | simp [invoke, go_sem, eg]
  · -- the rounds
    have hidx : ∀ {W W' : World} {X : Nat → Prop}, Fr X W W' → (∀ k, X k → k = b1) → (W.heap[w.heap.size + 1]? = some (.loop (rec .ready none)) ∧ W.heap[w.heap.size]? = some (.deferred (some []))) →
        (W'.heap[w.heap.size + 1]? = some (.loop (rec .ready none)) ∧ W'.heap[w.heap.size]? = some (.deferred (some []))) := fun hf hx h => ⟨hf.keep h.1 fun e => by have := hx _ e; omega, hf.keep h.2 fun e => by have := hx _ e; omega⟩
    refine (splitSeq_rounds 2 (by decide) (w.heap.size + 1) b0 b1 b2 w.heap.size hl0 hl1 hl2 h01 h12 s0 hs s0.size (Nat.le_refl _)
      (fun pre W => I pre W ∧ W.heap[w.heap.size + 1]? = some (.loop (rec .ready none)) ∧ W.heap[w.heap.size]? = some (.deferred (some [])))
      (fun pre W => Ix pre W ∧ W.heap[w.heap.size + 1]? = some (.loop (rec .done (some .ret))) ∧ W.heap[w.heap.size]? = some (.deferred (some [])))
      (fun pre W W' h hf => ⟨hI _ _ _ h.1 (hf.mono fun k _ e => by rw [e]; exact hB1), hidx hf (fun k e => e) h.2⟩)
      ?_ W1 (hf1.cell hc0 (by simp)) (hf1.cell hc1 (by simp)) (hf1.cell hc2 (by simp)) ?_ ⟨hI _ _ _ h0 (hf1.mono fun _ _ h => h.elim), hL1, hK1⟩).mono ?_
    · -- one round
      rintro pre x W ⟨hi, hl, hk⟩ hr
      have hlt : w.heap.size + 1 < W.heap.size := (Array.getElem?_eq_some_iff.1 hl).1
      have hy := run_yield (P := Tryd.prog) (args := #[.string x]) hl (by rw [hrec]; rfl)
      rw [hrec] at hy
      refine ⟨fn, _, assign, body, hy, roundIn_of_wpIn hfn ?_⟩
      refine hassign _ x W _ ⟨_, run_beginRound hl (by rw [hrec]), ?_⟩
      obtain ⟨W2, hW2⟩ : ∃ W2, W.putObj (w.heap.size + 1) (.loop { rec .ready none with state := .busy }) = W2 := ⟨_, rfl⟩
      rw [hW2]
      have hp2 : Fr (· = w.heap.size + 1) W W2 := by rw [← hW2]; exact put
      have hl2 : W2.heap[w.heap.size + 1]? = some (.loop { rec .ready none with state := .busy }) := by rw [← hW2]; exact World.putObj_heap_same hlt
      have hk2 : W2.heap[w.heap.size]? = some (.deferred (some [])) := hp2.keep hk (by omega)
      refine wpIn_mono (hbody _ pre x W2 (hI _ _ _ hi (hp2.mono fun k _ h => hup h)) hr) ?_
      have fin : ∀ (jump : Option Code) (W3 : World), W3.heap[w.heap.size + 1]? = some (.loop { rec .ready none with state := .busy }) → W3.heap[w.heap.size]? = some (.deferred (some [])) →
          (Instr.endRound (w.heap.size + 1) jump).run Tryd.prog W3 = .ok (.bool jump.isNone) (W3.putObj (w.heap.size + 1) (.loop (rec (if jump.isNone then .ready else .done) jump))) ∧
          (W3.putObj (w.heap.size + 1) (.loop (rec (if jump.isNone then .ready else .done) jump))).heap[w.heap.size + 1]? = some (.loop (rec (if jump.isNone then .ready else .done) jump)) ∧
          (W3.putObj (w.heap.size + 1) (.loop (rec (if jump.isNone then .ready else .done) jump))).heap[w.heap.size]? = some (.deferred (some [])) := fun jump W3 hl3 hk3 => by
        have := run_endRound (P := Tryd.prog) jump hl3
        refine ⟨?_, World.putObj_heap_same (Array.getElem?_eq_some_iff.1 hl3).1, (World.putObj_heap_other (by omega)).trans hk3⟩
        rw [hrec] at this ⊢
        exact this
      rintro e a3 W3 hp
      cases e with
      | normal =>
        obtain ⟨hf3, hi3⟩ := hp
        obtain ⟨hr3, hl4, hk4⟩ := fin none W3 (hf3.keep hl2 (by simp)) (hf3.keep hk2 (by simp))
        refine ⟨_, _, hr3, .inl ⟨rfl, ⟨hI _ _ _ hi3 (put.mono fun k _ h => hup h), hl4, hk4⟩, ?_⟩⟩
        exact Fr.below (((hp2.trans hf3 fun q _ h => h.elim).trans' put).mono fun k _ h => hge h) (by omega)
      | ret =>
        obtain ⟨hf3, hi3⟩ := hp
        obtain ⟨hr3, hl4, hk4⟩ := fin (some .ret) W3 (hf3.keep hl2 (fun h => Nat.not_lt.2 (Nat.le_of_lt (Nat.lt_of_le_of_lt hB0 (Nat.lt_succ_of_lt hl0))) h)) (hf3.keep hk2 (fun h => Nat.not_lt.2 (Nat.le_of_lt (Nat.lt_of_le_of_lt hB0 hl0)) h))
        exact ⟨_, _, hr3, .inr ⟨rfl, hIx _ _ _ hi3 (put.mono fun k _ h => hup h), hl4, hk4⟩⟩
      | exit id => exact hp.elim
      | goto t => exact hp.elim
      | panic ch => exact hp.elim
      | outgrown => exact hp.elim
    · rw [← hW1]
      exact (World.frozen?_of_block (by rw [hW1]; exact hf1.blk b1 hl1 (by simp))).trans hfz
    · -- behind the iterator
      rintro e W2 ⟨⟨v, rfl⟩, (⟨hi, hl, hk⟩ | ⟨pre, hi, hl, hk⟩)⟩
      · refine ⟨none, _, by have := run_endLoop (P := Tryd.prog) hl (by rw [hrec]; simp); rw [hrec] at this; exact this, hdone _ _ (Nat.le_refl _) (hI _ _ _ hi (put.mono fun k _ h => hup h)) ((World.putObj_heap_other (by omega)).trans hk)⟩
      · refine ⟨some .ret, _, by have := run_endLoop (P := Tryd.prog) hl (by rw [hrec]; simp); rw [hrec] at this; exact this, ?_⟩
        exact wpIn_ret (hstop w.heap.size pre _ (Nat.le_refl _) (hIx _ _ _ hi (put.mono fun k _ h => hup h)) ((World.putObj_heap_other (by omega)).trans hk))
end Go.Proofs.YtlohadencnpdgaaDoor
namespace Go.Proofs.YtlohadencnpdgaaDoor
open Go Vc Go.Proofs Go.RowKit Go.Shelf

/-- Every byte is a letter that is printed. -/
def printB (s : ByteArray) : Bool := decide (∀ k, k < s.size → 32 ≤ byt s k ∧ byt s k ≤ 126)
theorem clean1_spec (c : Int) (w : World) : Calls Tryd.prog F_snap_Clean_1 #[.int .i32 c] w fun e w' => e = .returned (.bool (decide (c < 32) || decide (c > 126))) ∧ w' = w := by
  refine vc_snap_Clean_1_ok (R := fun v w' => v = .bool (decide (c < 32) || decide (c > 126)) ∧ w' = w) ?_ (fun v w' h => ⟨by rw [h.1], h.2⟩)
  exact ⟨fun h => ⟨by rw [h]; rfl, rfl⟩, fun h => ⟨by rw [h]; rfl, rfl⟩⟩
theorem indexFunc_spec (s : ByteArray) (w : World) : Calls Tryd.prog F_strings_indexFunc #[.string s, .func (.func F_snap_Clean_1) #[] #[], .bool true] w fun e w' =>
    ∃ n : Int, e = .returned (.int .i64 n) ∧ decide (n ≥ 0) = !printB s ∧ Fr (fun _ => False) w w' := by
  refine vc_strings_indexFunc_clean_ok (R := fun v w' => ∃ n : Int, v = .int .i64 n ∧ decide (n ≥ 0) = !printB s ∧ Fr (fun _ => False) w w') ?_ (fun v w' ⟨n, h⟩ => ⟨n, by rw [h.1], h.2⟩)
  obtain ⟨w7, hr7, hi7, hf7⟩ := iter_new (P := Tryd.prog) (w := w) (t := 9) (s := s) (by kernel_rfl)
  refine ⟨w7, _, hr7, fun w' => ∃ p, IsIter w' w.heap.size s p ∧ p ≤ s.size ∧ Fr (fun _ => False) w w' ∧ ∀ k, k < p → 32 ≤ byt s k ∧ byt s k ≤ 126, itLeft w.heap.size, ⟨0, hi7, Nat.zero_le _, hf7, fun k hk => by omega⟩, ?_⟩
  rintro w11 ⟨p, hi, hp, hf, hn⟩
  by_cases hps : p < s.size
  · refine .inr ?_
    obtain ⟨w13, hr13, hi13, hf13⟩ := iter_next (P := Tryd.prog) hi hps 0
    have hfn : Fr (fun _ => False) w w13 := hf.trans hf13 fun k hk e => by omega
    refine ⟨w13, _, _, hr13, fun _ => (clean1_spec _ w13).mono ?_, fun h => (by cases h)⟩
    rintro e w15 ⟨rfl, hw⟩
    replace hw := hw.symm
    subst hw
    have bad : ∀ {k : Nat}, k < s.size → ¬ (32 ≤ byt s k ∧ byt s k ≤ 126) → printB s = false := fun hk h => by
      unfold printB
      exact decide_eq_false fun hall => h (hall _ hk)
    refine ⟨_, rfl, fun h => ⟨p, rfl, ?_, hfn⟩, fun h => ?_⟩
    · have hb : printB s = false := by
        refine bad hps fun hh => ?_
        rw [dec_low hps (by omega)] at h
        simp only [beq_iff_eq, Bool.or_eq_true, decide_eq_true_eq] at h
        omega
      rw [hb]
      exact decide_eq_true (by omega)
    · by_cases hb : byt s p < 128
      · rw [dec_low hps hb] at h hi13
        simp only [beq_eq_false_iff_ne, ne_eq, Bool.not_eq_true, Bool.or_eq_false_iff, decide_eq_false_iff_not] at h
        refine ⟨⟨p + 1, hi13, by omega, hfn, fun k hk => ?_⟩, by rw [hi13.left, hi.left]; omega⟩
        by_cases hkp : k = p
        · subst hkp; omega
        · exact hn k (by omega)
      · obtain ⟨d1, d2, d3, d4, d5⟩ := dec_high hps (by omega)
        exfalso
        have : decide (((Utf8.decode s p).1 : Int) > 126) = true := decide_eq_true (by omega)
        rw [this] at h
        simp at h
  · refine .inl ⟨w11, iter_end hi (by omega) 0, fun h => (by cases h), fun _ => ⟨-1, rfl, ?_, hf⟩⟩
    have : printB s = true := decide_eq_true fun k hk => hn k (by omega)
    rw [this]; rfl
theorem containsFunc_spec (s : ByteArray) (w : World) : Calls Tryd.prog F_strings_ContainsFunc #[.string s, .func (.func F_snap_Clean_1) #[] #[]] w fun e w' =>
    e = .returned (.bool (!printB s)) ∧ Fr (fun _ => False) w w' := by
  refine vc_strings_ContainsFunc_clean_ok (R := fun v w' => v = .bool (!printB s) ∧ Fr (fun _ => False) w w') ?_ (fun v w' h => ⟨by rw [h.1], h.2⟩)
  refine Calls.mono (R := fun e w' => ∃ n : Int, e = .returned (.int .i64 n) ∧ decide (n ≥ 0) = !printB s ∧ Fr (fun _ => False) w w') (vc_strings_IndexFunc_clean_ok (R := fun v w' => ∃ n : Int, v = .int .i64 n ∧ decide (n ≥ 0) = !printB s ∧ Fr (fun _ => False) w w') ?_ (fun v w' ⟨n, h⟩ => ⟨n, by rw [h.1], h.2⟩)) ?_
  · refine (indexFunc_spec s w).mono ?_
    rintro e w2 ⟨n, rfl, h⟩
    exact ⟨n, rfl, n, rfl, h⟩
  · rintro e w2 ⟨n, rfl, h, hf⟩
    exact ⟨n, rfl, by rw [h], hf⟩
/-- What SplitSeq hands back, and what it lays. -/
theorem splitSeq_spec (s : ByteArray) (w : World) : Calls Tryd.prog 34 #[.string s, .string ⟨#[47]⟩] w fun e w' =>
    e = .returned (.func (.func 54) #[] #[.pointer (some ⟨w.heap.size + 1, 0, none⟩), .pointer (some ⟨w.heap.size, 0, none⟩), .pointer (some ⟨w.heap.size + 2, 0, none⟩)]) ∧
    w' = ((w.alloc (.cells #[.string s] 9)).alloc (.cells #[.string ⟨#[47]⟩] 9)).alloc (.cells #[.int .i64 0] 3) := by
  have inner : Calls Tryd.prog 44 #[.string s, .string ⟨#[47]⟩, .int .i64 0] w fun e w' =>
    e = .returned (.func (.func 54) #[] #[.pointer (some ⟨w.heap.size + 1, 0, none⟩), .pointer (some ⟨w.heap.size, 0, none⟩), .pointer (some ⟨w.heap.size + 2, 0, none⟩)]) ∧
    w' = ((w.alloc (.cells #[.string s] 9)).alloc (.cells #[.string ⟨#[47]⟩] 9)).alloc (.cells #[.int .i64 0] 3) := by
    go_enter Tryd.func44, Tryd.ntmps44
    go_wp2
    go_ret
    exact ⟨by simp, rfl⟩
  go_enter Tryd.func34, Tryd.ntmps34
  go_wp2_with (refine inner.mono ?_; rintro e w' ⟨rfl, rfl⟩)
  go_ret
  exact ⟨rfl, rfl⟩
end Go.Proofs.YtlohadencnpdgaaDoor
namespace Go.Proofs.YtlohadencnpdgaaDoor
open Go Vc Go.Proofs Go.RowKit Go.Shelf
attribute [local go_sem] Oper.semAt_some

theorem toList_nil : (⟨#[]⟩ : ByteArray).toList = [] := by rw [ByteArray.toList_eq]
theorem toList_dot : (⟨#[46]⟩ : ByteArray).toList = [46] := by rw [ByteArray.toList_eq]
theorem toList_dots : (⟨#[46, 46]⟩ : ByteArray).toList = [46, 46] := by rw [ByteArray.toList_eq]
def partOK (p : ByteArray) : Bool := decide (p ≠ ⟨#[]⟩) && decide (p ≠ ⟨#[46]⟩) && decide (p ≠ ⟨#[46, 46]⟩)
def cleanB (s : ByteArray) : Bool := decide (s.size ≤ 200) && (partsF s.size s).all partOK && printB s
set_option maxRecDepth 100000 in
set_option maxHeartbeats 2000000 in
theorem clean_spec (s : ByteArray) (hs : s.size ≤ 140737488355328) (w : World) : Calls Tryd.prog 28 #[.string s] w fun e w' => e = .returned (.bool (cleanB s)) ∧ Fr (fun _ => False) w w' := by
  refine (callsIn_wide (n := 3)).1 ?_
  refine callsIn_of_wp_marks Tryd.func28 rfl trivial ?_ rfl
  simp only [Tryd.ntmps28, List.size_toArray, List.length_cons, List.length_nil, Nat.reduceAdd, Nat.reduceSub, Array.replicate_succ, Array.replicate_zero, List.push_toArray, List.append_toArray, List.nil_append, List.cons_append]
  have hcell0 : (w.alloc (.cells #[.bool false] 4)).cell? ⟨w.heap.size, 0, none⟩ = some (.bool false) := by rw [cell_blk (alloc_new w _)]; rfl
  by_cases hlen : s.size > 200
  · gi_wp2
    refine ⟨.bool false, ?_, ?_, .alloc _ _ _⟩
    · simp [results, Tryd.f28, go_sem, hcell0]
    · unfold cleanB
      rw [decide_eq_false (by omega)]; rfl
  · gi_wp2_with (refine ⟨trivial, ?_⟩; gi_at_call 34; refine (callsIn_wide.2 (splitSeq_spec s _)).mono ?_; rintro e w' ⟨rfl, rfl⟩)
    obtain ⟨w0, hw0⟩ : ∃ w0, w.alloc (.cells #[.bool false] 4) = w0 := ⟨_, rfl⟩
    have hsz : w0.heap.size = w.heap.size + 1 := by rw [← hw0]; simp
    have hb0 : w0.heap[w.heap.size]? = some (.cells #[.bool false] 4 (0, 0)) := by rw [← hw0]; exact alloc_new _ _
    have hf0 : Fr (fun _ => False) w w0 := by rw [← hw0]; exact .alloc _ _ _
    rw [hw0]
    obtain ⟨w1, hw1⟩ : ∃ w1, ((w0.alloc (.cells #[.string s] 9)).alloc (.cells #[.string ⟨#[47]⟩] 9)).alloc (.cells #[.int .i64 0] 3) = w1 := ⟨_, rfl⟩
    have hf1 : Fr (fun _ => False) w0 w1 := by rw [← hw1]; exact ((Fr.alloc _ _ _).trans' (.alloc _ _ _)).trans' (.alloc _ _ _)
    have n1 : (w0.alloc (.cells #[.string s] 9)).heap.size = w.heap.size + 1 + 1 := by simp [hsz]
    have n2 : ((w0.alloc (.cells #[.string s] 9)).alloc (.cells #[.string ⟨#[47]⟩] 9)).heap.size = w.heap.size + 1 + 2 := by simp [hsz]
    have hbs : w1.heap[w.heap.size + 1]? = some (.cells #[.string s] 9 (0, 0)) := by
      rw [← hw1, ← hsz]
      exact (Fr.alloc (fun _ => False) _ _).keep ((Fr.alloc (fun _ => False) _ _).keep (alloc_new w0 _) (by simp)) (by simp)
    have hbp : w1.heap[w.heap.size + 1 + 1]? = some (.cells #[.string ⟨#[47]⟩] 9 (0, 0)) := by
      rw [← hw1, ← n1]
      exact (Fr.alloc (fun _ => False) _ _).keep (alloc_new _ _) (by simp)
    have hbz : w1.heap[w.heap.size + 1 + 2]? = some (.cells #[.int .i64 0] 3 (0, 0)) := by
      rw [← hw1, ← n2]
      exact alloc_new _ _
    rw [hw1]
    clear hw1 n1 n2 hw0
    refine range_split (B := w.heap.size + 1) (b0 := w.heap.size + 1 + 1) (b1 := w.heap.size + 1) (b2 := w.heap.size + 1 + 2) (by omega) (by omega) (by omega) (by omega) (by omega) rfl s hs
      (by rw [cell_blk hbp]; rfl) (by rw [cell_blk hbs]; rfl) (by rw [cell_blk hbz]; rfl) (frozen_blk hbs 0)
      (fun pre W => (∀ p ∈ pre, partOK p = true) ∧ W.heap[w.heap.size]? = some (.cells #[.bool false] 4 (0, 0)) ∧ Fr (fun _ => False) w W)
      (fun pre W => (∃ p ∈ partsF s.size s, partOK p = false) ∧ W.cell? ⟨w.heap.size, 0, none⟩ = some (.bool false) ∧ Fr (fun _ => False) w W)
      (fun pre W W' ⟨h1, h2, h3⟩ hf => ⟨h1, hf.keep h2 (by omega), h3.trans hf fun q hq h => by omega⟩)
      (fun pre W W' ⟨h1, h2, h3⟩ hf => ⟨h1, hf.cell h2 (by simp only; omega), h3.trans hf fun q hq h => by omega⟩)
      ⟨by simp, hf1.keep hb0 (by simp), hf0.trans' hf1⟩
      (fun x => { tmps := #[.string s, undef, .pointer (some ⟨w.heap.size, 0, none⟩), .string x, .string s, .int .i64 s.size, .bool (decide (200 < (s.size : Int))), .string s, .func (.func 54) #[] #[.pointer (some ⟨w.heap.size + 1 + 1, 0, none⟩), .pointer (some ⟨w.heap.size + 1, 0, none⟩), .pointer (some ⟨w.heap.size + 1 + 2, 0, none⟩)], .string x, undef, undef, undef, undef, undef, undef, undef, undef, undef, undef, undef, undef, undef], defers := [] }) ?assign ?body ?done ?stop
    case assign =>
      intro l x W K hK
      gi_wp2
      exact hK
    case body =>
      rintro l pre x W ⟨hp, hcell, hf⟩ hr
      have hcc : W.cell? ⟨w.heap.size, 0, none⟩ = some (.bool false) := by rw [cell_blk hcell]; rfl
      have hcz : W.frozen? ⟨w.heap.size, 0, none⟩ = false := frozen_blk hcell 0
      have k1 : x.toList.isEmpty = decide (x = ⟨#[]⟩) := by
        rw [← bs_eq, toList_nil]
        cases x.toList <;> rfl
      have k2 : (x.toList == [46]) = decide (x = ⟨#[46]⟩) := by rw [← bs_eq, toList_dot]
      have k3 : (x.toList == [46, 46]) = decide (x = ⟨#[46, 46]⟩) := by rw [← bs_eq, toList_dots]
      have ret : partOK x = false → Fr (fun k => k < w.heap.size + 1) W (W.setCell ⟨w.heap.size, 0, none⟩ (.bool false)) ∧ (∃ p ∈ partsF s.size s, partOK p = false) ∧ (W.setCell ⟨w.heap.size, 0, none⟩ (.bool false)).cell? ⟨w.heap.size, 0, none⟩ = some (.bool false) ∧ Fr (fun _ => False) w (W.setCell ⟨w.heap.size, 0, none⟩ (.bool false)) := fun hx =>
        ⟨Fr.set _ _ _ (Nat.lt_succ_self _), ⟨x, by obtain ⟨r, hr⟩ := hr; rw [← hr]; simp, hx⟩, World.cell?_setCell_same' _ _ _ (by rw [hcc]; rfl), hf.trans (Fr.set (· = w.heap.size) _ _ rfl) fun q hq e => by omega⟩
      gi_wp2
      · rename_i hx
        exact ret (by unfold partOK; rw [hx]; rfl)
      · rename_i hx
        exact ret (by unfold partOK; rw [hx]; rfl)
      · rename_i hx
        exact ret (by unfold partOK; rw [hx]; rfl)
      · have h1 : ¬ x = ⟨#[]⟩ := by assumption
        have h2 : ¬ x = ⟨#[46]⟩ := by assumption
        have h3 : ¬ x = ⟨#[46, 46]⟩ := by assumption
        refine ⟨.refl _ _, fun p hpm => ?_, hcell, hf⟩
        rcases List.mem_append.1 hpm with hpm | hpm
        · exact hp p hpm
        · simp only [List.mem_cons, List.mem_nil_iff, or_false] at hpm
          subst hpm
          unfold partOK
          simp [h1, h2, h3]
    case done =>
      rintro D W hD ⟨hall, hcell, hf⟩ hK
      have hcc : W.cell? ⟨w.heap.size, 0, none⟩ = some (.bool false) := by rw [cell_blk hcell]; rfl
      have hcz : W.frozen? ⟨w.heap.size, 0, none⟩ = false := frozen_blk hcell 0
      gi_wp2_with (refine ⟨trivial, ?_⟩; gi_at_call 35; refine (callsIn_wide.2 (containsFunc_spec s _)).mono ?_; rintro e w' ⟨rfl, hf'⟩; have hcc' := hf'.cell hcc (by simp); have hcz' := frozen_blk (hf'.keep hcell (by simp)) 0)
      have hne : D ≠ w.heap.size := by have := hf1.size; omega
      have hst : Fr (· = w.heap.size) w' (w'.setCell ⟨w.heap.size, 0, none⟩ (.bool (printB s))) := .set _ _ _ rfl
      have hK' := hst.keep (hf'.keep hK (by simp)) hne
      refine ⟨by simp, .inl ⟨_, _, rfl, run_takeDeferred hK', ?_⟩⟩
      have hpt : Fr (· = D) (w'.setCell ⟨w.heap.size, 0, none⟩ (.bool (printB s))) ((w'.setCell ⟨w.heap.size, 0, none⟩ (.bool (printB s))).putObj D (.deferred none)) := (Fr.grown (grownBy_putObj' _ D _)).mono fun q _ h => by cases h; rfl
      have hc5 := hpt.cell (World.cell?_setCell_same' w' ⟨w.heap.size, 0, none⟩ (.bool (printB s)) (by rw [hcc']; rfl)) (fun h => hne h.symm)
      refine ⟨.bool (printB s), ?_, ?_, ?_⟩
      · simp [results, Tryd.f28, go_sem, hc5]
      · have : (partsF s.size s).all partOK = true := List.all_eq_true.2 hall
        unfold cleanB
        rw [this, decide_eq_true (by omega)]; rfl
      · have h1 := (hf.trans' hf').size
        have h2 := (hf0.trans' hf1).size
        exact ((hf.trans' hf').trans hst fun q hq e => by omega).trans hpt fun q hq e => by omega
    case stop =>
      rintro D pre W hD ⟨⟨p, hpm, hpb⟩, hcell, hf⟩ hK
      have hne : D ≠ w.heap.size := by have := hf1.size; omega
      gi_wp2
      refine ⟨by simp, .inl ⟨_, _, rfl, run_takeDeferred hK, ?_⟩⟩
      have hpt : Fr (· = D) W (W.putObj D (.deferred none)) := (Fr.grown (grownBy_putObj' _ D _)).mono fun q _ h => by cases h; rfl
      have hc5 := hpt.cell hcell (fun h => hne h.symm)
      refine ⟨.bool false, ?_, ?_, ?_⟩
      · simp [results, Tryd.f28, go_sem, hc5]
      · have : (partsF s.size s).all partOK = false := by
          rw [← Bool.not_eq_true, List.all_eq_true]
          intro h
          rw [h p hpm] at hpb; cases hpb
        unfold cleanB
        rw [this]; simp
      · have h2 := (hf0.trans' hf1).size
        exact hf.trans hpt fun q hq e => by omega
end Go.Proofs.YtlohadencnpdgaaDoor

/- Slices of bytes of this seat. No condition. -/
set_option linter.unusedVariables false
namespace Go.Proofs.YtlohadencnpdgaaDoor
open Go Vc Go.Proofs

theorem elByte : El Tryd.prog T_S_uint8 T_uint8 (.int .u8 0) 1 := ⟨by kernel_rfl, by kernel_rfl, rfl⟩
theorem elByteH : El Tryd.prog T_S_uint8 T_uint8 (.int .u8 0) 1 := elByte
theorem own_empty (w : World) (e : TypeId) : Vc.Own (w.alloc (.cells #[] e)) w.heap.size e ⟨some ⟨w.heap.size, 0, none⟩, 0, 0⟩ [] :=
  ⟨rfl, .inr ⟨w.heap.size, #[], rfl, Nat.le_refl _, alloc_new _ _, Nat.le_refl _, Nat.zero_le _, rfl, rfl⟩⟩
theorem byteV_one (l : List UInt8) : ∀ u ∈ byteV l, u.oneCell' = true := fun u h => by
  obtain ⟨b, _, rfl⟩ := List.mem_map.1 h; rfl
end Go.Proofs.YtlohadencnpdgaaDoor

/- Numbers as bytes, Adler's sum: in plain. No condition. -/
set_option linter.unusedVariables false
namespace SumM
/-- One byte more. -/
def adl1 (x : Nat × Nat) (c : UInt8) : Nat × Nat := ((x.1 + c.toNat) % 65521, (x.2 + (x.1 + c.toNat) % 65521) % 65521)
def adl (l : List UInt8) : Nat × Nat := l.foldl adl1 (1, 0)
/-- Adler's sum. -/
def adler (l : List UInt8) : Nat := 65536 * (adl l).2 + (adl l).1
theorem adl_snoc (l : List UInt8) (c : UInt8) : adl (l ++ [c]) = adl1 (adl l) c := by
  unfold adl; rw [List.foldl_append]; rfl
theorem adl_lt (l : List UInt8) : (adl l).1 < 65521 ∧ (adl l).2 < 65521 := by
  rcases List.eq_nil_or_concat l with rfl | ⟨r, c, rfl⟩
  · decide
  · rw [List.concat_eq_append, adl_snoc]
    exact ⟨Nat.mod_lt _ (by decide), Nat.mod_lt _ (by decide)⟩
theorem adler_lt (l : List UInt8) : adler l < 4294967296 := by
  have := adl_lt l
  unfold adler; omega
/-- The highest first, of n bytes. -/
def bigB (n x : Nat) : List UInt8 := (List.range n).map fun i => UInt8.ofNat (x / 256 ^ (n - 1 - i))
/-- The lowest first. -/
def littleB (n x : Nat) : List UInt8 := (List.range n).map fun i => UInt8.ofNat (x / 256 ^ i)
theorem bigB_length (n x : Nat) : (bigB n x).length = n := by simp [bigB]
theorem littleB_length (n x : Nat) : (littleB n x).length = n := by simp [littleB]
theorem littleB_succ (n x : Nat) : littleB (n + 1) x = littleB n x ++ [UInt8.ofNat (x / 256 ^ n)] := by
  unfold littleB; rw [List.range_succ, List.map_append]; rfl
theorem big_little (n x : Nat) : (littleB n x).reverse = bigB n x := by
  refine List.ext_getElem (by simp [bigB, littleB]) fun k h1 h2 => ?_
  rw [bigB_length] at h2
  simp only [List.getElem_reverse, littleB, bigB, List.getElem_map, List.getElem_range, List.length_map, List.length_range]
/-- The number of bytes, the highest first. -/
def num8 (l : List UInt8) : Nat := l.foldl (fun x c => 256 * x + c.toNat) 0
theorem num8_snoc (l : List UInt8) (c : UInt8) : num8 (l ++ [c]) = 256 * num8 l + c.toNat := by
  unfold num8; rw [List.foldl_append]; rfl
theorem num8_lt : ∀ (n : Nat) (l : List UInt8), l.length = n → num8 l < 256 ^ n
  | 0, l, h => by
    have : l = [] := List.length_eq_zero_iff.1 h
    subst this; decide
  | n + 1, l, h => by
    rcases List.eq_nil_or_concat l with rfl | ⟨r, c, rfl⟩
    · cases h
    · rw [List.concat_eq_append] at h ⊢
      rw [List.length_append, List.length_singleton] at h
      have h1 := num8_lt n r (by omega)
      have h2 := c.toNat_lt
      rw [num8_snoc, Nat.pow_succ]
      omega
theorem ofNat_eq {x y : Nat} (h : x % 256 = y % 256) : UInt8.ofNat x = UInt8.ofNat y := by
  rw [← UInt8.toNat_inj]; simpa using h
theorem bigB_succ (n x : Nat) : bigB (n + 1) x = bigB n (x / 256) ++ [UInt8.ofNat x] := by
  unfold bigB
  rw [List.range_succ, List.map_append]
  congr 1
  · refine List.map_congr_left fun i hi => ?_
    have hi := List.mem_range.1 hi
    rw [Nat.div_div_eq_div_mul, show n + 1 - 1 - i = (n - 1 - i) + 1 by omega, Nat.pow_succ, Nat.mul_comm]
  · simp
/-- A number of so many bytes says these bytes. -/
theorem bigB_num8 : ∀ (n : Nat) (l : List UInt8), l.length = n → bigB n (num8 l) = l
  | 0, l, h => by
    have : l = [] := List.length_eq_zero_iff.1 h
    subst this; rfl
  | n + 1, l, h => by
    rcases List.eq_nil_or_concat l with rfl | ⟨r, c, rfl⟩
    · cases h
    · rw [List.concat_eq_append] at h ⊢
      rw [List.length_append, List.length_singleton] at h
      have h2 := c.toNat_lt
      rw [num8_snoc, bigB_succ, show (256 * num8 r + c.toNat) / 256 = num8 r by omega, bigB_num8 n r (by omega)]
      congr 2
      rw [← UInt8.toNat_inj]
      simp
theorem num8_bigB : ∀ (n x : Nat), x < 256 ^ n → num8 (bigB n x) = x
  | 0, x, h => by have : x = 0 := by simpa using h
                  subst this; rfl
  | n + 1, x, h => by
    rw [Nat.pow_succ] at h
    rw [bigB_succ, num8_snoc, num8_bigB n (x / 256) (by omega)]
    simp; omega
end SumM
namespace Go.Proofs.YtlohadencnpdgaaDoor
open Go Vc SumM Go.Proofs

theorem take_byt (s : ByteArray) {n : Nat} (h : n < s.size) : s.data.toList.take (n + 1) = s.data.toList.take n ++ [UInt8.ofNat (byt s n)] := by
  have hlt : n < s.data.toList.length := by simp only [Array.length_toList]; exact h
  have hb : byt s n = (s.data.toList[n]).toNat := by unfold byt; rw [List.getElem?_eq_getElem hlt]; rfl
  rw [List.take_succ_eq_append_getElem hlt, hb, UInt8.ofNat_toNat]
theorem take_size (s : ByteArray) : s.data.toList.take s.size = s.data.toList := List.take_of_length_le (by simp)
theorem toNat_byt (s : ByteArray) (n : Nat) : (UInt8.ofNat (byt s n)).toNat = byt s n := by
  have := byt_lt s n
  simp; omega
theorem byteV_wrap (l : List UInt8) (z : Int) (hz : 0 ≤ z) : byteV l ++ [.int .u8 (IntKind.u8.wrap z)] = byteV (l ++ [UInt8.ofNat z.toNat]) := by
  obtain ⟨x, rfl⟩ := Int.eq_ofNat_of_zero_le hz
  rw [wrap_u8_mod, show ((x : Int) % 256) = ((x % 256 : Nat) : Int) by omega, byteV_snoc l (x % 256) (Nat.mod_lt _ (by decide)), Int.toNat_natCast, ofNat_eq (Nat.mod_mod _ _)]
theorem shift_byte (x k : Nat) : Int.fdiv (x : Int) (2 ^ min (((8 * k : Nat) : Int)).toNat 64) = (if k ≤ 8 then ((x / 256 ^ k : Nat) : Int) else ((x / 2 ^ 64 : Nat) : Int)) := by
  have hc : ∀ j : Nat, (2 : Int) ^ j = ((2 ^ j : Nat) : Int) := fun j => by push_cast; rfl
  split
  · rw [show min (((8 * k : Nat) : Int)).toNat 64 = 8 * k by omega, hc, Int.fdiv_eq_ediv_of_nonneg _ (Int.natCast_nonneg _), ← Int.natCast_ediv, Nat.pow_mul]
  · rw [show min (((8 * k : Nat) : Int)).toNat 64 = 64 by omega, hc, Int.fdiv_eq_ediv_of_nonneg _ (Int.natCast_nonneg _), ← Int.natCast_ediv]
theorem bigB_get {n x i : Nat} (h : i < n) : (bigB n x).take (i + 1) = (bigB n x).take i ++ [UInt8.ofNat (x / 256 ^ (n - 1 - i))] := by
  rw [List.take_succ_eq_append_getElem (by rw [bigB_length]; exact h)]
  simp [bigB]
theorem pow_big {x k : Nat} (hx : x < 18446744073709551616) (h : 8 ≤ k) : x / 256 ^ k = 0 := by
  refine Nat.div_eq_of_lt ?_
  have : 256 ^ 8 ≤ 256 ^ k := Nat.pow_le_pow_right (by decide) h
  omega
theorem littleB_get {n x i : Nat} (h : i < n) : (littleB n x).take (i + 1) = (littleB n x).take i ++ [UInt8.ofNat (x / 256 ^ i)] := by
  rw [List.take_succ_eq_append_getElem (by rw [littleB_length]; exact h)]
  simp [littleB]
end Go.Proofs.YtlohadencnpdgaaDoor

/- Numbers of 32 and 64 bits as bit vectors. No condition. -/
set_option linter.unusedVariables false
namespace Vc
open Go
section
theorem u_of (x : BitVec 32) : BitVec.ofInt 32 (x.toNat : Int) = x := by
  rw [BitVec.ofInt_natCast]; simp
theorem u_wrap (x : BitVec 32) : IntKind.u32.wrap (x.toNat : Int) = (x.toNat : Int) := by
  have := x.isLt
  exact wrap_u32 (by omega) (by omega)
theorem u_add (x y : BitVec 32) : IntKind.u32.wrap ((x.toNat : Int) + (y.toNat : Int)) = ((x + y).toNat : Int) := by
  rw [wrap_u32_mod, BitVec.toNat_add]; omega
theorem u_shl (x : BitVec 32) (k : Nat) (hk : k ≤ 32) : IntKind.u32.wrap ((x.toNat : Int) * 2 ^ (min k 32)) = ((x <<< k).toNat : Int) := by
  have hp : (2 : Int) ^ k = ((2 ^ k : Nat) : Int) := by push_cast; rfl
  rw [Nat.min_eq_left hk, wrap_u32_mod, BitVec.toNat_shiftLeft, Nat.shiftLeft_eq, hp, ← Int.natCast_mul]
  generalize x.toNat * 2 ^ k = z
  show (z : Int) % 4294967296 = ((z % 4294967296 : Nat) : Int)
  omega
theorem u_shr (x : BitVec 32) (k : Nat) (hk : k ≤ 32) : Int.fdiv (x.toNat : Int) (2 ^ (min k 32)) = ((x >>> k).toNat : Int) := by
  have hp : (2 : Int) ^ k = ((2 ^ k : Nat) : Int) := by push_cast; rfl
  rw [Nat.min_eq_left hk, hp, Int.fdiv_eq_ediv_of_nonneg _ (Int.natCast_nonneg _), ← Int.natCast_ediv, BitVec.toNat_ushiftRight, Nat.shiftRight_eq_div_pow]
end
end Vc

/- Formulas of 3 Go functions of this seat (written by a program of the author's, vcgen.py), and that each is enough for the call. No condition. -/
set_option linter.unusedVariables false
namespace Go.Proofs.YtlohadencnpdgaaDoor
open Go Vc Go.Proofs
set_option maxRecDepth 100000
/-- (*sums.Crc).Write -/
def vc_sums_Crc_Write (x0 : Nat) (x1 : ByteArray) (w : World) (R : Value → World → Prop) : Prop :=
  ∃ n1 : Int, (World.cell? w (Addr.mk x0 0 none) = some (Value.int IntKind.u32 n1) ∧
   ∃ I2 : Int → Int → World → Prop, ∃ I3 : Int → Int → World → Nat, ((I2 (IntKind.wrap IntKind.u32 (↑(BitVec.toNat (BitVec.ofInt 32 (if IntKind.signed IntKind.u32 = true then -1 else Int.ofNat (2 ^ 32 - Nat.succ 0)) ^^^ BitVec.ofInt 32 n1)) : Int)) 0 w) ∧
    ∀ n4 : Int,
    ∀ n5 : Int,
    ∀ w6 : World,
    (I2 n4 n5 w6 →
      (((decide (n5 < (↑(ByteArray.size x1) : Int)) = true →
         ((0 ≤ n5 ∧
           n5 < (↑(ByteArray.size x1) : Int)) ∧
          ∃ I7 : Int → Int → World → Prop, ∃ I8 : Int → Int → World → Nat, (I7 (IntKind.wrap IntKind.u32 (↑(BitVec.toNat (BitVec.ofInt 32 n4 ^^^ BitVec.ofInt 32 (IntKind.wrap IntKind.u32 (byteAt x1 n5)))) : Int)) 0 w6 ∧
           ∀ n9 : Int,
           ∀ n10 : Int,
           ∀ w11 : World,
           (I7 n9 n10 w11 →
             (((decide (n10 < 8) = true →
                ((0 : Int) ≤ (1 : Int) ∧
                 (I7 (IntKind.wrap IntKind.u32 (↑(BitVec.toNat (BitVec.ofInt 32 (Int.fdiv n9 (2 ^ min (Int.toNat 1) 32)) ^^^ BitVec.ofInt 32 (IntKind.wrap IntKind.u32 (↑(BitVec.toNat (BitVec.ofInt 32 3988292384 &&& BitVec.ofInt 32 (IntKind.wrap IntKind.u32 (0 - IntKind.wrap IntKind.u32 (↑(BitVec.toNat (BitVec.ofInt 32 n9 &&& BitVec.ofInt 32 1)) : Int))))) : Int)))) : Int)) (IntKind.wrap IntKind.i64 (n10 + 1)) w11 ∧
                  I8 (IntKind.wrap IntKind.u32 (↑(BitVec.toNat (BitVec.ofInt 32 (Int.fdiv n9 (2 ^ min (Int.toNat 1) 32)) ^^^ BitVec.ofInt 32 (IntKind.wrap IntKind.u32 (↑(BitVec.toNat (BitVec.ofInt 32 3988292384 &&& BitVec.ofInt 32 (IntKind.wrap IntKind.u32 (0 - IntKind.wrap IntKind.u32 (↑(BitVec.toNat (BitVec.ofInt 32 n9 &&& BitVec.ofInt 32 1)) : Int))))) : Int)))) : Int)) (IntKind.wrap IntKind.i64 (n10 + 1)) w11 < I8 n9 n10 w11)))) ∧
              (decide (n10 < 8) = false →
                (I2 n9 (IntKind.wrap IntKind.i64 (n5 + 1)) w11 ∧
                 I3 n9 (IntKind.wrap IntKind.i64 (n5 + 1)) w11 < I3 n4 n5 w6)))))))) ∧
       (decide (n5 < (↑(ByteArray.size x1) : Int)) = false →
         (Wr w6 (Addr.mk x0 0 none) ∧
          ∀ w12 : World,
          ((w12 = World.setCell w6 (Addr.mk x0 0 none) (Value.int IntKind.u32 (IntKind.wrap IntKind.u32 (↑(BitVec.toNat (BitVec.ofInt 32 (if IntKind.signed IntKind.u32 = true then -1 else Int.ofNat (2 ^ 32 - Nat.succ 0)) ^^^ BitVec.ofInt 32 n4)) : Int)))) →
            R (Value.tuple (Array.mk [])) w12)))))))
theorem vc_sums_Crc_Write_ok {x0 : Nat} {x1 : ByteArray} {w : World} {R : Value → World → Prop} {R' : Ending → World → Prop} (h : vc_sums_Crc_Write x0 x1 w R) (hR : ∀ v w', R v w' → R' (.returned v) w') :
    Calls Tryd.prog 29 #[.pointer (some ⟨x0, 0, none⟩), .string x1] w R' :=
  calls_of_body (vs := [(.pointer (some ⟨x0, 0, none⟩), true), (.string x1, false)]) (ty := ty) (ann := ⟨[], [(2, [(4, .int .u32), (13, .int .i64)]), (6, [(4, .int .u32), (22, .int .i64)])], [], []⟩) (c := Tryd.f29.body.getD .skip) (by kernel_rfl) Tryd.func29 (by kernel_rfl) (by kernel_rfl) (Eq.mp (by kernel_rfl) h) hR
/-- (*sums.Crc).Sum -/
def vc_sums_Crc_Sum (x0 : Nat) (w : World) (R : Value → World → Prop) : Prop :=
  ∃ n1 : Int, (World.cell? w (Addr.mk x0 0 none) = some (Value.int IntKind.u32 n1) ∧
   R (Value.int IntKind.u32 n1) w)
theorem vc_sums_Crc_Sum_ok {x0 : Nat} {w : World} {R : Value → World → Prop} {R' : Ending → World → Prop} (h : vc_sums_Crc_Sum x0 w R) (hR : ∀ v w', R v w' → R' (.returned v) w') :
    Calls Tryd.prog 30 #[.pointer (some ⟨x0, 0, none⟩)] w R' :=
  calls_of_body (vs := [(.pointer (some ⟨x0, 0, none⟩), true)]) (ty := ty) (ann := ⟨[], [], [], []⟩) (c := Tryd.f30.body.getD .skip) (by kernel_rfl) Tryd.func30 (by kernel_rfl) (by kernel_rfl) (Eq.mp (by kernel_rfl) h) hR
/-- sums.Crc32 -/
def vc_sums_Crc32 (x0 : ByteArray) (w : World) (R : Value → World → Prop) : Prop :=
  ∀ w1 : World,
  (w1 = World.alloc w (Obj.cells (Array.mk [Value.int IntKind.u32 0]) 64) →
    Calls Tryd.prog (29 : Nat) (Array.mk [Value.pointer (some (Addr.mk (Array.size (World.heap w)) 0 none)), Value.string x0]) (w1) (fun e2 w3 =>
      (e2 = Ending.returned (Value.tuple (Array.mk [])) ∧
       Calls Tryd.prog (30 : Nat) (Array.mk [Value.pointer (some (Addr.mk (Array.size (World.heap w)) 0 none))]) (w3) (fun e4 w5 =>
         ∃ n6 : Int, (e4 = Ending.returned (Value.int IntKind.u32 n6) ∧
          R (Value.int IntKind.u32 n6) w5)))))
theorem vc_sums_Crc32_ok {x0 : ByteArray} {w : World} {R : Value → World → Prop} {R' : Ending → World → Prop} (h : vc_sums_Crc32 x0 w R) (hR : ∀ v w', R v w' → R' (.returned v) w') :
    Calls Tryd.prog 23 #[.string x0] w R' :=
  calls_of_body (vs := [(.string x0, false)]) (ty := ty) (ann := ⟨[], [], [], []⟩) (c := Tryd.f23.body.getD .skip) (by kernel_rfl) Tryd.func23 (by kernel_rfl) (by kernel_rfl) (Eq.mp (by kernel_rfl) h) hR
end Go.Proofs.YtlohadencnpdgaaDoor

/- sums.Crc32, as a function on words. No condition. -/
set_option linter.unusedVariables false
namespace Go.Proofs.YtlohadencnpdgaaDoor
open Go Vc Go.Proofs

def crcBit (c : BitVec 32) : BitVec 32 := (c >>> 1) ^^^ (3988292384#32 &&& (0 - (c &&& 1#32)))
def crcBits : Nat → BitVec 32 → BitVec 32
  | 0, c => c
  | n + 1, c => crcBit (crcBits n c)
def crcByte (c : BitVec 32) (b : UInt8) : BitVec 32 := crcBits 8 (c ^^^ BitVec.ofInt 32 ((b.toNat : Nat) : Int))
def crcRun (l : List UInt8) : BitVec 32 := l.foldl crcByte (BitVec.allOnes 32 ^^^ 0#32)
/-- The cyclic sum. -/
def crcW (l : List UInt8) : BitVec 32 := BitVec.allOnes 32 ^^^ crcRun l
theorem u_neg (x : BitVec 32) : IntKind.u32.wrap (0 - (x.toNat : Int)) = ((0 - x).toNat : Int) := by
  have := x.isLt
  rw [wrap_u32_mod, BitVec.toNat_sub]
  show (0 - (x.toNat : Int)) % 4294967296 = (((4294967296 - x.toNat + 0) % 4294967296 : Nat) : Int)
  omega
theorem crcBit_int (c : BitVec 32) : IntKind.u32.wrap (BitVec.toNat (BitVec.ofInt 32 (Int.fdiv (c.toNat : Int) (2 ^ min (Int.toNat 1) 32)) ^^^ BitVec.ofInt 32 (IntKind.u32.wrap (BitVec.toNat (BitVec.ofInt 32 3988292384 &&& BitVec.ofInt 32 (IntKind.u32.wrap (0 - IntKind.u32.wrap (BitVec.toNat (BitVec.ofInt 32 (c.toNat : Int) &&& BitVec.ofInt 32 1) : Int)))) : Int))) : Int) = ((crcBit c).toNat : Int) := by
  have h1 : Int.toNat 1 = 1 := rfl
  have e1 : BitVec.ofInt 32 1 = 1#32 := rfl
  have e2 : BitVec.ofInt 32 3988292384 = 3988292384#32 := rfl
  rw [h1, u_shr c 1 (by decide), u_of, u_of, e1, e2, u_wrap (c &&& 1#32), u_neg, u_of, u_wrap (3988292384#32 &&& (0 - (c &&& 1#32))), u_of, u_wrap]
  rfl
theorem ones_not : BitVec.ofInt 32 (if IntKind.signed IntKind.u32 = true then -1 else Int.ofNat (2 ^ 32 - Nat.succ 0)) = BitVec.allOnes 32 := by decide
theorem crcWrite_spec {w : World} {b : Nat} {T : TypeId} (hb : w.heap[b]? = some (.cells #[.int .u32 0] T (0, 0))) (s : ByteArray) (hs : s.size ≤ 140737488355328) : Calls Tryd.prog F_sums_Crc_Write #[.pointer (some ⟨b, 0, none⟩), .string s] w fun e w' =>
    e = .returned (.tuple #[]) ∧ w' = w.setCell ⟨b, 0, none⟩ (.int .u32 ((crcW s.data.toList).toNat : Int)) := by
  refine vc_sums_Crc_Write_ok (R := fun v w' => v = .tuple #[] ∧ w' = w.setCell ⟨b, 0, none⟩ (.int .u32 ((crcW s.data.toList).toNat : Int))) ?_ (fun v w' h => ⟨by rw [h.1], h.2⟩)
  obtain ⟨L, hL⟩ : ∃ L, s.data.toList = L := ⟨_, rfl⟩
  have hLl : L.length = s.size := by rw [← hL, bs_len]
  have e0 : BitVec.ofInt 32 0 = 0#32 := rfl
  refine ⟨0, by rw [cell_blk hb]; rfl, fun c i w' => ∃ k : Nat, i = k ∧ k ≤ L.length ∧ c = ((crcRun (L.take k)).toNat : Int) ∧ w' = w, fun _ i _ => L.length - i.toNat, ⟨0, rfl, Nat.zero_le _, by rw [ones_not, e0, u_wrap]; rfl, rfl⟩, ?_⟩
  rintro c i w6 ⟨k, rfl, hk, rfl, hw⟩
  subst hw
  refine ⟨fun hlt => ?_, fun hge => ?_⟩
  · have hlt := of_decide_eq_true hlt
    have hkl : k < L.length := by omega
    have htk : L.take (k + 1) = L.take k ++ [L[k]] := (List.take_append_getElem hkl).symm
    have hbk : byteAt s (k : Int) = (((L[k]).toNat : Nat) : Int) := by
      rw [byteAt_nat, bs_byt (by omega)]
      have : s.data.toList[k]? = some L[k] := by rw [hL]; exact List.getElem?_eq_getElem hkl
      rw [List.getElem?_eq_getElem (by rw [bs_len]; omega)] at this
      rw [Option.some.inj this]
    generalize L[k] = x at htk hbk
    have hx := UInt8.toNat_lt x
    have e1 : IntKind.i64.wrap ((k : Int) + 1) = ((k + 1 : Nat) : Int) := by rw [wrap_i64 (by omega) (by omega)]; omega
    rw [hbk, e1, wrap_u32 (x := ((x.toNat : Nat) : Int)) (by omega) (by omega), u_of, u_wrap]
    refine ⟨⟨by omega, by omega⟩, fun c j w' => ∃ q : Nat, j = q ∧ q ≤ 8 ∧ c = ((crcBits q (crcRun (L.take k) ^^^ BitVec.ofInt 32 ((x.toNat : Nat) : Int))).toNat : Int) ∧ w' = w6, fun _ j _ => 8 - j.toNat, ⟨0, rfl, by decide, rfl, rfl⟩, ?_⟩
    rintro c j w11 ⟨q, rfl, hq, rfl, hw⟩
    subst hw
    have e2 : IntKind.i64.wrap ((q : Int) + 1) = ((q + 1 : Nat) : Int) := by rw [wrap_i64 (by omega) (by omega)]; omega
    rw [crcBit_int, e2]
    refine ⟨fun hlt8 => ⟨by decide, ⟨q + 1, rfl, by have := of_decide_eq_true hlt8; omega, rfl, rfl⟩, by have := of_decide_eq_true hlt8; dsimp only; omega⟩, fun hge8 => ?_⟩
    have hq8 : q = 8 := by have := of_decide_eq_false hge8; omega
    subst hq8
    refine ⟨⟨k + 1, rfl, by omega, ?_, rfl⟩, by dsimp only; omega⟩
    rw [htk]
    unfold crcRun
    rw [List.foldl_append]
    rfl
  · have hge := of_decide_eq_false hge
    have hk' : k = L.length := by omega
    rw [hk', List.take_length]
    refine ⟨wr_blk hb (by simp), fun w12 h12 => ⟨rfl, ?_⟩⟩
    rw [ones_not, u_of, u_wrap] at h12
    rw [h12, hL]; rfl
theorem crc32_spec (s : ByteArray) (hs : s.size ≤ 140737488355328) (w : World) : Calls Tryd.prog F_sums_Crc32 #[.string s] w fun e w' => e = .returned (.int .u32 ((crcW s.data.toList).toNat : Int)) ∧ Fr (fun _ => False) w w' := by
  refine vc_sums_Crc32_ok (R := fun v w' => v = .int .u32 ((crcW s.data.toList).toNat : Int) ∧ Fr (fun _ => False) w w') ?_ (fun v w' h => ⟨by rw [h.1], h.2⟩)
  intro w1 h1
  have hf1 : Fr (fun _ => False) w w1 := by rw [h1]; exact .alloc _ _ _
  have hb1 : w1.heap[w.heap.size]? = some (.cells #[.int .u32 0] T_sums_Crc (0, 0)) := by rw [h1]; exact alloc_new _ _
  refine (crcWrite_spec hb1 s hs).mono ?_
  rintro e w3 ⟨rfl, rfl⟩
  refine ⟨rfl, ?_⟩
  have hb3 := set_blk hb1 0 (.int .u32 ((crcW s.data.toList).toNat : Int))
  have hf3 : Fr (fun _ => False) w (w1.setCell ⟨w.heap.size, 0, none⟩ (.int .u32 ((crcW s.data.toList).toNat : Int))) := hf1.trans (Fr.set (· = w.heap.size) _ _ rfl) fun q hq e => by omega
  refine Calls.mono (R := fun e w' => e = .returned (.int .u32 ((crcW s.data.toList).toNat : Int)) ∧ w' = w1.setCell ⟨w.heap.size, 0, none⟩ (.int .u32 ((crcW s.data.toList).toNat : Int))) (vc_sums_Crc_Sum_ok (R := fun v w' => v = .int .u32 ((crcW s.data.toList).toNat : Int) ∧ w' = w1.setCell ⟨w.heap.size, 0, none⟩ (.int .u32 ((crcW s.data.toList).toNat : Int))) ?_ (fun v w' h => ⟨by rw [h.1], h.2⟩)) ?_
  · exact ⟨_, by rw [cell_blk hb3]; rfl, rfl, rfl⟩
  · rintro e w5 ⟨rfl, rfl⟩
    exact ⟨_, rfl, rfl, hf3⟩
end Go.Proofs.YtlohadencnpdgaaDoor

/- An archive of stored files, in plain. No condition. -/
set_option linter.unusedVariables false
namespace Go.Proofs.YtlohadencnpdgaaDoor
open Go Vc SumM Go.Proofs

/-- Is a file right behind the one ahead of it? -/
def okZ (ys : List FileE) (i : Nat) : Bool := match ys[i]? with
  | some y => cleanB y.path && (decide (i = 0) || match ys[i - 1]? with
    | some x => decide (x.path.data.toList < y.path.data.toList)
    | none => true)
  | none => true
def zchk (ys : List FileE) : Int := if 600 < ys.length ∨ 1048576 < totalF ys then 2 else if (List.range ys.length).all (okZ ys) = true then 0 else 4
/-- What local and central head say alike. -/
def factsL (method crc packed size name : Nat) : List UInt8 := littleB 2 20 ++ (littleB 2 0 ++ (littleB 2 method ++ (littleB 2 0 ++ (littleB 2 0 ++ (littleB 4 crc ++ (littleB 4 packed ++ (littleB 4 size ++ (littleB 2 name ++ littleB 2 0))))))))
theorem factsL_len (a b c d e : Nat) : (factsL a b c d e).length = 26 := by
  unfold factsL
  simp only [List.length_append, littleB_length]
def factF (f : FileE) : List UInt8 := factsL 0 (crcW f.data.data.toList).toNat f.data.size f.data.size f.path.size
def locL (f : FileE) : List UInt8 := [80, 75, 3, 4] ++ (factF f ++ (f.path.data.toList ++ f.data.data.toList))
def cenL (f : FileE) (off : Nat) : List UInt8 := [80, 75, 1, 2] ++ (littleB 2 20 ++ (factF f ++ (littleB 2 0 ++ (littleB 2 0 ++ (littleB 2 0 ++ (littleB 4 0 ++ (littleB 4 off ++ f.path.data.toList)))))))
def outL (ys : List FileE) : List UInt8 := ys.flatMap locL
def idxL : Nat → List FileE → List UInt8
  | _, [] => []
  | off, f :: r => cenL f off ++ idxL (off + (locL f).length) r
def endL (n ni no : Nat) : List UInt8 := [80, 75, 5, 6] ++ (littleB 2 0 ++ (littleB 2 0 ++ (littleB 2 n ++ (littleB 2 n ++ (littleB 4 ni ++ (littleB 4 no ++ littleB 2 0))))))
def zipL (ys : List FileE) : List UInt8 := outL ys ++ (idxL 0 ys ++ endL ys.length (idxL 0 ys).length (outL ys).length)
theorem locL_len (f : FileE) : (locL f).length = 30 + f.path.size + f.data.size := by
  unfold locL factF
  simp only [List.length_append, factsL_len, bs_len, List.length_cons, List.length_nil]; omega
theorem cenL_len (f : FileE) (off : Nat) : (cenL f off).length = 46 + f.path.size := by
  unfold cenL factF
  simp only [List.length_append, factsL_len, littleB_length, bs_len, List.length_cons, List.length_nil]; omega
theorem outL_snoc (ys : List FileE) (f : FileE) : outL (ys ++ [f]) = outL ys ++ locL f := by unfold outL; rw [List.flatMap_append]; simp
theorem idxL_snoc (f : FileE) : ∀ (off : Nat) (ys : List FileE), idxL off (ys ++ [f]) = idxL off ys ++ cenL f (off + (outL ys).length)
  | off, [] => by simp [idxL, outL]
  | off, y :: r => by
    rw [List.cons_append, idxL, idxL, idxL_snoc f _ r]
    unfold outL
    rw [List.flatMap_cons, List.length_append, ← List.append_assoc, Nat.add_assoc]
theorem outL_len {B : Nat} : ∀ ys : List FileE, (∀ y ∈ ys, y.path.size ≤ B) → (outL ys).length ≤ ys.length * (30 + B) + totalF ys
  | [], _ => Nat.zero_le _
  | y :: r, h => by
    have ih := outL_len r fun z hz => h z (List.mem_cons_of_mem _ hz)
    have h1 := h y List.mem_cons_self
    unfold outL totalF at *
    rw [List.flatMap_cons, List.length_append, locL_len, List.length_cons, Nat.succ_mul, List.map_cons, List.sum_cons]; omega
theorem idxL_len {B : Nat} : ∀ (off : Nat) (ys : List FileE), (∀ y ∈ ys, y.path.size ≤ B) → (idxL off ys).length ≤ ys.length * (46 + B)
  | _, [], _ => Nat.zero_le _
  | off, y :: r, h => by
    have ih := idxL_len (off + (locL y).length) r fun z hz => h z (List.mem_cons_of_mem _ hz)
    have h1 := h y List.mem_cons_self
    rw [idxL, List.length_append, cenL_len, List.length_cons, Nat.succ_mul]; omega
theorem zchk_ok {ys : List FileE} (h : zchk ys = 0) : ys.length ≤ 600 ∧ totalF ys ≤ 1048576 ∧ (∀ y ∈ ys, cleanB y.path = true) := by
  unfold zchk at h
  split at h
  · cases h
  · next h1 =>
    split at h
    · next h2 =>
      refine ⟨by omega, by omega, fun y hy => ?_⟩
      obtain ⟨i, hi, e⟩ := List.getElem_of_mem hy
      have := List.all_eq_true.1 h2 i (List.mem_range.2 hi)
      unfold okZ at this
      rw [List.getElem?_eq_getElem hi, e] at this
      simp only [Bool.and_eq_true] at this
      exact this.1
    · cases h
end Go.Proofs.YtlohadencnpdgaaDoor

/- Archives of files that are stored or deflated, in plain. No condition. -/
set_option linter.unusedVariables false
namespace Go.Proofs.YtlohadencnpdgaaDoor
open Go Vc SumM Go.Proofs

/-- A file of an archive: how it is kept, its path, its bytes, what is kept of them. -/
structure EntZ where
  method : Nat
  path : ByteArray
  data : ByteArray
  packed : ByteArray
def factZ (x : EntZ) : List UInt8 := factsL x.method (crcW x.data.data.toList).toNat x.packed.size x.data.size x.path.size
def locZ (x : EntZ) : List UInt8 := [80, 75, 3, 4] ++ (factZ x ++ (x.path.data.toList ++ x.packed.data.toList))
def cenZ (x : EntZ) (off : Nat) : List UInt8 := [80, 75, 1, 2] ++ (littleB 2 20 ++ (factZ x ++ (littleB 2 0 ++ (littleB 2 0 ++ (littleB 2 0 ++ (littleB 4 0 ++ (littleB 4 off ++ x.path.data.toList)))))))
def outZ (es : List EntZ) : List UInt8 := es.flatMap locZ
def idxZ : Nat → List EntZ → List UInt8
  | _, [] => []
  | off, x :: r => cenZ x off ++ idxZ (off + (locZ x).length) r
def arcZ (es : List EntZ) : List UInt8 := outZ es ++ (idxZ 0 es ++ endL es.length (idxZ 0 es).length (outZ es).length)
def entsZ : Nat → List EntZ → List (EntZ × Nat)
  | _, [] => []
  | off, x :: r => (x, off) :: entsZ (off + (locZ x).length) r
def filZ (x : EntZ) : FileE := ⟨x.path, x.data⟩
def stoZ (f : FileE) : EntZ := ⟨0, f.path, f.data, f.data⟩
theorem outZ_sto (ys : List FileE) : outZ (ys.map stoZ) = outL ys := by
  unfold outZ outL
  rw [List.flatMap_map]; rfl
theorem idxZ_sto : ∀ (off : Nat) (ys : List FileE), idxZ off (ys.map stoZ) = idxL off ys
  | _, [] => rfl
  | off, y :: r => by
    rw [List.map_cons, idxZ, idxL, ← idxZ_sto (off + (locL y).length) r]; rfl
theorem arcZ_sto (ys : List FileE) : arcZ (ys.map stoZ) = zipL ys := by
  unfold arcZ zipL
  rw [outZ_sto, idxZ_sto, List.length_map]
theorem fil_sto (ys : List FileE) : (ys.map stoZ).map filZ = ys := by
  rw [List.map_map]; exact List.map_id' _
theorem endL_len (n a b : Nat) : (endL n a b).length = 22 := by
  unfold endL
  simp only [List.length_append, littleB_length, List.length_cons, List.length_nil]
theorem locZ_len (x : EntZ) : (locZ x).length = 30 + x.path.size + x.packed.size := by
  unfold locZ factZ
  simp only [List.length_append, factsL_len, bs_len, List.length_cons, List.length_nil]; omega
theorem entsZ_length : ∀ (off : Nat) (es : List EntZ), (entsZ off es).length = es.length
  | _, [] => rfl
  | off, x :: r => by rw [entsZ, List.length_cons, List.length_cons, entsZ_length]
theorem outZ_cons (x : EntZ) (r : List EntZ) : outZ (x :: r) = locZ x ++ outZ r := by unfold outZ; rw [List.flatMap_cons]
theorem entsZ_get : ∀ (off : Nat) (es : List EntZ) (k : Nat) (x : EntZ), es[k]? = some x → (entsZ off es)[k]? = some (x, off + (outZ (es.take k)).length)
  | _, [], k, x, h => by simp at h
  | off, y :: r, 0, x, h => by
    simp only [List.getElem?_cons_zero, Option.some.injEq] at h
    subst h
    simp [entsZ, outZ]
  | off, y :: r, k + 1, x, h => by
    rw [List.getElem?_cons_succ] at h
    rw [entsZ, List.getElem?_cons_succ, entsZ_get _ r k x h, List.take_succ_cons, outZ_cons, List.length_append, Nat.add_assoc]
theorem outZ_drop (es : List EntZ) (k : Nat) : outZ es = outZ (es.take k) ++ outZ (es.drop k) := by
  unfold outZ; rw [← List.flatMap_append, List.take_append_drop]
theorem outZ_len_take {es : List EntZ} {k : Nat} {x : EntZ} (h : es[k]? = some x) : (outZ (es.take (k + 1))).length = (outZ (es.take k)).length + (locZ x).length := by
  rw [List.take_add_one, h]
  unfold outZ
  rw [List.flatMap_append, List.length_append]
  simp
theorem drop_get {es : List EntZ} {k : Nat} {x : EntZ} (h : es[k]? = some x) : es.drop k = x :: es.drop (k + 1) := by
  obtain ⟨hk, e⟩ := List.getElem?_eq_some_iff.1 h
  rw [List.drop_eq_getElem_cons hk, e]
/-- What of the index is still to be read. -/
theorem idxZ_drop {es : List EntZ} {k : Nat} {x : EntZ} (h : es[k]? = some x) : idxZ (outZ (es.take k)).length (es.drop k) = cenZ x (outZ (es.take k)).length ++ idxZ (outZ (es.take (k + 1))).length (es.drop (k + 1)) := by
  rw [drop_get h, idxZ, outZ_len_take h]
theorem outZ_at {es : List EntZ} {k : Nat} {x : EntZ} (h : es[k]? = some x) : outZ (es.drop k) = locZ x ++ outZ (es.drop (k + 1)) := by
  rw [drop_get h, outZ_cons]
theorem num8_go : ∀ (l : List UInt8) (a : Nat), l.foldl (fun x c => 256 * x + c.toNat) a = a * 256 ^ l.length + num8 l
  | [], a => by simp [num8]
  | c :: l, a => by
    have h1 := num8_go l (256 * a + c.toNat)
    have h2 := num8_go l c.toNat
    rw [List.foldl_cons, h1, List.length_cons, Nat.pow_succ]
    unfold num8 at *
    rw [List.foldl_cons, Nat.mul_zero, Nat.zero_add, h2, Nat.add_mul, ← Nat.mul_assoc, Nat.mul_comm (a * _) 256, ← Nat.mul_assoc, Nat.add_assoc]
theorem num8_cons (c : UInt8) (l : List UInt8) : num8 (c :: l) = c.toNat * 256 ^ l.length + num8 l := by
  have := num8_go l c.toNat
  unfold num8 at *
  rw [List.foldl_cons, Nat.mul_zero, Nat.zero_add, this]
/-- The number of bytes, the lowest first. -/
def numL (l : List UInt8) : Nat := num8 l.reverse
theorem numL_snoc (l : List UInt8) (c : UInt8) : numL (l ++ [c]) = c.toNat * 256 ^ l.length + numL l := by
  unfold numL; rw [List.reverse_append, List.reverse_singleton, List.singleton_append, num8_cons, List.length_reverse]
theorem numL_little (n x : Nat) (h : x < 256 ^ n) : numL (littleB n x) = x := by
  unfold numL; rw [big_little, num8_bigB n x h]
theorem numL_lt (l : List UInt8) : numL l < 256 ^ l.length := num8_lt _ _ (by simp)
theorem factZ_len (x : EntZ) : (factZ x).length = 26 := factsL_len _ _ _ _ _
end Go.Proofs.YtlohadencnpdgaaDoor

/- Formulas of 1 Go functions of this seat (written by a program of the author's, vcgen.py), and that each is enough for the call. No condition. -/
set_option linter.unusedVariables false
namespace Go.Proofs.YtlohadencnpdgaaDoor
open Go Vc Go.Proofs
set_option maxRecDepth 100000
/-- sums.FromLittle -/
def vc_sums_FromLittle (x0 : ByteArray) (w : World) (R : Value → World → Prop) : Prop :=
  ∃ I1 : Int → Int → World → Prop, ∃ I2 : Int → Int → World → Nat, (I1 0 0 w ∧
   ∀ n3 : Int,
   ∀ n4 : Int,
   ∀ w5 : World,
   (I1 n3 n4 w5 →
     ((((decide (n4 < if 8 < (↑(ByteArray.size x0) : Int) then 8 else (↑(ByteArray.size x0) : Int)) = true) →
        ((0 ≤ n4 ∧
          n4 < (↑(ByteArray.size x0) : Int)) ∧
         (0 ≤ IntKind.wrap IntKind.i64 (8 * n4) ∧
          (I1 (IntKind.wrap IntKind.u64 (↑(BitVec.toNat (BitVec.ofInt 64 n3 ||| BitVec.ofInt 64 (IntKind.wrap IntKind.u64 (IntKind.wrap IntKind.u64 (byteAt x0 n4) * 2 ^ min (Int.toNat (IntKind.wrap IntKind.i64 (8 * n4))) 64)))) : Int)) (IntKind.wrap IntKind.i64 (n4 + 1)) w5 ∧
           I2 (IntKind.wrap IntKind.u64 (↑(BitVec.toNat (BitVec.ofInt 64 n3 ||| BitVec.ofInt 64 (IntKind.wrap IntKind.u64 (IntKind.wrap IntKind.u64 (byteAt x0 n4) * 2 ^ min (Int.toNat (IntKind.wrap IntKind.i64 (8 * n4))) 64)))) : Int)) (IntKind.wrap IntKind.i64 (n4 + 1)) w5 < I2 n3 n4 w5))))) ∧
      ((decide (n4 < if 8 < (↑(ByteArray.size x0) : Int) then 8 else (↑(ByteArray.size x0) : Int)) = false) →
        R (Value.int IntKind.u64 n3) w5))))
theorem vc_sums_FromLittle_ok {x0 : ByteArray} {w : World} {R : Value → World → Prop} {R' : Ending → World → Prop} (h : vc_sums_FromLittle x0 w R) (hR : ∀ v w', R v w' → R' (.returned v) w') :
    Calls Tryd.prog 26 #[.string x0] w R' :=
  calls_of_body (vs := [(.string x0, false)]) (ty := ty) (ann := ⟨[], [(3, [(3, .int .u64), (8, .int .i64)])], [], []⟩) (c := Tryd.f26.body.getD .skip) (by kernel_rfl) Tryd.func26 (by kernel_rfl) (by kernel_rfl) (Eq.mp (by kernel_rfl) h) hR
end Go.Proofs.YtlohadencnpdgaaDoor

/- sums.FromLittle. Condition: at most eight bytes. -/
set_option linter.unusedVariables false
namespace Go.Proofs.YtlohadencnpdgaaDoor
open Go Vc SumM Go.Proofs

theorem fromlittle_spec (s : ByteArray) (hs : s.size ≤ 8) (w : World) :
    Calls Tryd.prog F_sums_FromLittle #[.string s] w fun e w' => e = .returned (.int .u64 ((numL s.data.toList : Nat) : Int)) ∧ w' = w := by
  refine vc_sums_FromLittle_ok (R := fun v w' => v = .int .u64 ((numL s.data.toList : Nat) : Int) ∧ w' = w) ?_ (fun v w' h => ⟨by rw [h.1], h.2⟩)
  have hif : (if 8 < (s.size : Int) then 8 else (s.size : Int)) = (s.size : Int) := if_neg (by omega)
  unfold vc_sums_FromLittle
  rw [hif]
  refine ⟨fun a i w5 => ∃ n : Nat, i = (n : Int) ∧ n ≤ s.size ∧ a = ((numL (s.data.toList.take n) : Nat) : Int) ∧ w5 = w, fun a i w5 => s.size - i.toNat, ⟨0, rfl, Nat.zero_le _, rfl, rfl⟩, ?_⟩
  rintro a i w5 ⟨n, rfl, hn, rfl, hw⟩
  replace hw := hw.symm
  subst hw
  refine ⟨fun hlt => ?_, fun hge => ?_⟩
  · have hlt := of_decide_eq_true hlt
    have hb := byt_lt s n
    have hl : (s.data.toList.take n).length = n := by rw [List.length_take]; simp; omega
    have hv := numL_lt (s.data.toList.take n)
    rw [hl] at hv
    have hsn := numL_snoc (s.data.toList.take n) (UInt8.ofNat (byt s n))
    rw [← take_byt s (by omega), toNat_byt, hl] at hsn
    have hp : (256 : Nat) ^ n = 2 ^ (8 * n) := by rw [Nat.pow_mul]
    rw [hp] at hv hsn
    have hor : numL (s.data.toList.take n) ||| byt s n * 2 ^ (8 * n) = byt s n * 2 ^ (8 * n) + numL (s.data.toList.take n) := by
      rw [Nat.or_comm, Nat.mul_comm, ← Nat.two_pow_add_eq_or_of_lt hv]
    generalize numL (s.data.toList.take n) = x at hsn hv hor ⊢
    have hp7 : 2 ^ (8 * n) ≤ 2 ^ 56 := Nat.pow_le_pow_right (by decide) (by omega)
    have hm : byt s n * 2 ^ (8 * n) ≤ 255 * 2 ^ 56 := Nat.mul_le_mul (by omega) hp7
    have e8 : IntKind.i64.wrap (8 * (n : Int)) = ((8 * n : Nat) : Int) := by rw [wrap_i64 (by omega) (by omega)]; omega
    have e1 : IntKind.u64.wrap (byteAt s (n : Int)) = ((byt s n : Nat) : Int) := by rw [byteAt_nat, wrap_u64 (by omega) (by omega)]
    have e0 : ((byt s n : Nat) : Int) * 2 ^ min (((8 * n : Nat) : Int)).toNat 64 = ((byt s n * 2 ^ (8 * n) : Nat) : Int) := by
      rw [Int.toNat_natCast, Nat.min_eq_left (by omega), Int.natCast_mul]
      congr 1
    generalize 2 ^ (8 * n) = p at *
    have e2 : IntKind.u64.wrap (((BitVec.ofInt 64 (x : Int) ||| BitVec.ofInt 64 (IntKind.u64.wrap (IntKind.u64.wrap (byteAt s (n : Int)) * 2 ^ min (IntKind.i64.wrap (8 * (n : Int))).toNat 64))).toNat : Nat) : Int) = ((numL (s.data.toList.take (n + 1)) : Nat) : Int) := by
      rw [e8, e1, e0, wrap_u64 (x := ((byt s n * p : Nat) : Int)) (by omega) (by omega), or_nat 64 _ _ (by omega) (by omega), hor, wrap_u64 (by omega) (by omega), hsn]
    have e3 : IntKind.i64.wrap ((n : Int) + 1) = ((n + 1 : Nat) : Int) := by rw [wrap_i64 (by omega) (by omega)]; omega
    refine ⟨⟨by omega, by omega⟩, by rw [e8]; omega, ?_⟩
    rw [e2, e3]
    exact ⟨⟨n + 1, rfl, by omega, rfl, rfl⟩, by dsimp only; omega⟩
  · have hge := of_decide_eq_false hge
    have : n = s.size := by omega
    subst this
    rw [take_size]
    exact ⟨rfl, rfl⟩
end Go.Proofs.YtlohadencnpdgaaDoor

/- Formulas of 6 Go functions of this seat (written by a program of the author's, vcgen.py), and that each is enough for the call. No condition. -/
set_option linter.unusedVariables false
namespace Go.Proofs.YtlohadencnpdgaaDoor
open Go Vc Go.Proofs
set_option maxRecDepth 100000
/-- zip.must -/
def vc_zip_must (x0 : Bool) (x1 : Int) (w : World) (R : Value → World → Prop) : Prop :=
  ((((!x0) = true →
     False)) ∧
   ((!x0) = false →
     R (Value.tuple (Array.mk [])) w))
theorem vc_zip_must_ok {x0 : Bool} {x1 : Int} {w : World} {R : Value → World → Prop} {R' : Ending → World → Prop} (h : vc_zip_must x0 x1 w R) (hR : ∀ v w', R v w' → R' (.returned v) w') :
    Calls Tryd.prog 16 #[.bool x0, .int .i64 x1] w R' :=
  calls_of_body (vs := [(.bool x0, false), (.int .i64 x1, false)]) (ty := ty) (ann := ⟨[], [], [], []⟩) (c := Tryd.f16.body.getD .skip) (by kernel_rfl) Tryd.func16 (by kernel_rfl) (by kernel_rfl) (Eq.mp (by kernel_rfl) h) hR
/-- (*zip.reader).take -/
def vc_zip_reader_take (x0 : Nat) (x1 : Int) (w : World) (R : Value → World → Prop) : Prop :=
  ∀ w1 : World,
  (Drew w w1 →
    ∃ I2 : World → Prop, (I2 w1 ∧
     ∃ s3 : ByteArray, ((∀ w4 : World,
      (I2 w4 →
        World.cell? w4 (Addr.mk x0 0 none) = some (Value.string s3))) ∧
      ∃ n5 : Int, ((∀ w6 : World,
       (I2 w6 →
         World.cell? w6 (Addr.mk x0 1 none) = some (Value.int IntKind.i64 n5))) ∧
       Calls Tryd.prog (16 : Nat) (Array.mk [Value.bool (decide (x1 ≤ IntKind.wrap IntKind.i64 ((↑(ByteArray.size s3) : Int) - n5))), Value.int IntKind.i64 6]) (w1) (fun e7 w8 =>
         (e7 = Ending.returned (Value.tuple (Array.mk [])) ∧
          ∃ n9 : Int, (World.cell? w8 (Addr.mk x0 1 none) = some (Value.int IntKind.i64 n9) ∧
           (Wr w8 (Addr.mk x0 1 none) ∧
            ∀ w10 : World,
            (w10 = World.setCell w8 (Addr.mk x0 1 none) (Value.int IntKind.i64 (IntKind.wrap IntKind.i64 (n9 + x1))) →
              ∃ s11 : ByteArray, (World.cell? w10 (Addr.mk x0 0 none) = some (Value.string s11) ∧
               ∃ n12 : Int, (World.cell? w10 (Addr.mk x0 1 none) = some (Value.int IntKind.i64 n12) ∧
                ∃ n13 : Int, (World.cell? w10 (Addr.mk x0 1 none) = some (Value.int IntKind.i64 n13) ∧
                 ((0 ≤ IntKind.wrap IntKind.i64 (n12 - x1) ∧
                   (IntKind.wrap IntKind.i64 (n12 - x1) ≤ n13 ∧
                    n13 ≤ (↑(ByteArray.size s11) : Int))) ∧
                  ∀ w14 : World,
                  (Drew w10 w14 →
                    R (Value.string (ByteArray.extract s11 (Int.toNat (IntKind.wrap IntKind.i64 (n12 - x1))) (Int.toNat n13))) w14))))))))))))))
theorem vc_zip_reader_take_ok {x0 : Nat} {x1 : Int} {w : World} {R : Value → World → Prop} {R' : Ending → World → Prop} (h : vc_zip_reader_take x0 x1 w R) (hR : ∀ v w', R v w' → R' (.returned v) w') :
    Calls Tryd.prog 19 #[.pointer (some ⟨x0, 0, none⟩), .int .i64 x1] w R' :=
  calls_of_body (vs := [(.pointer (some ⟨x0, 0, none⟩), true), (.int .i64 x1, false)]) (ty := ty) (ann := ⟨[], [], [(1, .held [(0, true), (1, true), (2, true), (3, true), (4, true), (5, true), (6, true), (7, true), (8, true), (9, true), (10, true), (11, true), (12, false)]), (3, .quiet)], []⟩) (c := Tryd.f19.body.getD .skip) (by kernel_rfl) Tryd.func19 (by kernel_rfl) (by kernel_rfl) (Eq.mp (by kernel_rfl) h) hR
/-- (*zip.reader).number -/
def vc_zip_reader_number (x0 : Nat) (x1 : Int) (w : World) (R : Value → World → Prop) : Prop :=
  Calls Tryd.prog (19 : Nat) (Array.mk [Value.pointer (some (Addr.mk x0 0 none)), Value.int IntKind.i64 x1]) (w) (fun e1 w2 =>
    ∃ s3 : ByteArray, (e1 = Ending.returned (Value.string s3) ∧
     Calls Tryd.prog (26 : Nat) (Array.mk [Value.string s3]) (w2) (fun e4 w5 =>
       ∃ n6 : Int, (e4 = Ending.returned (Value.int IntKind.u64 n6) ∧
        R (Value.int IntKind.i64 (IntKind.wrap IntKind.i64 n6)) w5))))
theorem vc_zip_reader_number_ok {x0 : Nat} {x1 : Int} {w : World} {R : Value → World → Prop} {R' : Ending → World → Prop} (h : vc_zip_reader_number x0 x1 w R) (hR : ∀ v w', R v w' → R' (.returned v) w') :
    Calls Tryd.prog 15 #[.pointer (some ⟨x0, 0, none⟩), .int .i64 x1] w R' :=
  calls_of_body (vs := [(.pointer (some ⟨x0, 0, none⟩), true), (.int .i64 x1, false)]) (ty := ty) (ann := ⟨[], [], [], []⟩) (c := Tryd.f15.body.getD .skip) (by kernel_rfl) Tryd.func15 (by kernel_rfl) (by kernel_rfl) (Eq.mp (by kernel_rfl) h) hR
/-- (*zip.reader).want -/
def vc_zip_reader_want (x0 : Nat) (x1 : ByteArray) (w : World) (R : Value → World → Prop) : Prop :=
  Calls Tryd.prog (19 : Nat) (Array.mk [Value.pointer (some (Addr.mk x0 0 none)), Value.int IntKind.i64 (↑(ByteArray.size x1) : Int)]) (w) (fun e1 w2 =>
    ∃ s3 : ByteArray, (e1 = Ending.returned (Value.string s3) ∧
     Calls Tryd.prog (16 : Nat) (Array.mk [Value.bool (ByteArray.toList s3 == ByteArray.toList x1), Value.int IntKind.i64 3]) (w2) (fun e4 w5 =>
       (e4 = Ending.returned (Value.tuple (Array.mk [])) ∧
        R (Value.tuple (Array.mk [])) w5))))
theorem vc_zip_reader_want_ok {x0 : Nat} {x1 : ByteArray} {w : World} {R : Value → World → Prop} {R' : Ending → World → Prop} (h : vc_zip_reader_want x0 x1 w R) (hR : ∀ v w', R v w' → R' (.returned v) w') :
    Calls Tryd.prog 13 #[.pointer (some ⟨x0, 0, none⟩), .string x1] w R' :=
  calls_of_body (vs := [(.pointer (some ⟨x0, 0, none⟩), true), (.string x1, false)]) (ty := ty) (ann := ⟨[], [], [], []⟩) (c := Tryd.f13.body.getD .skip) (by kernel_rfl) Tryd.func13 (by kernel_rfl) (by kernel_rfl) (Eq.mp (by kernel_rfl) h) hR
/-- (*zip.reader).head -/
def vc_zip_reader_head (x0 : Nat) (w : World) (R : Value → World → Prop) : Prop :=
  ∀ w1 : World,
  (w1 = World.alloc w (Obj.cells (Array.mk [Value.int IntKind.i64 0, Value.int IntKind.u32 0, Value.int IntKind.i64 0, Value.int IntKind.i64 0, Value.int IntKind.i64 0]) 48) →
    Calls Tryd.prog (14 : Nat) (Array.mk [Value.int IntKind.i64 (20 : Int)]) (w1) (fun e2 w3 =>
      ∃ s4 : ByteArray, (e2 = Ending.returned (Value.string s4) ∧
       Calls Tryd.prog (14 : Nat) (Array.mk [Value.int IntKind.i64 (0 : Int)]) (w3) (fun e5 w6 =>
         ∃ s7 : ByteArray, (e5 = Ending.returned (Value.string s7) ∧
          (ByteArray.size s4 + ByteArray.size s7 ≤ 9223372036854775807 ∧
           Calls Tryd.prog (13 : Nat) (Array.mk [Value.pointer (some (Addr.mk x0 0 none)), Value.string (s4 ++ s7)]) (w6) (fun e8 w9 =>
             (e8 = Ending.returned (Value.tuple (Array.mk [])) ∧
              Calls Tryd.prog (15 : Nat) (Array.mk [Value.pointer (some (Addr.mk x0 0 none)), Value.int IntKind.i64 2]) (w9) (fun e10 w11 =>
                ∃ n12 : Int, (e10 = Ending.returned (Value.int IntKind.i64 n12) ∧
                 ∀ w13 : World,
                 (w13 = World.alloc w11 (Obj.cells (Array.mk [Value.int IntKind.i64 0, Value.int IntKind.u32 0, Value.int IntKind.i64 0, Value.int IntKind.i64 0, Value.int IntKind.i64 0]) 48) →
                   ∃ w14 : World, (Sem.run Tryd.prog (storeVar 48 (Addr.mk (Array.size (World.heap w11)) 0 none) (Value.agg (Array.mk [Value.int IntKind.i64 n12, Value.int IntKind.u32 0, Value.int IntKind.i64 0, Value.int IntKind.i64 0, Value.int IntKind.i64 0]))) w13 = Result.ok PUnit.unit w14 ∧
                    Calls Tryd.prog (14 : Nat) (Array.mk [Value.int IntKind.i64 (0 : Int)]) (w14) (fun e15 w16 =>
                      ∃ s17 : ByteArray, (e15 = Ending.returned (Value.string s17) ∧
                       Calls Tryd.prog (14 : Nat) (Array.mk [Value.int IntKind.i64 (0 : Int)]) (w16) (fun e18 w19 =>
                         ∃ s20 : ByteArray, (e18 = Ending.returned (Value.string s20) ∧
                          (ByteArray.size s17 + ByteArray.size s20 ≤ 9223372036854775807 ∧
                           Calls Tryd.prog (13 : Nat) (Array.mk [Value.pointer (some (Addr.mk x0 0 none)), Value.string (s17 ++ s20)]) (w19) (fun e21 w22 =>
                             (e21 = Ending.returned (Value.tuple (Array.mk [])) ∧
                              Calls Tryd.prog (15 : Nat) (Array.mk [Value.pointer (some (Addr.mk x0 0 none)), Value.int IntKind.i64 4]) (w22) (fun e23 w24 =>
                                ∃ n25 : Int, (e23 = Ending.returned (Value.int IntKind.i64 n25) ∧
                                 (Wr w24 (Addr.mk (Array.size (World.heap w11)) 1 none) ∧
                                  ∀ w26 : World,
                                  (w26 = World.setCell w24 (Addr.mk (Array.size (World.heap w11)) 1 none) (Value.int IntKind.u32 (IntKind.wrap IntKind.u32 n25)) →
                                    Calls Tryd.prog (15 : Nat) (Array.mk [Value.pointer (some (Addr.mk x0 0 none)), Value.int IntKind.i64 4]) (w26) (fun e27 w28 =>
                                      ∃ n29 : Int, (e27 = Ending.returned (Value.int IntKind.i64 n29) ∧
                                       Calls Tryd.prog (15 : Nat) (Array.mk [Value.pointer (some (Addr.mk x0 0 none)), Value.int IntKind.i64 4]) (w28) (fun e30 w31 =>
                                         ∃ n32 : Int, (e30 = Ending.returned (Value.int IntKind.i64 n32) ∧
                                          Calls Tryd.prog (15 : Nat) (Array.mk [Value.pointer (some (Addr.mk x0 0 none)), Value.int IntKind.i64 2]) (w31) (fun e33 w34 =>
                                            ∃ n35 : Int, (e33 = Ending.returned (Value.int IntKind.i64 n35) ∧
                                             (Wr w34 (Addr.mk (Array.size (World.heap w11)) 2 none) ∧
                                              ∀ w36 : World,
                                              (w36 = World.setCell w34 (Addr.mk (Array.size (World.heap w11)) 2 none) (Value.int IntKind.i64 n29) →
                                                (Wr w36 (Addr.mk (Array.size (World.heap w11)) 3 none) ∧
                                                 ∀ w37 : World,
                                                 (w37 = World.setCell w36 (Addr.mk (Array.size (World.heap w11)) 3 none) (Value.int IntKind.i64 n32) →
                                                   (Wr w37 (Addr.mk (Array.size (World.heap w11)) 4 none) ∧
                                                    ∀ w38 : World,
                                                    (w38 = World.setCell w37 (Addr.mk (Array.size (World.heap w11)) 4 none) (Value.int IntKind.i64 n35) →
                                                      Calls Tryd.prog (14 : Nat) (Array.mk [Value.int IntKind.i64 (0 : Int)]) (w38) (fun e39 w40 =>
                                                        ∃ s41 : ByteArray, (e39 = Ending.returned (Value.string s41) ∧
                                                         Calls Tryd.prog (13 : Nat) (Array.mk [Value.pointer (some (Addr.mk x0 0 none)), Value.string s41]) (w40) (fun e42 w43 =>
                                                           (e42 = Ending.returned (Value.tuple (Array.mk [])) ∧
                                                            ∃ n44 : Int, ∃ n45 : Int, ∃ n46 : Int, ∃ n47 : Int, ∃ n48 : Int, (Sem.run Tryd.prog (loadVar 48 (Addr.mk (Array.size (World.heap w11)) 0 none)) w43 = Result.ok (Value.agg (Array.mk [Value.int IntKind.i64 n44, Value.int IntKind.u32 n45, Value.int IntKind.i64 n46, Value.int IntKind.i64 n47, Value.int IntKind.i64 n48])) w43 ∧
                                                             ∃ w49 : World, (Sem.run Tryd.prog (storeVar 48 (Addr.mk (Array.size (World.heap w)) 0 none) (Value.agg (Array.mk [Value.int IntKind.i64 n44, Value.int IntKind.u32 n45, Value.int IntKind.i64 n46, Value.int IntKind.i64 n47, Value.int IntKind.i64 n48]))) w43 = Result.ok PUnit.unit w49 ∧
                                                              ∃ n50 : Int, ∃ n51 : Int, ∃ n52 : Int, ∃ n53 : Int, ∃ n54 : Int, (Sem.run Tryd.prog (loadVar 48 (Addr.mk (Array.size (World.heap w)) 0 none)) w49 = Result.ok (Value.agg (Array.mk [Value.int IntKind.i64 n50, Value.int IntKind.u32 n51, Value.int IntKind.i64 n52, Value.int IntKind.i64 n53, Value.int IntKind.i64 n54])) w49 ∧
                                                               R (Value.agg (Array.mk [Value.int IntKind.i64 n50, Value.int IntKind.u32 n51, Value.int IntKind.i64 n52, Value.int IntKind.i64 n53, Value.int IntKind.i64 n54])) w49))))))))))))))))))))))))))))))))))))))))))
theorem vc_zip_reader_head_ok {x0 : Nat} {w : World} {R : Value → World → Prop} {R' : Ending → World → Prop} (h : vc_zip_reader_head x0 w R) (hR : ∀ v w', R v w' → R' (.returned v) w') :
    Calls Tryd.prog 17 #[.pointer (some ⟨x0, 0, none⟩)] w R' :=
  calls_of_body (vs := [(.pointer (some ⟨x0, 0, none⟩), true)]) (ty := ty) (ann := ⟨[], [], [], []⟩) (c := Tryd.f17.body.getD .skip) (by kernel_rfl) Tryd.func17 (by kernel_rfl) (by kernel_rfl) (Eq.mp (by kernel_rfl) h) hR
/-- (zip.entry).unpack -/
def vc_zip_entry_unpack (x0_0 : Int) (x0_1 : Int) (x0_2 : Int) (x0_3 : Int) (x0_4 : Int) (x0_5 : ByteArray) (x0_6 : Int) (x1 : ByteArray) (w : World) (R : Value → World → Prop) : Prop :=
  ∀ w1 : World,
  (w1 = World.alloc w (Obj.cells (Array.mk [Value.int IntKind.i64 x0_0, Value.int IntKind.u32 x0_1, Value.int IntKind.i64 x0_2, Value.int IntKind.i64 x0_3, Value.int IntKind.i64 x0_4, Value.string x0_5, Value.int IntKind.i64 x0_6]) 51) →
    ∃ I2 : ByteArray → World → Prop, ((∃ n3 : Int, (World.cell? w1 (Addr.mk (Array.size (World.heap w)) 0 none) = some (Value.int IntKind.i64 n3) ∧
      ((((n3 == 0) = true →
         ∃ n4 : Int, (World.cell? w1 (Addr.mk (Array.size (World.heap w)) 2 none) = some (Value.int IntKind.i64 n4) ∧
          ∃ n5 : Int, (World.cell? w1 (Addr.mk (Array.size (World.heap w)) 3 none) = some (Value.int IntKind.i64 n5) ∧
           Calls Tryd.prog (16 : Nat) (Array.mk [Value.bool (n4 == n5), Value.int IntKind.i64 3]) (w1) (fun e6 w7 =>
             (e6 = Ending.returned (Value.tuple (Array.mk [])) ∧
              I2 x1 w7)))))) ∧
       ((n3 == 0) = false →
         ((((n3 == 8) = true →
            ∃ n8 : Int, (World.cell? w1 (Addr.mk (Array.size (World.heap w)) 3 none) = some (Value.int IntKind.i64 n8) ∧
             Calls Tryd.prog (16 : Nat) (Array.mk [Value.bool (decide (n8 ≤ 65536)), Value.int IntKind.i64 2]) (w1) (fun e9 w10 =>
               (e9 = Ending.returned (Value.tuple (Array.mk [])) ∧
                ∃ n11 : Int, (World.cell? w10 (Addr.mk (Array.size (World.heap w)) 3 none) = some (Value.int IntKind.i64 n11) ∧
                 Calls Tryd.prog (27 : Nat) (Array.mk [Value.string x1, Value.int IntKind.i64 0, Value.int IntKind.i64 n11]) (w10) (fun e12 w13 =>
                   ∃ s14 : ByteArray, ∃ n15 : Int, ∃ n16 : Int, (e12 = Ending.returned (Value.tuple (Array.mk [Value.string s14, Value.int IntKind.i64 n15, Value.int IntKind.i64 n16])) ∧
                    ((((n16 == 0) = true →
                       ((((n15 == (↑(ByteArray.size x1) : Int)) = true →
                          ∃ n17 : Int, (World.cell? w13 (Addr.mk (Array.size (World.heap w)) 3 none) = some (Value.int IntKind.i64 n17) ∧
                           Calls Tryd.prog (16 : Nat) (Array.mk [Value.bool ((↑(ByteArray.size s14) : Int) == n17), Value.int IntKind.i64 3]) (w13) (fun e18 w19 =>
                             (e18 = Ending.returned (Value.tuple (Array.mk [])) ∧
                              I2 s14 w19))))) ∧
                        ((n15 == (↑(ByteArray.size x1) : Int)) = false →
                          Calls Tryd.prog (16 : Nat) (Array.mk [Value.bool false, Value.int IntKind.i64 (3 : Int)]) (w13) (fun e20 w21 =>
                            (e20 = Ending.returned (Value.tuple (Array.mk [])) ∧
                             I2 s14 w21)))))) ∧
                     ((n16 == 0) = false →
                       Calls Tryd.prog (16 : Nat) (Array.mk [Value.bool false, Value.int IntKind.i64 (3 : Int)]) (w13) (fun e22 w23 =>
                         (e22 = Ending.returned (Value.tuple (Array.mk [])) ∧
                          I2 s14 w23)))))))))))) ∧
          ((n3 == 8) = false →
            False)))))) ∧
     ∀ s24 : ByteArray,
     ∀ w25 : World,
     (I2 s24 w25 →
       ∀ w26 : World,
       (Drew w25 w26 →
         ∃ I27 : World → Prop, (I27 w26 ∧
          ∃ n28 : Int, ((∀ w29 : World,
           (I27 w29 →
             World.cell? w29 (Addr.mk (Array.size (World.heap w)) 1 none) = some (Value.int IntKind.u32 n28))) ∧
           Calls Tryd.prog (23 : Nat) (Array.mk [Value.string s24]) (w26) (fun e30 w31 =>
             ∃ n32 : Int, (e30 = Ending.returned (Value.int IntKind.u32 n32) ∧
              (I27 w31 ∧
               Calls Tryd.prog (16 : Nat) (Array.mk [Value.bool (n32 == n28), Value.int IntKind.i64 5]) (w31) (fun e33 w34 =>
                 (e33 = Ending.returned (Value.tuple (Array.mk [])) ∧
                  R (Value.string s24) w34)))))))))))
theorem vc_zip_entry_unpack_ok {x0_0 : Int} {x0_1 : Int} {x0_2 : Int} {x0_3 : Int} {x0_4 : Int} {x0_5 : ByteArray} {x0_6 : Int} {x1 : ByteArray} {w : World} {R : Value → World → Prop} {R' : Ending → World → Prop} (h : vc_zip_entry_unpack x0_0 x0_1 x0_2 x0_3 x0_4 x0_5 x0_6 x1 w R) (hR : ∀ v w', R v w' → R' (.returned v) w') :
    Calls Tryd.prog 20 #[.agg #[.int .i64 x0_0, .int .u32 x0_1, .int .i64 x0_2, .int .i64 x0_3, .int .i64 x0_4, .string x0_5, .int .i64 x0_6], .string x1] w R' :=
  calls_of_body (vs := [(.agg #[.int .i64 x0_0, .int .u32 x0_1, .int .i64 x0_2, .int .i64 x0_3, .int .i64 x0_4, .string x0_5, .int .i64 x0_6], false), (.string x1, false)]) (ty := ty) (ann := ⟨[(10, [(1, .str)])], [], [(10, .held [(0, true), (2, true), (3, true), (4, true), (1, false), (5, true), (6, false)])], []⟩) (c := Tryd.f20.body.getD .skip) (by kernel_rfl) Tryd.func20 (by kernel_rfl) (by kernel_rfl) (Eq.mp (by kernel_rfl) h) hR
end Go.Proofs.YtlohadencnpdgaaDoor

/- Formulas of 1 Go functions of this seat (written by a program of the author's, vcgen.py), and that each is enough for the call. No condition. -/
set_option linter.unusedVariables false
namespace Go.Proofs.YtlohadencnpdgaaDoor
open Go Vc Go.Proofs
set_option maxRecDepth 100000
/-- sums.Little -/
def vc_sums_Little (x0 : Int) (x1 : Int) (w : World) (R : Value → World → Prop) : Prop :=
  ∃ I1 : Sl → Int → World → Prop, ∃ I2 : Sl → Int → World → Nat, (I1 (Sl.mk none 0 0) 0 w ∧
   ∀ l3 : Sl,
   ∀ n4 : Int,
   ∀ w5 : World,
   (I1 l3 n4 w5 →
     ((((decide (n4 < if 0 > x1 then 0 else x1) = true) →
        (((decide (n4 ≥ 8) = true →
           ∀ w6 : World,
           (w6 = World.alloc w5 (Obj.cells (Array.mk [Value.int IntKind.u8 0]) 5) →
             ∃ w7 : World, ∃ l8 : Sl, (Sem.run Tryd.prog (Builtin.append_ (Array.mk [54, 54]) 54 (Array.mk [Value.slice l3.1 l3.2 l3.3, Value.slice (some (Addr.mk (Array.size (World.heap w5)) 0 none)) 1 1])) w6 = Result.ok (Value.slice l8.1 l8.2 l8.3) w7 ∧
              (I1 (Sl.mk l8.1 l8.2 l8.3) (IntKind.wrap IntKind.i64 (n4 + 1)) w7 ∧
               I2 (Sl.mk l8.1 l8.2 l8.3) (IntKind.wrap IntKind.i64 (n4 + 1)) w7 < I2 l3 n4 w5))))) ∧
         (decide (n4 ≥ 8) = false →
           (0 ≤ IntKind.wrap IntKind.i64 (8 * n4) ∧
            ∀ w9 : World,
            (w9 = World.alloc w5 (Obj.cells (Array.mk [Value.int IntKind.u8 (IntKind.wrap IntKind.u8 (Int.fdiv x0 (2 ^ min (Int.toNat (IntKind.wrap IntKind.i64 (8 * n4))) 64)))]) 5) →
              ∃ w10 : World, ∃ l11 : Sl, (Sem.run Tryd.prog (Builtin.append_ (Array.mk [54, 54]) 54 (Array.mk [Value.slice l3.1 l3.2 l3.3, Value.slice (some (Addr.mk (Array.size (World.heap w5)) 0 none)) 1 1])) w9 = Result.ok (Value.slice l11.1 l11.2 l11.3) w10 ∧
               (I1 (Sl.mk l11.1 l11.2 l11.3) (IntKind.wrap IntKind.i64 (n4 + 1)) w10 ∧
                I2 (Sl.mk l11.1 l11.2 l11.3) (IntKind.wrap IntKind.i64 (n4 + 1)) w10 < I2 l3 n4 w5)))))))) ∧
      ((decide (n4 < if 0 > x1 then 0 else x1) = false) →
        ∃ w12 : World, ∃ s13 : ByteArray, (Sem.run Tryd.prog (convert 54 9 (Value.slice l3.1 l3.2 l3.3)) w5 = Result.ok (Value.string s13) w12 ∧
         R (Value.string s13) w12)))))
theorem vc_sums_Little_ok {x0 : Int} {x1 : Int} {w : World} {R : Value → World → Prop} {R' : Ending → World → Prop} (h : vc_sums_Little x0 x1 w R) (hR : ∀ v w', R v w' → R' (.returned v) w') :
    Calls Tryd.prog 25 #[.int .u64 x0, .int .i64 x1] w R' :=
  calls_of_body (vs := [(.int .u64 x0, false), (.int .i64 x1, false)]) (ty := ty) (ann := ⟨[], [(3, [(5, .slice), (9, .int .i64)])], [], []⟩) (c := Tryd.f25.body.getD .skip) (by kernel_rfl) Tryd.func25 (by kernel_rfl) (by kernel_rfl) (Eq.mp (by kernel_rfl) h) hR
end Go.Proofs.YtlohadencnpdgaaDoor

/- Little. Conditions: the numbers are within their kinds. -/
set_option linter.unusedVariables false
namespace Go.Proofs.YtlohadencnpdgaaDoor
open Go Vc SumM Go.Proofs

/-- 'Little'. -/
theorem littleS_spec (x n : Nat) (hx : x < 18446744073709551616) (hn : n ≤ 1000) (w : World) :
    Calls Tryd.prog F_sums_Little #[.int .u64 (x : Int), .int .i64 (n : Int)] w fun e w' => e = .returned (.string ⟨(littleB n x).toArray⟩) ∧ Fr (fun _ => False) w w' := by
  refine vc_sums_Little_ok (R := fun v w' => v = .string ⟨(littleB n x).toArray⟩ ∧ Fr (fun _ => False) w w') ?_ (fun v w' h => ⟨by rw [h.1], h.2⟩)
  have hlim : (if (0 : Int) > (n : Int) then 0 else (n : Int)) = (n : Int) := by rw [if_neg (by omega)]
  refine ⟨fun l i w' => ∃ k : Nat, i = (k : Int) ∧ k ≤ n ∧ Vc.Own w' w.heap.size T_uint8 l (byteV ((littleB n x).take k)) ∧ Fr (fun _ => False) w w', fun l i w' => n - i.toNat, ⟨0, rfl, Nat.zero_le _, .nil _ _ _, .refl _ _⟩, ?_⟩
  rintro l3 i w5 ⟨k, rfl, hk, ho, hf⟩
  rw [hlim]
  have e3 : IntKind.i64.wrap ((k : Int) + 1) = ((k + 1 : Nat) : Int) := by rw [wrap_i64 (by omega) (by omega)]; omega
  rw [e3]
  have hln : (byteV ((littleB n x).take k)).length = k := by simp [byteV, littleB_length]; omega
  refine ⟨fun hlt => ?_, fun hge => ?_⟩
  · have hlt := of_decide_eq_true hlt
    have step : ∀ z : Int, byteV ((littleB n x).take k) ++ [.int .u8 z] = byteV ((littleB n x).take (k + 1)) → ∀ w6, w6 = w5.alloc (.cells #[.int .u8 z] T_uint8) → ∃ w7 l8, (Builtin.append_ #[T_S_uint8, T_S_uint8] T_S_uint8 #[.slice l3.a l3.len l3.cap, .slice (some ⟨w5.heap.size, 0, none⟩) 1 1]).run Tryd.prog w6 = .ok (.slice l8.a l8.len l8.cap) w7 ∧
        ((∃ j : Nat, ((k + 1 : Nat) : Int) = (j : Int) ∧ j ≤ n ∧ Vc.Own w7 w.heap.size T_uint8 l8 (byteV ((littleB n x).take j)) ∧ Fr (fun _ => False) w w7) ∧ n - ((k + 1 : Nat) : Int).toNat < n - ((k : Int)).toNat) := fun z hz w6 h6 => by
      obtain ⟨w7, l8, hr, ho7, hf7, _⟩ := append_one' elByte ho (v := .int .u8 z) rfl (by rw [hln]; unfold maxLen; omega) (by rw [hln]; omega) hf.size h6
      rw [hz] at ho7
      exact ⟨w7, l8, hr, ⟨k + 1, rfl, by omega, ho7, hf.trans hf7 fun q hq ⟨y, hy, e⟩ => by have := (ho.blk hy).1; omega⟩, by omega⟩
    refine ⟨fun h8 => step 0 ?_, fun h8 => ?_⟩
    · have h8 := of_decide_eq_true h8
      rw [littleB_get (by omega), pow_big hx (by omega)]
      exact byteV_snoc _ 0 (by decide)
    · have h8 := of_decide_eq_false h8
      have e4 : IntKind.i64.wrap (8 * (k : Int)) = ((8 * k : Nat) : Int) := by rw [wrap_i64 (by omega) (by omega)]; omega
      rw [e4, shift_byte, if_pos (by omega)]
      refine ⟨by omega, step _ ?_⟩
      rw [byteV_wrap _ _ (Int.natCast_nonneg _), Int.toNat_natCast, littleB_get (by omega)]
  · have hge := of_decide_eq_false hge
    have : k = n := by omega
    subst this
    rw [List.take_of_length_le (by rw [littleB_length]; omega)] at ho
    exact ⟨_, _, bytes_str (e := T_uint8) (by kernel_rfl) (by kernel_rfl) (by kernel_rfl) l3.cap ho.reads (by rw [ho.len]; simp [byteV]), rfl, hf⟩
end Go.Proofs.YtlohadencnpdgaaDoor

/- Formulas of 5 Go functions of this seat (written by a program of the author's, vcgen.py), and that each is enough for the call. No condition. -/
set_option linter.unusedVariables false
namespace Go.Proofs.YtlohadencnpdgaaDoor
open Go Vc Go.Proofs
set_option maxRecDepth 100000
/-- zip.Check -/
def vc_zip_Check (x0a : Option Addr) (x0n : Nat) (x0c : Nat) (w : World) (R : Value → World → Prop) : Prop :=
  ∃ I1 : Int → Int → World → Prop, ∃ I2 : Int → Int → World → Nat, (I1 0 0 w ∧
   ∀ n3 : Int,
   ∀ n4 : Int,
   ∀ w5 : World,
   (I1 n3 n4 w5 →
     (((decide (n4 < (↑x0n : Int)) = true →
        ((0 ≤ n4 ∧
          n4 < (↑x0n : Int)) ∧
         ∃ a6 : Addr, (x0a = some a6 ∧
          ∃ s7 : ByteArray, ∃ s8 : ByteArray, (Sem.run Tryd.prog (loadVar 32 (Addr.add a6 (Int.toNat n4 * 2))) w5 = Result.ok (Value.agg (Array.mk [Value.string s7, Value.string s8])) w5 ∧
           ∀ w9 : World,
           (w9 = World.alloc w5 (Obj.cells (Array.mk [Value.string (ByteArray.mk (Array.mk [])), Value.string (ByteArray.mk (Array.mk []))]) 32) →
             ∃ w10 : World, (Sem.run Tryd.prog (storeVar 32 (Addr.mk (Array.size (World.heap w5)) 0 none) (Value.agg (Array.mk [Value.string s7, Value.string s8]))) w9 = Result.ok PUnit.unit w10 ∧
              ∃ s11 : ByteArray, (World.cell? w10 (Addr.mk (Array.size (World.heap w5)) 1 none) = some (Value.string s11) ∧
               (I1 (IntKind.wrap IntKind.i64 (n3 + (↑(ByteArray.size s11) : Int))) (IntKind.wrap IntKind.i64 (n4 + 1)) w10 ∧
                I2 (IntKind.wrap IntKind.i64 (n3 + (↑(ByteArray.size s11) : Int))) (IntKind.wrap IntKind.i64 (n4 + 1)) w10 < I2 n3 n4 w5))))))))) ∧
      (decide (n4 < (↑x0n : Int)) = false →
        (((decide ((↑x0n : Int) > 600) = true →
           R (Value.int IntKind.i64 2) w5)) ∧
         (decide ((↑x0n : Int) > 600) = false →
           (((decide (n3 > 1048576) = true →
              R (Value.int IntKind.i64 2) w5)) ∧
            (decide (n3 > 1048576) = false →
              ∃ I12 : Int → World → Prop, ∃ I13 : Int → World → Nat, (I12 0 w5 ∧
               ∀ n14 : Int,
               ∀ w15 : World,
               (I12 n14 w15 →
                 (((decide (n14 < (↑x0n : Int)) = true →
                    ((0 ≤ n14 ∧
                      n14 < (↑x0n : Int)) ∧
                     ∃ a16 : Addr, (x0a = some a16 ∧
                      ∃ s17 : ByteArray, ∃ s18 : ByteArray, (Sem.run Tryd.prog (loadVar 32 (Addr.add a16 (Int.toNat n14 * 2))) w15 = Result.ok (Value.agg (Array.mk [Value.string s17, Value.string s18])) w15 ∧
                       ∀ w19 : World,
                       (w19 = World.alloc w15 (Obj.cells (Array.mk [Value.string (ByteArray.mk (Array.mk [])), Value.string (ByteArray.mk (Array.mk []))]) 32) →
                         ∃ w20 : World, (Sem.run Tryd.prog (storeVar 32 (Addr.mk (Array.size (World.heap w15)) 0 none) (Value.agg (Array.mk [Value.string s17, Value.string s18]))) w19 = Result.ok PUnit.unit w20 ∧
                          ∀ w21 : World,
                          (Drew w20 w21 →
                            ∃ I22 : World → Prop, (I22 w21 ∧
                             ∃ s23 : ByteArray, ((∀ w24 : World,
                              (I22 w24 →
                                World.cell? w24 (Addr.mk (Array.size (World.heap w15)) 0 none) = some (Value.string s23))) ∧
                              Calls Tryd.prog (28 : Nat) (Array.mk [Value.string s23]) (w21) (fun e25 w26 =>
                                ∃ b27 : Bool, (e25 = Ending.returned (Value.bool b27) ∧
                                 (I22 w26 ∧
                                  ((((!b27) = true →
                                     R (Value.int IntKind.i64 4) w26)) ∧
                                   ((!b27) = false →
                                     (((decide (n14 > 0) = true →
                                        ((0 ≤ IntKind.wrap IntKind.i64 (n14 - 1) ∧
                                          IntKind.wrap IntKind.i64 (n14 - 1) < (↑x0n : Int)) ∧
                                         ∃ a28 : Addr, (x0a = some a28 ∧
                                          ∃ s29 : ByteArray, ((∀ w30 : World,
                                           (I22 w30 →
                                             World.cell? w30 (Addr.add a28 (Int.toNat (IntKind.wrap IntKind.i64 (n14 - 1)) * 2)) = some (Value.string s29))) ∧
                                           ∃ s31 : ByteArray, ((∀ w32 : World,
                                            (I22 w32 →
                                              World.cell? w32 (Addr.mk (Array.size (World.heap w15)) 0 none) = some (Value.string s31))) ∧
                                            ((((!Op.bytesLess (ByteArray.toList s29) (ByteArray.toList s31)) = true →
                                               R (Value.int IntKind.i64 4) w26)) ∧
                                             ((!Op.bytesLess (ByteArray.toList s29) (ByteArray.toList s31)) = false →
                                               (I12 (IntKind.wrap IntKind.i64 (n14 + 1)) w26 ∧
                                                I13 (IntKind.wrap IntKind.i64 (n14 + 1)) w26 < I13 n14 w15))))))))) ∧
                                      (decide (n14 > 0) = false →
                                        (I12 (IntKind.wrap IntKind.i64 (n14 + 1)) w26 ∧
                                         I13 (IntKind.wrap IntKind.i64 (n14 + 1)) w26 < I13 n14 w15)))))))))))))))))) ∧
                  (decide (n14 < (↑x0n : Int)) = false →
                    R (Value.int IntKind.i64 0) w15))))))))))))
theorem vc_zip_Check_ok {x0a : Option Addr} {x0n : Nat} {x0c : Nat} {w : World} {R : Value → World → Prop} {R' : Ending → World → Prop} (h : vc_zip_Check x0a x0n x0c w R) (hR : ∀ v w', R v w' → R' (.returned v) w') :
    Calls Tryd.prog 21 #[.slice x0a x0n x0c] w R' :=
  calls_of_body (vs := [(.slice x0a x0n x0c, false)]) (ty := ty) (ann := ⟨[], [(3, [(3, .int .i64), (10, .int .i64)]), (10, [(29, .int .i64)])], [(12, .held [(0, true), (1, true), (2, false), (3, true), (4, true), (5, true), (6, true), (7, true), (8, true), (9, true), (10, true), (11, true), (12, true), (13, true), (14, true), (15, true), (16, true), (17, true), (18, true)])], []⟩) (c := Tryd.f21.body.getD .skip) (by kernel_rfl) Tryd.func21 (by kernel_rfl) (by kernel_rfl) (Eq.mp (by kernel_rfl) h) hR
/-- zip.two -/
def vc_zip_two (x0 : Int) (w : World) (R : Value → World → Prop) : Prop :=
  Calls Tryd.prog (25 : Nat) (Array.mk [Value.int IntKind.u64 (IntKind.wrap IntKind.u64 x0), Value.int IntKind.i64 2]) (w) (fun e1 w2 =>
    ∃ s3 : ByteArray, (e1 = Ending.returned (Value.string s3) ∧
     R (Value.string s3) w2))
theorem vc_zip_two_ok {x0 : Int} {w : World} {R : Value → World → Prop} {R' : Ending → World → Prop} (h : vc_zip_two x0 w R) (hR : ∀ v w', R v w' → R' (.returned v) w') :
    Calls Tryd.prog 14 #[.int .i64 x0] w R' :=
  calls_of_body (vs := [(.int .i64 x0, false)]) (ty := ty) (ann := ⟨[], [], [], []⟩) (c := Tryd.f14.body.getD .skip) (by kernel_rfl) Tryd.func14 (by kernel_rfl) (by kernel_rfl) (Eq.mp (by kernel_rfl) h) hR
/-- zip.four -/
def vc_zip_four (x0 : Int) (w : World) (R : Value → World → Prop) : Prop :=
  Calls Tryd.prog (25 : Nat) (Array.mk [Value.int IntKind.u64 (IntKind.wrap IntKind.u64 x0), Value.int IntKind.i64 4]) (w) (fun e1 w2 =>
    ∃ s3 : ByteArray, (e1 = Ending.returned (Value.string s3) ∧
     R (Value.string s3) w2))
theorem vc_zip_four_ok {x0 : Int} {w : World} {R : Value → World → Prop} {R' : Ending → World → Prop} (h : vc_zip_four x0 w R) (hR : ∀ v w', R v w' → R' (.returned v) w') :
    Calls Tryd.prog 18 #[.int .i64 x0] w R' :=
  calls_of_body (vs := [(.int .i64 x0, false)]) (ty := ty) (ann := ⟨[], [], [], []⟩) (c := Tryd.f18.body.getD .skip) (by kernel_rfl) Tryd.func18 (by kernel_rfl) (by kernel_rfl) (Eq.mp (by kernel_rfl) h) hR
/-- zip.facts -/
def vc_zip_facts (x0 : Int) (x1 : Int) (x2 : Int) (x3 : Int) (x4 : ByteArray) (w : World) (R : Value → World → Prop) : Prop :=
  Calls Tryd.prog (14 : Nat) (Array.mk [Value.int IntKind.i64 (20 : Int)]) (w) (fun e1 w2 =>
    ∃ s3 : ByteArray, (e1 = Ending.returned (Value.string s3) ∧
     Calls Tryd.prog (14 : Nat) (Array.mk [Value.int IntKind.i64 (0 : Int)]) (w2) (fun e4 w5 =>
       ∃ s6 : ByteArray, (e4 = Ending.returned (Value.string s6) ∧
        (ByteArray.size s3 + ByteArray.size s6 ≤ 9223372036854775807 ∧
         Calls Tryd.prog (14 : Nat) (Array.mk [Value.int IntKind.i64 x0]) (w5) (fun e7 w8 =>
           ∃ s9 : ByteArray, (e7 = Ending.returned (Value.string s9) ∧
            (ByteArray.size (s3 ++ s6) + ByteArray.size s9 ≤ 9223372036854775807 ∧
             Calls Tryd.prog (14 : Nat) (Array.mk [Value.int IntKind.i64 (0 : Int)]) (w8) (fun e10 w11 =>
               ∃ s12 : ByteArray, (e10 = Ending.returned (Value.string s12) ∧
                (ByteArray.size (s3 ++ s6 ++ s9) + ByteArray.size s12 ≤ 9223372036854775807 ∧
                 Calls Tryd.prog (14 : Nat) (Array.mk [Value.int IntKind.i64 (0 : Int)]) (w11) (fun e13 w14 =>
                   ∃ s15 : ByteArray, (e13 = Ending.returned (Value.string s15) ∧
                    (ByteArray.size (s3 ++ s6 ++ s9 ++ s12) + ByteArray.size s15 ≤ 9223372036854775807 ∧
                     Calls Tryd.prog (18 : Nat) (Array.mk [Value.int IntKind.i64 (IntKind.wrap IntKind.i64 x1)]) (w14) (fun e16 w17 =>
                       ∃ s18 : ByteArray, (e16 = Ending.returned (Value.string s18) ∧
                        (ByteArray.size (s3 ++ s6 ++ s9 ++ s12 ++ s15) + ByteArray.size s18 ≤ 9223372036854775807 ∧
                         Calls Tryd.prog (18 : Nat) (Array.mk [Value.int IntKind.i64 x2]) (w17) (fun e19 w20 =>
                           ∃ s21 : ByteArray, (e19 = Ending.returned (Value.string s21) ∧
                            (ByteArray.size (s3 ++ s6 ++ s9 ++ s12 ++ s15 ++ s18) + ByteArray.size s21 ≤ 9223372036854775807 ∧
                             Calls Tryd.prog (18 : Nat) (Array.mk [Value.int IntKind.i64 x3]) (w20) (fun e22 w23 =>
                               ∃ s24 : ByteArray, (e22 = Ending.returned (Value.string s24) ∧
                                (ByteArray.size (s3 ++ s6 ++ s9 ++ s12 ++ s15 ++ s18 ++ s21) + ByteArray.size s24 ≤ 9223372036854775807 ∧
                                 Calls Tryd.prog (14 : Nat) (Array.mk [Value.int IntKind.i64 (↑(ByteArray.size x4) : Int)]) (w23) (fun e25 w26 =>
                                   ∃ s27 : ByteArray, (e25 = Ending.returned (Value.string s27) ∧
                                    (ByteArray.size (s3 ++ s6 ++ s9 ++ s12 ++ s15 ++ s18 ++ s21 ++ s24) + ByteArray.size s27 ≤ 9223372036854775807 ∧
                                     Calls Tryd.prog (14 : Nat) (Array.mk [Value.int IntKind.i64 (0 : Int)]) (w26) (fun e28 w29 =>
                                       ∃ s30 : ByteArray, (e28 = Ending.returned (Value.string s30) ∧
                                        (ByteArray.size (s3 ++ s6 ++ s9 ++ s12 ++ s15 ++ s18 ++ s21 ++ s24 ++ s27) + ByteArray.size s30 ≤ 9223372036854775807 ∧
                                         R (Value.string (s3 ++ s6 ++ s9 ++ s12 ++ s15 ++ s18 ++ s21 ++ s24 ++ s27 ++ s30)) w29)))))))))))))))))))))))))))))
theorem vc_zip_facts_ok {x0 : Int} {x1 : Int} {x2 : Int} {x3 : Int} {x4 : ByteArray} {w : World} {R : Value → World → Prop} {R' : Ending → World → Prop} (h : vc_zip_facts x0 x1 x2 x3 x4 w R) (hR : ∀ v w', R v w' → R' (.returned v) w') :
    Calls Tryd.prog 22 #[.int .i64 x0, .int .u32 x1, .int .i64 x2, .int .i64 x3, .string x4] w R' :=
  calls_of_body (vs := [(.int .i64 x0, false), (.int .u32 x1, false), (.int .i64 x2, false), (.int .i64 x3, false), (.string x4, false)]) (ty := ty) (ann := ⟨[], [], [], []⟩) (c := Tryd.f22.body.getD .skip) (by kernel_rfl) Tryd.func22 (by kernel_rfl) (by kernel_rfl) (Eq.mp (by kernel_rfl) h) hR
/-- zip.Write -/
def vc_zip_Write (x0a : Option Addr) (x0n : Nat) (x0c : Nat) (w : World) (R : Value → World → Prop) : Prop :=
  Calls Tryd.prog (21 : Nat) (Array.mk [Value.slice x0a x0n x0c]) (w) (fun e1 w2 =>
    ∃ n3 : Int, (e1 = Ending.returned (Value.int IntKind.i64 n3) ∧
     ((((n3 != 0) = true →
        R (Value.tuple (Array.mk [Value.string (ByteArray.mk (Array.mk [])), Value.int IntKind.i64 n3])) w2)) ∧
      ((n3 != 0) = false →
        ∀ w4 : World,
        (w4 = World.alloc w2 (Obj.cells (Array.mk []) 5) →
          ∀ w5 : World,
          (w5 = World.alloc w4 (Obj.cells (Array.mk []) 5) →
            ∃ I6 : Sl → Sl → Int → World → Prop, ∃ I7 : Sl → Sl → Int → World → Nat, (I6 (Sl.mk (some (Addr.mk (Array.size (World.heap w2)) 0 none)) 0 0) (Sl.mk (some (Addr.mk (Array.size (World.heap w4)) 0 none)) 0 0) 0 w5 ∧
             ∀ l8 : Sl,
             ∀ l9 : Sl,
             ∀ n10 : Int,
             ∀ w11 : World,
             (I6 l8 l9 n10 w11 →
               (((decide (n10 < (↑x0n : Int)) = true →
                  ((0 ≤ n10 ∧
                    n10 < (↑x0n : Int)) ∧
                   ∃ a12 : Addr, (x0a = some a12 ∧
                    ∃ s13 : ByteArray, ∃ s14 : ByteArray, (Sem.run Tryd.prog (loadVar 32 (Addr.add a12 (Int.toNat n10 * 2))) w11 = Result.ok (Value.agg (Array.mk [Value.string s13, Value.string s14])) w11 ∧
                     ∀ w15 : World,
                     (w15 = World.alloc w11 (Obj.cells (Array.mk [Value.string (ByteArray.mk (Array.mk [])), Value.string (ByteArray.mk (Array.mk []))]) 32) →
                       ∃ w16 : World, (Sem.run Tryd.prog (storeVar 32 (Addr.mk (Array.size (World.heap w11)) 0 none) (Value.agg (Array.mk [Value.string s13, Value.string s14]))) w15 = Result.ok PUnit.unit w16 ∧
                        ∀ w17 : World,
                        (Drew w16 w17 →
                          ∃ I18 : World → Prop, (I18 w17 ∧
                           ∃ s19 : ByteArray, ((∀ w20 : World,
                            (I18 w20 →
                              World.cell? w20 (Addr.mk (Array.size (World.heap w11)) 1 none) = some (Value.string s19))) ∧
                            ∃ s21 : ByteArray, ((∀ w22 : World,
                             (I18 w22 →
                               World.cell? w22 (Addr.mk (Array.size (World.heap w11)) 1 none) = some (Value.string s21))) ∧
                             ∃ s23 : ByteArray, ((∀ w24 : World,
                              (I18 w24 →
                                World.cell? w24 (Addr.mk (Array.size (World.heap w11)) 1 none) = some (Value.string s23))) ∧
                              ∃ s25 : ByteArray, ((∀ w26 : World,
                               (I18 w26 →
                                 World.cell? w26 (Addr.mk (Array.size (World.heap w11)) 0 none) = some (Value.string s25))) ∧
                               Calls Tryd.prog (23 : Nat) (Array.mk [Value.string s19]) (w17) (fun e27 w28 =>
                                 ∃ n29 : Int, (e27 = Ending.returned (Value.int IntKind.u32 n29) ∧
                                  (I18 w28 ∧
                                   Calls Tryd.prog (22 : Nat) (Array.mk [Value.int IntKind.i64 0, Value.int IntKind.u32 n29, Value.int IntKind.i64 (↑(ByteArray.size s21) : Int), Value.int IntKind.i64 (↑(ByteArray.size s23) : Int), Value.string s25]) (w28) (fun e30 w31 =>
                                     ∃ s32 : ByteArray, (e30 = Ending.returned (Value.string s32) ∧
                                      (I18 w31 ∧
                                       ∀ w33 : World,
                                       (Drew w31 w33 →
                                         ∃ I34 : World → Prop, (I34 w33 ∧
                                          ∃ s35 : ByteArray, ((∀ w36 : World,
                                           (I34 w36 →
                                             World.cell? w36 (Addr.mk (Array.size (World.heap w11)) 0 none) = some (Value.string s35))) ∧
                                           Calls Tryd.prog (14 : Nat) (Array.mk [Value.int IntKind.i64 (20 : Int)]) (w33) (fun e37 w38 =>
                                             ∃ s39 : ByteArray, (e37 = Ending.returned (Value.string s39) ∧
                                              (I34 w38 ∧
                                               (ByteArray.size (ByteArray.mk (Array.mk [80, 75, 1, 2])) + ByteArray.size s39 ≤ 9223372036854775807 ∧
                                                (ByteArray.size (ByteArray.mk (Array.mk [80, 75, 1, 2]) ++ s39) + ByteArray.size s32 ≤ 9223372036854775807 ∧
                                                 Calls Tryd.prog (14 : Nat) (Array.mk [Value.int IntKind.i64 (0 : Int)]) (w38) (fun e40 w41 =>
                                                   ∃ s42 : ByteArray, (e40 = Ending.returned (Value.string s42) ∧
                                                    (I34 w41 ∧
                                                     (ByteArray.size (ByteArray.mk (Array.mk [80, 75, 1, 2]) ++ s39 ++ s32) + ByteArray.size s42 ≤ 9223372036854775807 ∧
                                                      Calls Tryd.prog (14 : Nat) (Array.mk [Value.int IntKind.i64 (0 : Int)]) (w41) (fun e43 w44 =>
                                                        ∃ s45 : ByteArray, (e43 = Ending.returned (Value.string s45) ∧
                                                         (I34 w44 ∧
                                                          (ByteArray.size (ByteArray.mk (Array.mk [80, 75, 1, 2]) ++ s39 ++ s32 ++ s42) + ByteArray.size s45 ≤ 9223372036854775807 ∧
                                                           Calls Tryd.prog (14 : Nat) (Array.mk [Value.int IntKind.i64 (0 : Int)]) (w44) (fun e46 w47 =>
                                                             ∃ s48 : ByteArray, (e46 = Ending.returned (Value.string s48) ∧
                                                              (I34 w47 ∧
                                                               (ByteArray.size (ByteArray.mk (Array.mk [80, 75, 1, 2]) ++ s39 ++ s32 ++ s42 ++ s45) + ByteArray.size s48 ≤ 9223372036854775807 ∧
                                                                Calls Tryd.prog (18 : Nat) (Array.mk [Value.int IntKind.i64 (0 : Int)]) (w47) (fun e49 w50 =>
                                                                  ∃ s51 : ByteArray, (e49 = Ending.returned (Value.string s51) ∧
                                                                   (I34 w50 ∧
                                                                    (ByteArray.size (ByteArray.mk (Array.mk [80, 75, 1, 2]) ++ s39 ++ s32 ++ s42 ++ s45 ++ s48) + ByteArray.size s51 ≤ 9223372036854775807 ∧
                                                                     Calls Tryd.prog (18 : Nat) (Array.mk [Value.int IntKind.i64 (↑l8.2 : Int)]) (w50) (fun e52 w53 =>
                                                                       ∃ s54 : ByteArray, (e52 = Ending.returned (Value.string s54) ∧
                                                                        (I34 w53 ∧
                                                                         (ByteArray.size (ByteArray.mk (Array.mk [80, 75, 1, 2]) ++ s39 ++ s32 ++ s42 ++ s45 ++ s48 ++ s51) + ByteArray.size s54 ≤ 9223372036854775807 ∧
                                                                          (ByteArray.size (ByteArray.mk (Array.mk [80, 75, 1, 2]) ++ s39 ++ s32 ++ s42 ++ s45 ++ s48 ++ s51 ++ s54) + ByteArray.size s35 ≤ 9223372036854775807 ∧
                                                                           ∃ w55 : World, ∃ l56 : Sl, (Sem.run Tryd.prog (Builtin.append_ (Array.mk [54, 9]) 54 (Array.mk [Value.slice l9.1 l9.2 l9.3, Value.string (ByteArray.mk (Array.mk [80, 75, 1, 2]) ++ s39 ++ s32 ++ s42 ++ s45 ++ s48 ++ s51 ++ s54 ++ s35)])) w53 = Result.ok (Value.slice l56.1 l56.2 l56.3) w55 ∧
                                                                            (I34 w55 ∧
                                                                             (ByteArray.size (ByteArray.mk (Array.mk [80, 75, 3, 4])) + ByteArray.size s32 ≤ 9223372036854775807 ∧
                                                                              ∃ s57 : ByteArray, (World.cell? w55 (Addr.mk (Array.size (World.heap w11)) 0 none) = some (Value.string s57) ∧
                                                                               (ByteArray.size (ByteArray.mk (Array.mk [80, 75, 3, 4]) ++ s32) + ByteArray.size s57 ≤ 9223372036854775807 ∧
                                                                                ∃ s58 : ByteArray, (World.cell? w55 (Addr.mk (Array.size (World.heap w11)) 1 none) = some (Value.string s58) ∧
                                                                                 (ByteArray.size (ByteArray.mk (Array.mk [80, 75, 3, 4]) ++ s32 ++ s57) + ByteArray.size s58 ≤ 9223372036854775807 ∧
                                                                                  ∃ w59 : World, ∃ l60 : Sl, (Sem.run Tryd.prog (Builtin.append_ (Array.mk [54, 9]) 54 (Array.mk [Value.slice l8.1 l8.2 l8.3, Value.string (ByteArray.mk (Array.mk [80, 75, 3, 4]) ++ s32 ++ s57 ++ s58)])) w55 = Result.ok (Value.slice l60.1 l60.2 l60.3) w59 ∧
                                                                                   (I6 (Sl.mk l60.1 l60.2 l60.3) (Sl.mk l56.1 l56.2 l56.3) (IntKind.wrap IntKind.i64 (n10 + 1)) w59 ∧
                                                                                    I7 (Sl.mk l60.1 l60.2 l60.3) (Sl.mk l56.1 l56.2 l56.3) (IntKind.wrap IntKind.i64 (n10 + 1)) w59 < I7 l8 l9 n10 w11))))))))))))))))))))))))))))))))))))))))))))))))))))))))) ∧
                (decide (n10 < (↑x0n : Int)) = false →
                  Calls Tryd.prog (14 : Nat) (Array.mk [Value.int IntKind.i64 (↑x0n : Int)]) (w11) (fun e61 w62 =>
                    ∃ s63 : ByteArray, (e61 = Ending.returned (Value.string s63) ∧
                     Calls Tryd.prog (14 : Nat) (Array.mk [Value.int IntKind.i64 (0 : Int)]) (w62) (fun e64 w65 =>
                       ∃ s66 : ByteArray, (e64 = Ending.returned (Value.string s66) ∧
                        (ByteArray.size (ByteArray.mk (Array.mk [80, 75, 5, 6])) + ByteArray.size s66 ≤ 9223372036854775807 ∧
                         Calls Tryd.prog (14 : Nat) (Array.mk [Value.int IntKind.i64 (0 : Int)]) (w65) (fun e67 w68 =>
                           ∃ s69 : ByteArray, (e67 = Ending.returned (Value.string s69) ∧
                            (ByteArray.size (ByteArray.mk (Array.mk [80, 75, 5, 6]) ++ s66) + ByteArray.size s69 ≤ 9223372036854775807 ∧
                             (ByteArray.size (ByteArray.mk (Array.mk [80, 75, 5, 6]) ++ s66 ++ s69) + ByteArray.size s63 ≤ 9223372036854775807 ∧
                              (ByteArray.size (ByteArray.mk (Array.mk [80, 75, 5, 6]) ++ s66 ++ s69 ++ s63) + ByteArray.size s63 ≤ 9223372036854775807 ∧
                               Calls Tryd.prog (18 : Nat) (Array.mk [Value.int IntKind.i64 (↑l9.2 : Int)]) (w68) (fun e70 w71 =>
                                 ∃ s72 : ByteArray, (e70 = Ending.returned (Value.string s72) ∧
                                  (ByteArray.size (ByteArray.mk (Array.mk [80, 75, 5, 6]) ++ s66 ++ s69 ++ s63 ++ s63) + ByteArray.size s72 ≤ 9223372036854775807 ∧
                                   Calls Tryd.prog (18 : Nat) (Array.mk [Value.int IntKind.i64 (↑l8.2 : Int)]) (w71) (fun e73 w74 =>
                                     ∃ s75 : ByteArray, (e73 = Ending.returned (Value.string s75) ∧
                                      (ByteArray.size (ByteArray.mk (Array.mk [80, 75, 5, 6]) ++ s66 ++ s69 ++ s63 ++ s63 ++ s72) + ByteArray.size s75 ≤ 9223372036854775807 ∧
                                       Calls Tryd.prog (14 : Nat) (Array.mk [Value.int IntKind.i64 (0 : Int)]) (w74) (fun e76 w77 =>
                                         ∃ s78 : ByteArray, (e76 = Ending.returned (Value.string s78) ∧
                                          (ByteArray.size (ByteArray.mk (Array.mk [80, 75, 5, 6]) ++ s66 ++ s69 ++ s63 ++ s63 ++ s72 ++ s75) + ByteArray.size s78 ≤ 9223372036854775807 ∧
                                           ∃ w79 : World, ∃ l80 : Sl, (Sem.run Tryd.prog (Builtin.append_ (Array.mk [54, 54]) 54 (Array.mk [Value.slice l8.1 l8.2 l8.3, Value.slice l9.1 l9.2 l9.3])) w77 = Result.ok (Value.slice l80.1 l80.2 l80.3) w79 ∧
                                            ∃ w81 : World, ∃ l82 : Sl, (Sem.run Tryd.prog (Builtin.append_ (Array.mk [54, 9]) 54 (Array.mk [Value.slice l80.1 l80.2 l80.3, Value.string (ByteArray.mk (Array.mk [80, 75, 5, 6]) ++ s66 ++ s69 ++ s63 ++ s63 ++ s72 ++ s75 ++ s78)])) w79 = Result.ok (Value.slice l82.1 l82.2 l82.3) w81 ∧
                                             ∃ w83 : World, ∃ s84 : ByteArray, (Sem.run Tryd.prog (convert 54 9 (Value.slice l82.1 l82.2 l82.3)) w81 = Result.ok (Value.string s84) w83 ∧
                                              R (Value.tuple (Array.mk [Value.string s84, Value.int IntKind.i64 0])) w83))))))))))))))))))))))))))))))))
theorem vc_zip_Write_ok {x0a : Option Addr} {x0n : Nat} {x0c : Nat} {w : World} {R : Value → World → Prop} {R' : Ending → World → Prop} (h : vc_zip_Write x0a x0n x0c w R) (hR : ∀ v w', R v w' → R' (.returned v) w') :
    Calls Tryd.prog 7 #[.slice x0a x0n x0c] w R' :=
  calls_of_body (vs := [(.slice x0a x0n x0c, false)]) (ty := ty) (ann := ⟨[], [(6, [(5, .slice), (6, .slice), (21, .int .i64)])], [(8, .held [(0, true), (1, true), (3, true), (4, true), (5, true), (6, true), (7, true), (8, true), (9, true), (10, true), (2, false), (11, false), (12, true)]), (9, .held [(0, true), (3, true), (13, true), (14, true), (17, true), (18, true), (1, false), (2, true), (4, true), (5, false), (6, true), (7, false), (8, true), (9, false), (10, true), (11, false), (12, true), (15, false), (16, true), (19, true), (20, false), (21, true)])], []⟩) (c := Tryd.f7.body.getD .skip) (by kernel_rfl) Tryd.func7 (by kernel_rfl) (by kernel_rfl) (Eq.mp (by kernel_rfl) h) hR
end Go.Proofs.YtlohadencnpdgaaDoor

/- The package zip's writer: Check, two, four, facts, Write. Conditions: at most a hundred thousand files, texts no longer than memory. -/
set_option linter.unusedVariables false
namespace Go.Proofs.YtlohadencnpdgaaDoor
open Go Vc SumM Go.Proofs

theorem zcheck_spec {w : World} {a : Option Addr} {n c : Nat} {ys : List FileE} (hr : ReadsK encF 2 w a ys) (hn : ys.length = n) (hl : n ≤ 100000) (hp : ∀ y ∈ ys, y.path.size ≤ 140737488355328) (ht : totalF ys ≤ 4611686018427387904) :
    Calls Tryd.prog F_zip_Check #[.slice a n c] w fun e w' => e = .returned (.int .i64 (zchk ys)) ∧ Fr (fun _ => False) w w' := by
  refine vc_zip_Check_ok (R := fun v w' => v = .int .i64 (zchk ys) ∧ Fr (fun _ => False) w w') ?_ (fun v w' h => ⟨by rw [h.1], h.2⟩)
  refine ⟨fun z i w' => ∃ k : Nat, i = k ∧ k ≤ ys.length ∧ z = (totalF (ys.take k) : Int) ∧ Fr (fun _ => False) w w', fun z i _ => ys.length - i.toNat, ⟨0, rfl, Nat.zero_le _, rfl, .refl _ _⟩, ?_⟩
  rintro z i w5 ⟨k, rfl, hk, rfl, hf⟩
  have hT := totalF_le ys k
  refine ⟨fun hlt => ?_, fun hge => ?_⟩
  · have hlt := of_decide_eq_true hlt
    have hkl : k < ys.length := by omega
    have hx : ys[k]? = some ys[k] := List.getElem?_eq_getElem hkl
    generalize ys[k] = x at hx
    obtain ⟨ad, had, hld⟩ := ((hr.keep hf (by simp)).load elF hx)
    refine ⟨⟨by omega, by omega⟩, ad, had, x.path, x.data, by rw [Int.toNat_natCast]; exact hld, fun w10 h10 => ?_⟩
    subst h10
    have hT2 := totalF_take hx
    have hT3 := totalF_le ys (k + 1)
    have e1 : IntKind.i64.wrap ((k : Int) + 1) = ((k + 1 : Nat) : Int) := by rw [wrap_i64 (by omega) (by omega)]; omega
    have e2 : IntKind.i64.wrap ((totalF (ys.take k) : Int) + (x.data.size : Int)) = (totalF (ys.take (k + 1)) : Int) := by rw [wrap_i64 (by omega) (by omega)]; omega
    refine ⟨_, boxF_run w5 x, x.data, boxF_cell w5 x (X := fun _ => False) (.refl _ _) (by simp) (j := 1) rfl, ?_⟩
    rw [e1, e2]
    exact ⟨⟨k + 1, rfl, by omega, rfl, hf.trans' (.alloc _ _ _)⟩, by dsimp only; omega⟩
  · have hge := of_decide_eq_false hge
    have hk' : k = ys.length := by omega
    subst hk'
    rw [List.take_length]
    refine ⟨fun h => ⟨?_, hf⟩, fun h1 => ⟨fun h => ⟨?_, hf⟩, fun h2 => ?_⟩⟩
    · have h := of_decide_eq_true h
      unfold zchk; rw [if_pos (.inl (by omega))]
    · have h := of_decide_eq_true h
      unfold zchk; rw [if_pos (.inr (by omega))]
    have h1 := of_decide_eq_false h1
    have h2 := of_decide_eq_false h2
    have hc2 : ¬ (600 < ys.length ∨ 1048576 < totalF ys) := by omega
    refine ⟨fun i w' => ∃ k : Nat, i = k ∧ k ≤ ys.length ∧ (∀ j, j < k → okZ ys j = true) ∧ Fr (fun _ => False) w w', fun i _ => ys.length - i.toNat, ⟨0, rfl, Nat.zero_le _, fun j hj => by omega, hf⟩, ?_⟩
    clear hf
    rintro i w15 ⟨k, rfl, hk, hok, hf⟩
    refine ⟨fun hlt => ?_, fun hge => ⟨?_, hf⟩⟩
    · have hlt := of_decide_eq_true hlt
      have hkl : k < ys.length := by omega
      have hx : ys[k]? = some ys[k] := List.getElem?_eq_getElem hkl
      generalize ys[k] = x at hx
      have hxm := List.mem_of_getElem? hx
      obtain ⟨ad, had, hld⟩ := ((hr.keep hf (by simp)).load elF hx)
      refine ⟨⟨by omega, by omega⟩, ad, had, x.path, x.data, by rw [Int.toNat_natCast]; exact hld, fun w19 h19 => ?_⟩
      subst h19
      obtain ⟨w20, hw20⟩ : ∃ w20, w15.alloc (.cells (encF x).toArray T_api_File) = w20 := ⟨_, rfl⟩
      have hfb : Fr (fun _ => False) w15 w20 := by rw [← hw20]; exact .alloc _ _ _
      have hcell : ∀ w', Fr (fun _ => False) w20 w' → w'.cell? ⟨w15.heap.size, 0, none⟩ = some (.string x.path) := fun w' hw' => by
        rw [← hw20] at hw'; exact boxF_cell w15 x hw' (by simp) (j := 0) rfl
      refine ⟨w20, by rw [← hw20]; exact boxF_run w15 x, fun w21 d21 => ⟨fun w' => Fr (fun _ => False) w21 w', .refl _ _, x.path, fun w' hw' => hcell w' (.trans' (.drew _ d21) hw'), (clean_spec x.path (hp x hxm) w21).mono ?_⟩⟩
      rintro e w26 ⟨rfl, hf26⟩
      have hfw : Fr (fun _ => False) w w26 := ((hf.trans' hfb).trans' (.drew _ d21)).trans' hf26
      have hbad : okZ ys k = false → zchk ys = 4 := fun h => by
        unfold zchk
        rw [if_neg hc2, if_neg]
        intro ha
        rw [List.all_eq_true.1 ha k (List.mem_range.2 hkl)] at h
        cases h
      have e1 : IntKind.i64.wrap ((k : Int) + 1) = ((k + 1 : Nat) : Int) := by rw [wrap_i64 (by omega) (by omega)]; omega
      rw [e1]
      have hnext : okZ ys k = true → (∃ k' : Nat, ((k + 1 : Nat) : Int) = k' ∧ k' ≤ ys.length ∧ (∀ j, j < k' → okZ ys j = true) ∧ Fr (fun _ => False) w w26) ∧ ys.length - ((k + 1 : Nat) : Int).toNat < ys.length - ((k : Int)).toNat := fun h => by
        refine ⟨⟨k + 1, rfl, by omega, fun j hj => ?_, hfw⟩, by omega⟩
        by_cases hjk : j = k
        · rw [hjk]; exact h
        · exact hok j (by omega)
      refine ⟨_, rfl, hf26, fun h => ⟨?_, hfw⟩, fun h => ⟨fun hpos => ?_, fun hpos => hnext ?_⟩⟩
      · have h : cleanB x.path = false := by simpa using h
        rw [hbad (by unfold okZ; rw [hx]; simp only [h, Bool.false_and])]
      · have h : cleanB x.path = true := by simpa using h
        have hpos := of_decide_eq_true hpos
        have hx1 : ys[k - 1]? = some ys[k - 1] := List.getElem?_eq_getElem (by omega)
        generalize ys[k - 1] = y at hx1
        have e2 : IntKind.i64.wrap ((k : Int) - 1) = ((k - 1 : Nat) : Int) := by rw [wrap_i64 (by omega) (by omega)]; omega
        rw [e2]
        have hk0 : decide (k = 0) = false := decide_eq_false (by omega)
        have hrd : ∀ w', Fr (fun _ => False) w21 w' → ∃ ad', a = some ad' ∧ w'.cell? (ad'.add ((k - 1) * 2)) = some (.string y.path) := fun w' hw' => by
          obtain ⟨ad', had', hrd⟩ := (hr.keep (((hf.trans' hfb).trans' (.drew _ d21)).trans' hw') (by simp)) (k - 1) y hx1
          have hz0 : ∀ q : Addr, q.add 0 = q := fun q => by cases q; rfl
          have h0 := hrd 0 (.string y.path) rfl
          rw [hz0] at h0
          exact ⟨ad', had', h0⟩
        refine ⟨⟨by omega, by omega⟩, ad, had, y.path, fun w' hw' => ?_, x.path, fun w' hw' => hcell w' (.trans' (.drew _ d21) hw'), fun hl => ⟨?_, hfw⟩, fun hl => hnext ?_⟩
        · obtain ⟨ad', had', h0⟩ := hrd w' hw'
          rw [had] at had'; cases had'
          rw [Int.toNat_natCast]; exact h0
        · rw [ByteArray.toList_eq, ByteArray.toList_eq, Proofs.bytesLess_eq] at hl
          have hl : decide (y.path.data.toList < x.path.data.toList) = false := by simpa using hl
          rw [hbad (by unfold okZ; rw [hx, hx1]; simp only [hl, hk0, Bool.false_or, Bool.and_false])]
        · rw [ByteArray.toList_eq, ByteArray.toList_eq, Proofs.bytesLess_eq] at hl
          have hl : decide (y.path.data.toList < x.path.data.toList) = true := by simpa using hl
          unfold okZ; rw [hx, hx1]; simp only [hl, h, Bool.or_true, Bool.and_true]
      · have h : cleanB x.path = true := by simpa using h
        have hpos := of_decide_eq_false hpos
        have hk0 : k = 0 := by omega
        unfold okZ; rw [hx]; simp only [h, decide_eq_true hk0, Bool.true_or, Bool.and_true]
    · have hge := of_decide_eq_false hge
      have hk' : k = ys.length := by omega
      unfold zchk
      rw [if_neg hc2, if_pos]
      exact List.all_eq_true.2 fun j hj => hok j (by rw [hk']; exact List.mem_range.1 hj)
theorem two_spec (n : Nat) (hn : n < 9223372036854775808) (w : World) : Calls Tryd.prog F_zip_two #[.int .i64 (n : Int)] w fun e w' => e = .returned (.string ⟨(littleB 2 n).toArray⟩) ∧ Fr (fun _ => False) w w' := by
  refine vc_zip_two_ok (R := fun v w' => v = .string ⟨(littleB 2 n).toArray⟩ ∧ Fr (fun _ => False) w w') ?_ (fun v w' h => ⟨by rw [h.1], h.2⟩)
  unfold vc_zip_two
  rw [wrap_u64 (by omega) (by omega)]
  refine (littleS_spec n 2 (by omega) (by decide) w).mono ?_
  rintro e w2 ⟨rfl, hf⟩
  exact ⟨_, rfl, rfl, hf⟩
theorem four_spec (n : Nat) (hn : n < 9223372036854775808) (w : World) : Calls Tryd.prog F_zip_four #[.int .i64 (n : Int)] w fun e w' => e = .returned (.string ⟨(littleB 4 n).toArray⟩) ∧ Fr (fun _ => False) w w' := by
  refine vc_zip_four_ok (R := fun v w' => v = .string ⟨(littleB 4 n).toArray⟩ ∧ Fr (fun _ => False) w w') ?_ (fun v w' h => ⟨by rw [h.1], h.2⟩)
  unfold vc_zip_four
  rw [wrap_u64 (by omega) (by omega)]
  refine (littleS_spec n 4 (by omega) (by decide) w).mono ?_
  rintro e w2 ⟨rfl, hf⟩
  exact ⟨_, rfl, rfl, hf⟩
theorem le_size (n x : Nat) : (ByteArray.mk (littleB n x).toArray).size = n := by rw [bs_mksize, littleB_length]
theorem facts_spec (m crc p sz : Nat) (hm : m < 65536) (hc : crc < 4294967296) (hp : p < 4294967296) (hs : sz < 4294967296) (name : ByteArray) (hn : name.size < 9223372036854775808) (w : World) :
    Calls Tryd.prog F_zip_facts #[.int .i64 (m : Int), .int .u32 (crc : Int), .int .i64 (p : Int), .int .i64 (sz : Int), .string name] w fun e w' => e = .returned (.string ⟨(factsL m crc p sz name.size).toArray⟩) ∧ Fr (fun _ => False) w w' := by
  refine vc_zip_facts_ok (R := fun v w' => v = .string ⟨(factsL m crc p sz name.size).toArray⟩ ∧ Fr (fun _ => False) w w') ?_ (fun v w' h => ⟨by rw [h.1], h.2⟩)
  unfold vc_zip_facts
  rw [wrap_i64 (x := (crc : Int)) (by omega) (by omega)]
  refine (two_spec 20 (by decide) w).mono ?_
  rintro e w2 ⟨rfl, f2⟩
  refine ⟨_, rfl, (two_spec 0 (by decide) w2).mono ?_⟩
  rintro e w5 ⟨rfl, f5⟩
  refine ⟨_, rfl, by simp only [le_size]; omega, (two_spec m (by omega) w5).mono ?_⟩
  rintro e w8 ⟨rfl, f8⟩
  refine ⟨_, rfl, by simp only [ByteArray.size_append, le_size]; omega, (two_spec 0 (by decide) w8).mono ?_⟩
  rintro e w11 ⟨rfl, f11⟩
  refine ⟨_, rfl, by simp only [ByteArray.size_append, le_size]; omega, (two_spec 0 (by decide) w11).mono ?_⟩
  rintro e w14 ⟨rfl, f14⟩
  refine ⟨_, rfl, by simp only [ByteArray.size_append, le_size]; omega, (four_spec crc (by omega) w14).mono ?_⟩
  rintro e w17 ⟨rfl, f17⟩
  refine ⟨_, rfl, by simp only [ByteArray.size_append, le_size]; omega, (four_spec p (by omega) w17).mono ?_⟩
  rintro e w20 ⟨rfl, f20⟩
  refine ⟨_, rfl, by simp only [ByteArray.size_append, le_size]; omega, (four_spec sz (by omega) w20).mono ?_⟩
  rintro e w23 ⟨rfl, f23⟩
  refine ⟨_, rfl, by simp only [ByteArray.size_append, le_size]; omega, (two_spec name.size hn w23).mono ?_⟩
  rintro e w26 ⟨rfl, f26⟩
  refine ⟨_, rfl, by simp only [ByteArray.size_append, le_size]; omega, (two_spec 0 (by decide) w26).mono ?_⟩
  rintro e w29 ⟨rfl, f29⟩
  refine ⟨_, rfl, by simp only [ByteArray.size_append, le_size]; omega, ?_, (((((((((f2.trans' f5).trans' f8).trans' f11).trans' f14).trans' f17).trans' f20).trans' f23).trans' f26).trans' f29)⟩
  congr 1
end Go.Proofs.YtlohadencnpdgaaDoor

/- zip.Write: the archive of stored files, or the error. Conditions: at most a hundred thousand files, texts no longer than memory. -/
set_option linter.unusedVariables false
namespace Go.Proofs.YtlohadencnpdgaaDoor
open Go Vc SumM Go.Proofs

def zipE (ys : List FileE) : ByteArray := if zchk ys = 0 then ⟨(zipL ys).toArray⟩ else ⟨#[]⟩
set_option maxHeartbeats 1600000 in
theorem zwrite_spec {w : World} {a : Option Addr} {n c : Nat} {ys : List FileE} (hr : ReadsK encF 2 w a ys) (hn : ys.length = n) (hl : n ≤ 100000) (hp : ∀ y ∈ ys, y.path.size ≤ 140737488355328) (ht : totalF ys ≤ 4611686018427387904) :
    Calls Tryd.prog F_zip_Write #[.slice a n c] w fun e w' => e = .returned (.tuple #[.string (zipE ys), .int .i64 (zchk ys)]) ∧ Fr (fun _ => False) w w' := by
  refine vc_zip_Write_ok (R := fun v w' => v = .tuple #[.string (zipE ys), .int .i64 (zchk ys)] ∧ Fr (fun _ => False) w w') ?_ (fun v w' h => ⟨by rw [h.1], h.2⟩)
  refine (zcheck_spec hr hn hl hp ht).mono ?_
  rintro e w2 ⟨rfl, hf2⟩
  refine ⟨_, rfl, fun h => ⟨?_, hf2⟩, fun h => ?_⟩
  · unfold zipE; rw [if_neg (by simpa using h)]
  have h0 : zchk ys = 0 := by simpa using h
  obtain ⟨hy600, hytot, hycl⟩ := zchk_ok h0
  have hy200 : ∀ y ∈ ys, y.path.size ≤ 200 := fun y hy => by
    have := hycl y hy
    unfold cleanB at this
    simp only [Bool.and_eq_true, decide_eq_true_eq] at this
    omega
  have hyd : ∀ y ∈ ys, y.data.size ≤ 1048576 := fun y hy => by
    have : ∀ zs : List FileE, y ∈ zs → y.data.size ≤ totalF zs := fun zs => by
      induction zs with
      | nil => intro h; simp at h
      | cons z r ih =>
        intro h
        unfold totalF at *
        rw [List.map_cons, List.sum_cons]
        rcases List.mem_cons.1 h with rfl | h
        · omega
        · have := ih h; omega
    have := this ys hy
    omega
  have hout : ∀ k, (outL (ys.take k)).length ≤ 1200000 := fun k => by
    have h1 := outL_len (B := 200) (ys.take k) fun y hy => hy200 y (List.mem_of_mem_take hy)
    have h2 := totalF_le ys k
    rw [List.length_take] at h1
    have h3 : min k ys.length * (30 + 200) ≤ 600 * 230 := Nat.mul_le_mul (by omega) (by omega)
    omega
  have hidx : ∀ k, (idxL 0 (ys.take k)).length ≤ 200000 := fun k => by
    have h1 := idxL_len (B := 200) 0 (ys.take k) fun y hy => hy200 y (List.mem_of_mem_take hy)
    rw [List.length_take] at h1
    have h3 : min k ys.length * (46 + 200) ≤ 600 * 246 := Nat.mul_le_mul (by omega) (by omega)
    omega
  intro w4 h4 w5 h5
  have hf4 : Fr (fun _ => False) w2 w4 := by rw [h4]; exact .alloc _ _ _
  have hf5 : Fr (fun _ => False) w4 w5 := by rw [h5]; exact .alloc _ _ _
  have hs4 : w4.heap.size = w2.heap.size + 1 := by rw [h4]; simp
  have ho8 : Vc.Own w5 w.heap.size T_uint8 ⟨some ⟨w2.heap.size, 0, none⟩, 0, 0⟩ (byteV []) := ((by rw [h4]; exact own_empty w2 T_uint8 : Vc.Own w4 w2.heap.size T_uint8 ⟨some ⟨w2.heap.size, 0, none⟩, 0, 0⟩ []).keep hf5 (by simp)).mono hf2.size
  have ho9 : Vc.Own w5 w.heap.size T_uint8 ⟨some ⟨w4.heap.size, 0, none⟩, 0, 0⟩ (byteV []) := (by rw [h5]; exact own_empty w4 T_uint8 : Vc.Own w5 w4.heap.size T_uint8 ⟨some ⟨w4.heap.size, 0, none⟩, 0, 0⟩ []).mono (by have := hf2.size; omega)
  have hf5' : Fr (fun _ => False) w w5 := (hf2.trans' hf4).trans' hf5
  refine ⟨fun l8 l9 i w' => ∃ k : Nat, i = k ∧ k ≤ ys.length ∧ Vc.Own w' w.heap.size T_uint8 l8 (byteV (outL (ys.take k))) ∧ Vc.Own w' w.heap.size T_uint8 l9 (byteV (idxL 0 (ys.take k))) ∧ (∀ p q, l8.a = some p → l9.a = some q → p.block ≠ q.block) ∧ Fr (fun _ => False) w w', fun _ _ i _ => ys.length - i.toNat,
    ⟨0, rfl, Nat.zero_le _, ho8, ho9, fun p q hp hq => by cases hp; cases hq; simp only; omega, hf5'⟩, ?_⟩
  clear ho8 ho9 hf5 hf4 h4 h5
  rintro l8 l9 i w11 ⟨k, rfl, hk, ho8, ho9, hdis, hf⟩
  have hl8 : l8.len = (outL (ys.take k)).length := by rw [ho8.len, bv_len]
  have hl9 : l9.len = (idxL 0 (ys.take k)).length := by rw [ho9.len, bv_len]
  have hok8 := hout k
  have hok9 := hidx k
  refine ⟨fun hlt => ?_, fun hge => ?_⟩
  · have hlt := of_decide_eq_true hlt
    have hkl : k < ys.length := by omega
    have hx : ys[k]? = some ys[k] := List.getElem?_eq_getElem hkl
    have htk : ys.take (k + 1) = ys.take k ++ [ys[k]] := (List.take_append_getElem hkl).symm
    generalize ys[k] = x at hx htk
    have hxm := List.mem_of_getElem? hx
    have hxp := hy200 x hxm
    have hxd := hyd x hxm
    obtain ⟨ad, had, hld⟩ := ((hr.keep hf (by simp)).load elF hx)
    refine ⟨⟨by omega, by omega⟩, ad, had, x.path, x.data, by rw [Int.toNat_natCast]; exact hld, fun w15 h15 => ?_⟩
    subst h15
    obtain ⟨w16, hw16⟩ : ∃ w16, w11.alloc (.cells (encF x).toArray T_api_File) = w16 := ⟨_, rfl⟩
    have hfb : Fr (fun _ => False) w11 w16 := by rw [← hw16]; exact .alloc _ _ _
    have hbx : w16.heap[w11.heap.size]? = some (.cells (encF x).toArray T_api_File (0, 0)) := by rw [← hw16]; exact alloc_new _ _
    have hp0 : ∀ w' : World, w'.heap[w11.heap.size]? = some (.cells (encF x).toArray T_api_File (0, 0)) → w'.cell? ⟨w11.heap.size, 0, none⟩ = some (.string x.path) := fun w' h => by rw [cell_blk h]; rfl
    have hp1 : ∀ w' : World, w'.heap[w11.heap.size]? = some (.cells (encF x).toArray T_api_File (0, 0)) → w'.cell? ⟨w11.heap.size, 1, none⟩ = some (.string x.data) := fun w' h => by rw [cell_blk h]; rfl
    have hkeep : ∀ {v v' : World}, v.heap[w11.heap.size]? = some (.cells (encF x).toArray T_api_File (0, 0)) → Fr (fun _ => False) v v' → v'.heap[w11.heap.size]? = some (.cells (encF x).toArray T_api_File (0, 0)) := fun h hf => hf.keep h (by simp)
    refine ⟨w16, by rw [← hw16]; exact boxF_run w11 x, fun w17 d17 => ?_⟩
    have hb17 := hkeep hbx (.drew _ d17)
    have hf17 : Fr (fun _ => False) w11 w17 := hfb.trans' (.drew _ d17)
    refine ⟨fun w' => w'.heap[w11.heap.size]? = some (.cells (encF x).toArray T_api_File (0, 0)), hb17, x.data, hp1, x.data, hp1, x.data, hp1, x.path, hp0, (crc32_spec x.data (by omega) w17).mono ?_⟩
    rintro e w28 ⟨rfl, hf28⟩
    have hcrc := (crcW x.data.data.toList).isLt
    refine ⟨_, rfl, hkeep hb17 hf28, (facts_spec 0 (crcW x.data.data.toList).toNat x.data.size x.data.size (by decide) hcrc (by omega) (by omega) x.path (by omega) w28).mono ?_⟩
    rintro e w31 ⟨rfl, hf31⟩
    have hb31 := hkeep (hkeep hb17 hf28) hf31
    have hF : ByteArray.mk (factsL 0 (crcW x.data.data.toList).toNat x.data.size x.data.size x.path.size).toArray = ⟨(factF x).toArray⟩ := rfl
    have hFs : (ByteArray.mk (factF x).toArray).size = 26 := by rw [bs_mksize]; exact factsL_len _ _ _ _ _
    have c4 : ∀ u v p q : UInt8, (ByteArray.mk #[u, v, p, q]).size = 4 := fun _ _ _ _ => rfl
    refine ⟨_, rfl, hb31, fun w33 d33 => ?_⟩
    rw [hF]
    have hb33 := hkeep hb31 (.drew _ d33)
    have hf33 : Fr (fun _ => False) w11 w33 := ((hf17.trans' hf28).trans' hf31).trans' (.drew _ d33)
    refine ⟨fun w' => w'.heap[w11.heap.size]? = some (.cells (encF x).toArray T_api_File (0, 0)), hb33, x.path, hp0, (two_spec 20 (by decide) w33).mono ?_⟩
    rintro e w38 ⟨rfl, f38⟩
    have b38 := hkeep hb33 f38
    refine ⟨_, rfl, b38, by simp only [le_size, c4]; omega, by simp only [ByteArray.size_append, le_size, c4, hFs]; omega, (two_spec 0 (by decide) w38).mono ?_⟩
    rintro e w41 ⟨rfl, f41⟩
    have b41 := hkeep b38 f41
    refine ⟨_, rfl, b41, by simp only [ByteArray.size_append, le_size, c4, hFs]; omega, (two_spec 0 (by decide) w41).mono ?_⟩
    rintro e w44 ⟨rfl, f44⟩
    have b44 := hkeep b41 f44
    refine ⟨_, rfl, b44, by simp only [ByteArray.size_append, le_size, c4, hFs]; omega, (two_spec 0 (by decide) w44).mono ?_⟩
    rintro e w47 ⟨rfl, f47⟩
    have b47 := hkeep b44 f47
    refine ⟨_, rfl, b47, by simp only [ByteArray.size_append, le_size, c4, hFs]; omega, (four_spec 0 (by decide) w47).mono ?_⟩
    rintro e w50 ⟨rfl, f50⟩
    have b50 := hkeep b47 f50
    refine ⟨_, rfl, b50, by simp only [ByteArray.size_append, le_size, c4, hFs]; omega, (four_spec l8.len (by omega) w50).mono ?_⟩
    rintro e w53 ⟨rfl, f53⟩
    have b53 := hkeep b50 f53
    have hf53 : Fr (fun _ => False) w11 w53 := (((((hf33.trans' f38).trans' f41).trans' f44).trans' f47).trans' f50).trans' f53
    have hs53 := hf53.size
    have hws := hf.size
    have ho8' := ho8.keep hf53 (by simp)
    have ho9' := ho9.keep hf53 (by simp)
    obtain ⟨Z, hZ⟩ : ∃ Z : ByteArray, ⟨#[80, 75, 1, 2]⟩ ++ ⟨(littleB 2 20).toArray⟩ ++ ⟨(factF x).toArray⟩ ++ ⟨(littleB 2 0).toArray⟩ ++ ⟨(littleB 2 0).toArray⟩ ++ ⟨(littleB 2 0).toArray⟩ ++ ⟨(littleB 4 0).toArray⟩ ++ ⟨(littleB 4 l8.len).toArray⟩ ++ x.path = Z := ⟨_, rfl⟩
    have hZl : Z.data.toList = cenL x l8.len := by
      rw [← hZ]
      simp only [bs_app, List.append_assoc]
      rfl
    have hZs : Z.size = 46 + x.path.size := by rw [← bs_len, hZl, cenL_len]
    refine ⟨_, rfl, b53, by simp only [ByteArray.size_append, le_size, c4, hFs]; omega, by simp only [ByteArray.size_append, le_size, c4, hFs]; omega, ?_⟩
    rw [hZ]
    obtain ⟨w55, l56, hr55, ho55, hf55, hs55⟩ := append_str (P := Tryd.prog) (t := T_S_uint8) (u := T_string) elByte (by kernel_rfl) ho9' Z (by rw [bv_len]; omega) (by omega)
    have b55 : w55.heap[w11.heap.size]? = some (.cells (encF x).toArray T_api_File (0, 0)) := hf55.keep b53 fun ⟨y, hy, e⟩ => by have := (ho9.blk hy).2; omega
    refine ⟨w55, l56, hr55, b55, by simp only [c4, hFs]; omega, x.path, hp0 _ b55, by simp only [ByteArray.size_append, c4, hFs]; omega, x.data, hp1 _ b55, by simp only [ByteArray.size_append, c4, hFs]; omega, ?_⟩
    obtain ⟨V, hV⟩ : ∃ V : ByteArray, ⟨#[80, 75, 3, 4]⟩ ++ ⟨(factF x).toArray⟩ ++ x.path ++ x.data = V := ⟨_, rfl⟩
    have hVl : V.data.toList = locL x := by
      rw [← hV]
      simp only [bs_app, List.append_assoc]
      rfl
    have hVs : V.size = 30 + x.path.size + x.data.size := by rw [← bs_len, hVl, locL_len]
    rw [hV]
    have ho8'' := ho8'.keep hf55 fun p hp' ⟨q, hq, e⟩ => hdis p q hp' hq e
    have hs55' := hf55.size
    obtain ⟨w59, l60, hr59, ho59, hf59, hs59⟩ := append_str (P := Tryd.prog) (t := T_S_uint8) (u := T_string) elByte (by kernel_rfl) ho8'' V (by rw [bv_len]; omega) (by omega)
    have e1 : IntKind.i64.wrap ((k : Int) + 1) = ((k + 1 : Nat) : Int) := by rw [wrap_i64 (by omega) (by omega)]; omega
    rw [e1]
    have happ : ∀ A B : List UInt8, byteV A ++ byteV B = byteV (A ++ B) := fun A B => by unfold byteV; rw [List.map_append]
    have hne56 : ∀ p q, l8.a = some p → l56.a = some q → p.block ≠ q.block := fun p q hp' hq => by
      rcases hs55 q hq with ⟨z, hz, e⟩ | h
      · rw [← e]; exact hdis p z hp' hz
      · have := (ho8'.blk hp').2; omega
    refine ⟨w59, l60, hr59, ⟨k + 1, rfl, by omega, ?_, ?_, fun p q hp' hq => ?_, ((hf.trans' hf53).trans hf55 fun q hq ⟨y, hy, e⟩ => by have := (ho9.blk hy).1; omega).trans hf59 fun q hq ⟨y, hy, e⟩ => by have := (ho8.blk hy).1; omega⟩, by dsimp only; omega⟩
    · rw [htk, outL_snoc, ← happ, ← hVl]; exact ho59
    · rw [htk, idxL_snoc, ← happ, Nat.zero_add, ← hl8, ← hZl]
      exact ho55.keep hf59 fun q hq ⟨y, hy, e⟩ => hne56 y q hy hq e.symm
    · rcases hs59 p hp' with ⟨z, hz, e⟩ | h
      · rw [← e]; exact hne56 z q hz hq
      · have := (ho55.blk hq).2; omega
  · have hge := of_decide_eq_false hge
    have hk' : k = ys.length := by omega
    rw [hk', List.take_length] at ho8 ho9 hl8 hl9 hok8 hok9
    have hn600 : n ≤ 600 := by omega
    have c4 : ∀ u v p q : UInt8, (ByteArray.mk #[u, v, p, q]).size = 4 := fun _ _ _ _ => rfl
    refine (two_spec n (by omega) w11).mono ?_
    rintro e w62 ⟨rfl, f62⟩
    refine ⟨_, rfl, (two_spec 0 (by decide) w62).mono ?_⟩
    rintro e w65 ⟨rfl, f65⟩
    refine ⟨_, rfl, by simp only [le_size, c4]; omega, (two_spec 0 (by decide) w65).mono ?_⟩
    rintro e w68 ⟨rfl, f68⟩
    refine ⟨_, rfl, by simp only [ByteArray.size_append, le_size, c4]; omega, by simp only [ByteArray.size_append, le_size, c4]; omega, by simp only [ByteArray.size_append, le_size, c4]; omega, (four_spec l9.len (by omega) w68).mono ?_⟩
    rintro e w71 ⟨rfl, f71⟩
    refine ⟨_, rfl, by simp only [ByteArray.size_append, le_size, c4]; omega, (four_spec l8.len (by omega) w71).mono ?_⟩
    rintro e w74 ⟨rfl, f74⟩
    refine ⟨_, rfl, by simp only [ByteArray.size_append, le_size, c4]; omega, (two_spec 0 (by decide) w74).mono ?_⟩
    rintro e w77 ⟨rfl, f77⟩
    have hf77 : Fr (fun _ => False) w11 w77 := ((((f62.trans' f65).trans' f68).trans' f71).trans' f74).trans' f77
    have hs77 := hf77.size
    have hws := hf.size
    have ho8' := ho8.keep hf77 (by simp)
    have ho9' := ho9.keep hf77 (by simp)
    refine ⟨_, rfl, by simp only [ByteArray.size_append, le_size, c4]; omega, ?_⟩
    obtain ⟨w79, l80, hr79, ho79, hf79, _⟩ := append_all' (P := Tryd.prog) (t := T_S_uint8) elByte ho8' l9.cap ho9'.reads (bv_one _) (by rw [bv_len, bv_len]; unfold maxLen; omega) (by rw [bv_len, bv_len]; omega) (by omega) (m := l9.len) (by rw [bv_len, hl9])
    refine ⟨w79, l80, hr79, ?_⟩
    obtain ⟨Z, hZ⟩ : ∃ Z : ByteArray, ⟨#[80, 75, 5, 6]⟩ ++ ⟨(littleB 2 0).toArray⟩ ++ ⟨(littleB 2 0).toArray⟩ ++ ⟨(littleB 2 n).toArray⟩ ++ ⟨(littleB 2 n).toArray⟩ ++ ⟨(littleB 4 l9.len).toArray⟩ ++ ⟨(littleB 4 l8.len).toArray⟩ ++ ⟨(littleB 2 0).toArray⟩ = Z := ⟨_, rfl⟩
    have hZl : Z.data.toList = endL n l9.len l8.len := by
      rw [← hZ]
      simp only [bs_app, List.append_assoc]
      rfl
    have hZs : Z.size = 22 := by rw [← hZ]; simp only [ByteArray.size_append, le_size, c4]
    rw [hZ]
    have hs79 := hf79.size
    obtain ⟨w81, l82, hr81, ho81, hf81, _⟩ := append_str (P := Tryd.prog) (t := T_S_uint8) (u := T_string) elByte (by kernel_rfl) ho79 Z (by rw [List.length_append, bv_len, bv_len]; omega) (by omega)
    have happ : ∀ A B : List UInt8, byteV A ++ byteV B = byteV (A ++ B) := fun A B => by unfold byteV; rw [List.map_append]
    rw [happ, happ] at ho81
    refine ⟨w81, l82, hr81, w81, _, bytes_str (P := Tryd.prog) (t := T_S_uint8) (d := T_string) elByte.sl (by kernel_rfl) (by kernel_rfl) l82.cap ho81.reads (by rw [ho81.len, bv_len]), ?_, ((hf.trans' hf77).trans hf79 fun q hq ⟨y, hy, e⟩ => by have := (ho8.blk hy).1; omega).trans hf81 fun q hq ⟨y, hy, e⟩ => by have := (ho79.blk hy).1; omega⟩
    unfold zipE zipL
    rw [if_pos h0, h0, hZl, hn, hl8, hl9, List.append_assoc]
end Go.Proofs.YtlohadencnpdgaaDoor

/- The reader of an archive's parts: take, number, want, head, where what is asked is there. Conditions: texts no longer than memory. -/
set_option linter.unusedVariables false
namespace Go.Proofs.YtlohadencnpdgaaDoor
open Go Vc SumM Go.Proofs

/-- The reader at block B stands at number k of s; r: what follows. -/
def RdR (w : World) (B : Nat) (s : ByteArray) (r : List UInt8) (k : Nat) : Prop := w.heap[B]? = some (.cells #[.string s, .int .i64 (k : Int)] T_zip_reader (0, 0)) ∧ s.data.toList.drop k = r ∧ k ≤ s.size
theorem RdR.keep {w w' : World} {B : Nat} {s : ByteArray} {r : List UInt8} {k : Nat} (h : RdR w B s r k) {X : Nat → Prop} (hf : Fr X w w') (hx : ¬ X B) : RdR w' B s r k := ⟨hf.keep h.1 hx, h.2⟩
theorem RdR.size {w : World} {B : Nat} {s : ByteArray} {r : List UInt8} {k : Nat} (h : RdR w B s r k) : k + r.length = s.size := by
  rw [← h.2.1, List.length_drop, bs_len]
  have := h.2.2
  omega
theorem must_spec {b : Bool} (hb : b = true) (e : Int) (w : World) : Calls Tryd.prog F_zip_must #[.bool b, .int .i64 e] w fun e w' => e = .returned (.tuple #[]) ∧ w' = w := by
  refine vc_zip_must_ok (R := fun v w' => v = .tuple #[] ∧ w' = w) ?_ (fun v w' h => ⟨by rw [h.1], h.2⟩)
  subst hb
  exact ⟨fun h => (by cases h), fun _ => ⟨rfl, rfl⟩⟩
theorem take_spec {w : World} {B : Nat} {s : ByteArray} {t r : List UInt8} {k n : Nat} (h : RdR w B s (t ++ r) k) (hn : t.length = n) (hs : s.size ≤ 4611686018427387904) :
    Calls Tryd.prog F_zip_reader_take #[.pointer (some ⟨B, 0, none⟩), .int .i64 (n : Int)] w fun e w' => e = .returned (.string ⟨t.toArray⟩) ∧ RdR w' B s r (k + n) ∧ Fr (· = B) w w' := by
  refine vc_zip_reader_take_ok (R := fun v w' => v = .string ⟨t.toArray⟩ ∧ RdR w' B s r (k + n) ∧ Fr (· = B) w w') ?_ (fun v w' h => ⟨by rw [h.1], h.2⟩)
  have hsz := h.size
  rw [List.length_append, hn] at hsz
  intro w1 d1
  have h1 := h.keep (.drew (fun _ => False) d1) (by simp)
  have c0 : ∀ {w' : World}, RdR w' B s (t ++ r) k → w'.cell? ⟨B, 0, none⟩ = some (.string s) := fun h => by rw [cell_blk h.1]; rfl
  have c1 : ∀ {w' : World}, RdR w' B s (t ++ r) k → w'.cell? ⟨B, 1, none⟩ = some (.int .i64 (k : Int)) := fun h => by rw [cell_blk h.1]; rfl
  have e0 : IntKind.i64.wrap ((s.size : Int) - (k : Int)) = ((s.size - k : Nat) : Int) := by rw [wrap_i64 (by omega) (by omega)]; omega
  refine ⟨fun w' => RdR w' B s (t ++ r) k, h1, s, fun w' h => c0 h, k, fun w' h => c1 h, (must_spec (by rw [e0]; exact decide_eq_true (by omega)) 6 w1).mono ?_⟩
  rintro e w8 ⟨rfl, rfl⟩
  have e1 : IntKind.i64.wrap ((k : Int) + (n : Int)) = ((k + n : Nat) : Int) := by rw [wrap_i64 (by omega) (by omega)]; omega
  refine ⟨rfl, k, c1 h1, wr_blk h1.1 (Nat.lt_succ_self 1), fun w10 h10 => ?_⟩
  rw [e1] at h10
  have hb : w10.heap[B]? = some (.cells #[.string s, .int .i64 ((k + n : Nat) : Int)] T_zip_reader (0, 0)) := by
    rw [h10, set_blk h1.1]; rfl
  have e2 : IntKind.i64.wrap (((k + n : Nat) : Int) - (n : Int)) = (k : Int) := by rw [wrap_i64 (by omega) (by omega)]; omega
  refine ⟨s, by rw [cell_blk hb]; rfl, ((k + n : Nat) : Int), by rw [cell_blk hb]; rfl, ((k + n : Nat) : Int), by rw [cell_blk hb]; rfl, ?_⟩
  rw [e2]
  refine ⟨⟨by omega, by omega, by omega⟩, fun w14 d14 => ⟨?_, ⟨(Fr.drew (fun _ => False) d14).keep hb (by simp), ?_, by omega⟩, ?_⟩⟩
  · congr 1
    refine bs_ext ?_
    rw [bs_extract, bs_mk, Int.toNat_natCast, Int.toNat_natCast, h.2.1, List.take_append_of_le_length (by omega), List.take_of_length_le (by omega)]
  · rw [← List.drop_drop, h.2.1, ← hn]; exact List.drop_left
  · exact ((Fr.drew _ d1).trans' (by rw [h10]; exact Fr.set (· = B) w8 (a := ⟨B, 1, none⟩) _ rfl)).trans' (.drew _ d14)
theorem want_spec {w : World} {B : Nat} {s t : ByteArray} {r : List UInt8} {k : Nat} (h : RdR w B s (t.data.toList ++ r) k) (hs : s.size ≤ 4611686018427387904) :
    Calls Tryd.prog F_zip_reader_want #[.pointer (some ⟨B, 0, none⟩), .string t] w fun e w' => e = .returned (.tuple #[]) ∧ RdR w' B s r (k + t.size) ∧ Fr (· = B) w w' := by
  refine vc_zip_reader_want_ok (R := fun v w' => v = .tuple #[] ∧ RdR w' B s r (k + t.size) ∧ Fr (· = B) w w') ?_ (fun v w' h => ⟨by rw [h.1], h.2⟩)
  refine (take_spec h (bs_len t) hs).mono ?_
  rintro e w2 ⟨rfl, h2, f2⟩
  refine ⟨_, rfl, (must_spec (by rw [bs_eq]; exact decide_eq_true (bs_self t)) 3 w2).mono ?_⟩
  rintro e w5 ⟨rfl, rfl⟩
  exact ⟨rfl, rfl, h2, f2⟩
theorem number_spec {w : World} {B : Nat} {s : ByteArray} {r : List UInt8} {k n x : Nat} (h : RdR w B s (littleB n x ++ r) k) (hn : n ≤ 4) (hx : x < 256 ^ n) (hs : s.size ≤ 4611686018427387904) :
    Calls Tryd.prog F_zip_reader_number #[.pointer (some ⟨B, 0, none⟩), .int .i64 (n : Int)] w fun e w' => e = .returned (.int .i64 (x : Int)) ∧ RdR w' B s r (k + n) ∧ Fr (· = B) w w' := by
  refine vc_zip_reader_number_ok (R := fun v w' => v = .int .i64 (x : Int) ∧ RdR w' B s r (k + n) ∧ Fr (· = B) w w') ?_ (fun v w' h => ⟨by rw [h.1], h.2⟩)
  refine (take_spec h (littleB_length n x) hs).mono ?_
  rintro e w2 ⟨rfl, h2, f2⟩
  refine ⟨_, rfl, (fromlittle_spec _ (by rw [le_size]; omega) w2).mono ?_⟩
  rintro e w5 ⟨rfl, rfl⟩
  have hp : 256 ^ n ≤ 256 ^ 4 := Nat.pow_le_pow_right (by decide) hn
  refine ⟨_, rfl, ?_, h2, f2⟩
  rw [bs_mk, numL_little n x hx, wrap_i64 (by omega) (by omega)]
theorem wantL_spec {w : World} {B : Nat} {s : ByteArray} {t : List UInt8} {r : List UInt8} {k : Nat} {z : ByteArray} (h : RdR w B s (t ++ r) k) (hz : z.data.toList = t) (hs : s.size ≤ 4611686018427387904) :
    Calls Tryd.prog F_zip_reader_want #[.pointer (some ⟨B, 0, none⟩), .string z] w fun e w' => e = .returned (.tuple #[]) ∧ RdR w' B s r (k + t.length) ∧ Fr (· = B) w w' := by
  subst hz
  rw [bs_len]
  exact want_spec h hs
def headV (m c p z n : Nat) : List Value := [.int .i64 (m : Int), .int .u32 (c : Int), .int .i64 (p : Int), .int .i64 (z : Int), .int .i64 (n : Int)]
theorem headV_one (m c p z n : Nat) : ∀ v ∈ headV m c p z n, v.oneCell' = true := fun v h => by
  simp only [headV, List.mem_cons, List.mem_nil_iff, or_false] at h
  rcases h with rfl | rfl | rfl | rfl | rfl <;> rfl
end Go.Proofs.YtlohadencnpdgaaDoor

/- The reader of a head of an archive's part, where one stands there. Conditions: texts no longer than memory. -/
set_option linter.unusedVariables false
namespace Go.Proofs.YtlohadencnpdgaaDoor
open Go Vc SumM Go.Proofs

theorem box_store {w : World} {B : Nat} {old : Array Value} {T : TypeId} (vs : List Value) (hb : w.heap[B]? = some (.cells old T (0, 0))) (hi : (Tryd.prog.info? T).map (·.size) = some vs.length) (hl : old.size = vs.length) (h1 : ∀ v ∈ vs, v.oneCell' = true) :
    ∃ w', (storeVar T ⟨B, 0, none⟩ (.agg vs.toArray)).run Tryd.prog w = .ok () w' ∧ w'.heap[B]? = some (.cells vs.toArray T (0, 0)) ∧ Fr (· = B) w w' := by
  have h1' : vs.toArray.all (·.oneCell') = true := by rw [List.all_toArray]; exact List.all_eq_true.2 h1
  exact ⟨_, run_storeVar_row w B T T old vs.toArray hb (by simpa using hi) (by simpa using hl) h1', setRow_heap w B old vs.toArray T _ hb, ⟨rfl, rfl, rfl, by simp [World.setRow], fun q _ hq => setRow_other w B q _ hq⟩⟩
theorem box_load {w : World} {B : Nat} {T : TypeId} {vs : List Value} (hb : w.heap[B]? = some (.cells vs.toArray T (0, 0))) (hu : aggB Tryd.prog T = true) (hi : (Tryd.prog.info? T).map (·.size) = some vs.length) :
    (loadVar T ⟨B, 0, none⟩).run Tryd.prog w = .ok (.agg vs.toArray) w :=
  load_agg (agg_of hu) hi fun k v hv => by
    rw [show (⟨B, 0, none⟩ : Addr).add k = ⟨B, k, none⟩ by rw [add_lit, Nat.zero_add], cell_blk hb]
    simpa using hv
theorem head_spec {w : World} {B : Nat} {s : ByteArray} {r : List UInt8} {k m c p z n : Nat} (h : RdR w B s (factsL m c p z n ++ r) k) (hm : m < 65536) (hc : c < 4294967296) (hp : p < 4294967296) (hz : z < 4294967296) (hn : n < 65536) (hs : s.size ≤ 4611686018427387904) :
    Calls Tryd.prog F_zip_reader_head #[.pointer (some ⟨B, 0, none⟩)] w fun e w' => e = .returned (.agg (headV m c p z n).toArray) ∧ RdR w' B s r (k + 26) ∧ Fr (· = B) w w' := by
  refine vc_zip_reader_head_ok (R := fun v w' => v = .agg (headV m c p z n).toArray ∧ RdR w' B s r (k + 26) ∧ Fr (· = B) w w') ?_ (fun v w' h => ⟨by rw [h.1], h.2⟩)
  have hr0 : factsL m c p z n ++ r = (littleB 2 20 ++ littleB 2 0) ++ (littleB 2 m ++ ((littleB 2 0 ++ littleB 2 0) ++ (littleB 4 c ++ (littleB 4 p ++ (littleB 4 z ++ (littleB 2 n ++ (littleB 2 0 ++ r))))))) := by
    unfold factsL; simp only [List.append_assoc]
  rw [hr0] at h
  have hB := lt_blk h.1
  intro w1 h1
  have f1 : Fr (· = B) w w1 := by rw [h1]; exact .alloc _ _ _
  have s1 : w1.heap.size = w.heap.size + 1 := by rw [h1]; simp
  have hA1 : w1.heap[w.heap.size]? = some (.cells #[.int .i64 0, .int .u32 0, .int .i64 0, .int .i64 0, .int .i64 0] T_zip_head (0, 0)) := by rw [h1]; exact alloc_new _ _
  have hr1 := h.keep (by rw [h1]; exact Fr.alloc (fun _ => False) _ _ : Fr (fun _ => False) w w1) (by simp)
  clear h1
  refine (two_spec 20 (by decide) w1).mono ?_
  rintro e w3 ⟨rfl, f3⟩
  refine ⟨_, rfl, (two_spec 0 (by decide) w3).mono ?_⟩
  rintro e w6 ⟨rfl, f6⟩
  refine ⟨_, rfl, by simp only [le_size]; omega, (wantL_spec (hr1.keep (f3.trans' f6) (by simp)) (by simp only [bs_app]) hs).mono ?_⟩
  rintro e w9 ⟨rfl, r9, f9⟩
  refine ⟨rfl, (number_spec r9 (by decide) hm hs).mono ?_⟩
  rintro e w11 ⟨rfl, r11, f11⟩
  have f1_11 : Fr (· = B) w1 w11 := (((f3.mono fun _ _ h => h.elim).trans' (f6.mono fun _ _ h => h.elim)).trans' f9).trans' f11
  have hs11 := f1_11.size
  have hA11 := f1_11.keep hA1 (by omega)
  refine ⟨_, rfl, fun w13 h13 => ?_⟩
  have f13 : Fr (fun _ => False) w11 w13 := by rw [h13]; exact .alloc _ _ _
  have s13 : w13.heap.size = w11.heap.size + 1 := by rw [h13]; simp
  have hC13 : w13.heap[w11.heap.size]? = some (.cells #[.int .i64 0, .int .u32 0, .int .i64 0, .int .i64 0, .int .i64 0] T_zip_head (0, 0)) := by rw [h13]; exact alloc_new _ _
  clear h13
  obtain ⟨w14, hrun14, hC14, f14⟩ := box_store [.int .i64 (m : Int), .int .u32 0, .int .i64 0, .int .i64 0, .int .i64 0] hC13 (by kernel_rfl) rfl (fun v hv => by
    simp only [List.mem_cons, List.mem_nil_iff, or_false] at hv
    rcases hv with rfl | rfl | rfl | rfl | rfl <;> rfl)
  generalize w11.heap.size = C at *
  have hCB : ¬ B = C := by omega
  have hCA : ¬ w.heap.size = C := by omega
  refine ⟨w14, hrun14, (two_spec 0 (by decide) w14).mono ?_⟩
  rintro e w16 ⟨rfl, f16⟩
  refine ⟨_, rfl, (two_spec 0 (by decide) w16).mono ?_⟩
  rintro e w19 ⟨rfl, f19⟩
  have r14 := (r11.keep f13 (by simp)).keep f14 hCB
  refine ⟨_, rfl, by simp only [le_size]; omega, (wantL_spec (r14.keep (f16.trans' f19) (by simp)) (by simp only [bs_app]) hs).mono ?_⟩
  rintro e w22 ⟨rfl, r22, f22⟩
  refine ⟨rfl, (number_spec r22 (by decide) hc hs).mono ?_⟩
  rintro e w24 ⟨rfl, r24, f24⟩
  have f14_24 : Fr (· = B) w14 w24 := (((f16.mono fun _ _ h => h.elim).trans' (f19.mono fun _ _ h => h.elim)).trans' f22).trans' f24
  have hC24 := f14_24.keep hC14 (fun h => hCB h.symm)
  have hA24 := f14_24.keep (f14.keep (f13.keep hA11 (by simp)) hCA) (by omega)
  refine ⟨_, rfl, ?_⟩
  rw [wrap_u32 (by omega) (by omega)]
  refine ⟨wr_blk hC24 (Nat.lt_of_lt_of_eq (by decide : 1 < 5) rfl), fun w26 h26 => ?_⟩
  have hC26 : w26.heap[C]? = some (.cells #[.int .i64 (m : Int), .int .u32 (c : Int), .int .i64 0, .int .i64 0, .int .i64 0] T_zip_head (0, 0)) := by rw [h26, set_blk hC24]; rfl
  have f26 : Fr (· = C) w24 w26 := by rw [h26]; exact Fr.set (· = C) w24 (a := ⟨C, 1, none⟩) _ rfl
  refine (number_spec (r24.keep f26 hCB) (by decide) hp hs).mono ?_
  rintro e w28 ⟨rfl, r28, f28⟩
  refine ⟨_, rfl, (number_spec r28 (by decide) hz hs).mono ?_⟩
  rintro e w31 ⟨rfl, r31, f31⟩
  refine ⟨_, rfl, (number_spec r31 (by decide) hn hs).mono ?_⟩
  rintro e w34 ⟨rfl, r34, f34⟩
  have f26_34 : Fr (· = B) w26 w34 := (f28.trans' f31).trans' f34
  have hC34 := f26_34.keep hC26 (fun h => hCB h.symm)
  have hA34 := f26_34.keep (f26.keep hA24 hCA) (by omega)
  refine ⟨_, rfl, wr_blk hC34 (Nat.lt_of_lt_of_eq (by decide : 2 < 5) rfl), fun w36 h36 => ?_⟩
  have hC36 : w36.heap[C]? = some (.cells #[.int .i64 (m : Int), .int .u32 (c : Int), .int .i64 (p : Int), .int .i64 0, .int .i64 0] T_zip_head (0, 0)) := by rw [h36, set_blk hC34]; rfl
  have f36 : Fr (· = C) w34 w36 := by rw [h36]; exact Fr.set (· = C) w34 (a := ⟨C, 2, none⟩) _ rfl
  refine ⟨wr_blk hC36 (Nat.lt_of_lt_of_eq (by decide : 3 < 5) rfl), fun w37 h37 => ?_⟩
  have hC37 : w37.heap[C]? = some (.cells #[.int .i64 (m : Int), .int .u32 (c : Int), .int .i64 (p : Int), .int .i64 (z : Int), .int .i64 0] T_zip_head (0, 0)) := by rw [h37, set_blk hC36]; rfl
  have f37 : Fr (· = C) w36 w37 := by rw [h37]; exact Fr.set (· = C) w36 (a := ⟨C, 3, none⟩) _ rfl
  refine ⟨wr_blk hC37 (Nat.lt_of_lt_of_eq (by decide : 4 < 5) rfl), fun w38 h38 => ?_⟩
  have hC38 : w38.heap[C]? = some (.cells (headV m c p z n).toArray T_zip_head (0, 0)) := by rw [h38, set_blk hC37]; rfl
  have f38 : Fr (· = C) w37 w38 := by rw [h38]; exact Fr.set (· = C) w37 (a := ⟨C, 4, none⟩) _ rfl
  have f34_38 := (f36.trans' f37).trans' f38
  refine (two_spec 0 (by decide) w38).mono ?_
  rintro e w40 ⟨rfl, f40⟩
  refine ⟨_, rfl, (wantL_spec ((r34.keep f34_38 hCB).keep f40 (by simp)) (by rw [bs_mk]) hs).mono ?_⟩
  rintro e w43 ⟨rfl, r43, f43⟩
  have hC43 := f43.keep (f40.keep hC38 (by simp)) (fun h => hCB h.symm)
  have hA43 := f43.keep (f40.keep (f34_38.keep hA34 hCA) (by simp)) (by omega)
  obtain ⟨w49, hrun49, hA49, f49⟩ := box_store (headV m c p z n) hA43 (by kernel_rfl) rfl (headV_one m c p z n)
  refine ⟨rfl, m, c, p, z, n, box_load hC43 (by kernel_rfl) (by kernel_rfl), w49, hrun49, m, c, p, z, n, box_load hA49 (by kernel_rfl) (by kernel_rfl), rfl, ?_, ?_⟩
  · have := r43.keep f49 (by omega)
    simp only [List.length_append, littleB_length] at this
    rwa [show k + (2 + 2) + 2 + (2 + 2) + 4 + 4 + 4 + 2 + 2 = k + 26 by omega] at this
  · have g1 : Fr (· = B) w w24 := ((f1.trans' f1_11).trans' (f13.mono fun _ _ h => h.elim)).trans ((f14.mono (Y := fun q => q = B ∨ q = C) fun _ _ h => .inr h).trans' (f14_24.mono fun _ _ h => .inl h)) fun q hq h => h.resolve_right (by omega)
    have g2 : Fr (fun q => q = B ∨ q = C) w24 w43 := (((f26.mono (Y := fun q => q = B ∨ q = C) fun _ _ h => .inr h).trans' (f26_34.mono fun _ _ h => .inl h)).trans' (f34_38.mono fun _ _ h => .inr h)).trans' ((f40.mono fun _ _ h => h.elim).trans' (f43.mono fun _ _ h => .inl h))
    exact (g1.trans g2 fun q hq h => h.resolve_right (by omega)).trans f49 fun q hq h => by omega
end Go.Proofs.YtlohadencnpdgaaDoor

/- The bytes of an archive's entry, where they are right. Conditions: texts no longer than memory; what is inflated is told by the caller. -/
set_option linter.unusedVariables false
namespace Go.Proofs.YtlohadencnpdgaaDoor
open Go Vc SumM Go.Proofs

/-- An entry's bytes are kept in one of the two ways. -/
def UnpZ (x : EntZ) : Prop := x.data.size ≤ 1048576 ∧ x.packed.size ≤ 2097152 ∧ (x.method = 0 ∧ x.packed = x.data ∨
  x.method = 8 ∧ x.data.size ≤ 65536 ∧ ∀ w : World, Calls Tryd.prog F_inflate_Inflate #[.string x.packed, .int .i64 0, .int .i64 (x.data.size : Int)] w fun e w' => e = .returned (.tuple #[.string x.data, .int .i64 (x.packed.size : Int), .int .i64 0]) ∧ Fr (fun _ => False) w w')
def headZ (x : EntZ) : List Value := headV x.method (crcW x.data.data.toList).toNat x.packed.size x.data.size x.path.size
def encT (x : EntZ × Nat) : List Value := headZ x.1 ++ [.string x.1.path, .int .i64 (x.2 : Int)]
theorem encT_one (x : EntZ × Nat) : ∀ v ∈ encT x, v.oneCell' = true := fun v h => by
  unfold encT at h
  rcases List.mem_append.1 h with h | h
  · exact headV_one _ _ _ _ _ v h
  · simp only [List.mem_cons, List.mem_nil_iff, or_false] at h
    rcases h with rfl | rfl <;> rfl
theorem sto_unp {f : FileE} (h : f.data.size ≤ 1048576) : UnpZ (stoZ f) := ⟨h, by unfold stoZ; simp only; omega, .inl ⟨rfl, rfl⟩⟩
theorem unpack_spec (x : EntZ) (off : Nat) (hx : UnpZ x) (w : World) :
    Calls Tryd.prog F_zip_entry_unpack #[.agg (encT (x, off)).toArray, .string x.packed] w fun e w' => e = .returned (.string x.data) ∧ Fr (fun _ => False) w w' := by
  refine vc_zip_entry_unpack_ok (x0_0 := x.method) (x0_1 := (crcW x.data.data.toList).toNat) (x0_2 := x.packed.size) (x0_3 := x.data.size) (x0_4 := x.path.size) (x0_5 := x.path) (x0_6 := off) (R := fun v w' => v = .string x.data ∧ Fr (fun _ => False) w w') ?_ (fun v w' h => ⟨by rw [h.1], h.2⟩)
  obtain ⟨hd, hpk, hm⟩ := hx
  intro w1 h1
  have f1 : Fr (fun _ => False) w w1 := by rw [h1]; exact .alloc _ _ _
  have hb1 : w1.heap[w.heap.size]? = some (.cells (encT (x, off)).toArray T_zip_entry (0, 0)) := by rw [h1]; exact alloc_new _ _
  have hc : ∀ {w' : World}, Fr (fun _ => False) w1 w' → ∀ {j : Nat} {v : Value}, (encT (x, off))[j]? = some v → w'.cell? ⟨w.heap.size, j, none⟩ = some v := fun hf j v hv => by
    rw [cell_blk (hf.keep hb1 (by simp))]; simpa using hv
  clear h1
  refine ⟨fun s w' => s = x.data ∧ Fr (fun _ => False) w1 w', ⟨x.method, hc (.refl _ _) (j := 0) rfl, ?_⟩, ?_⟩
  · rcases hm with ⟨hm, hp⟩ | ⟨hm, hsz, hinf⟩
    · refine ⟨fun _ => ⟨x.packed.size, hc (.refl _ _) (j := 2) rfl, x.data.size, hc (.refl _ _) (j := 3) rfl, (must_spec (by rw [hp]; simp) 3 w1).mono ?_⟩, fun h => ?_⟩
      · rintro e w7 ⟨rfl, rfl⟩
        exact ⟨rfl, hp, .refl _ _⟩
      · rw [hm] at h; exact absurd h (by decide)
    · refine ⟨fun h => ?_, fun _ => ⟨fun _ => ⟨x.data.size, hc (.refl _ _) (j := 3) rfl, (must_spec (decide_eq_true (by omega)) 2 w1).mono ?_⟩, fun h => ?_⟩⟩
      · rw [hm] at h; exact absurd h (by decide)
      · rintro e w10 ⟨rfl, rfl⟩
        refine ⟨rfl, x.data.size, hc (.refl _ _) (j := 3) rfl, (hinf w10).mono ?_⟩
        rintro e w13 ⟨rfl, f13⟩
        refine ⟨_, _, _, rfl, fun _ => ⟨fun _ => ⟨x.data.size, hc f13 (j := 3) rfl, (must_spec (by simp) 3 w13).mono ?_⟩, fun h => ?_⟩, fun h => absurd h (by decide)⟩
        · rintro e w19 ⟨rfl, rfl⟩
          exact ⟨rfl, rfl, f13⟩
        · simp at h
      · rw [hm] at h; exact absurd h (by decide)
  · rintro s w25 ⟨rfl, f25⟩ w26 d26
    refine ⟨fun w' => Fr (fun _ => False) w1 w', f25.trans' (.drew _ d26), _, fun w29 h29 => hc h29 (j := 1) rfl, (crc32_spec x.data (by omega) w26).mono ?_⟩
    rintro e w31 ⟨rfl, f31⟩
    have f1_31 := (f25.trans' (.drew _ d26)).trans' f31
    refine ⟨_, rfl, f1_31, (must_spec (by simp) 5 w31).mono ?_⟩
    rintro e w34 ⟨rfl, rfl⟩
    exact ⟨rfl, rfl, f1.trans' f1_31⟩
theorem elT : ElK encT 7 Tryd.prog T_S_zip_entry T_zip_entry (.agg #[.int .i64 0, .int .u32 0, .int .i64 0, .int .i64 0, .int .i64 0, .string ⟨#[]⟩, .int .i64 0]) 64 :=
  ⟨by kernel_rfl, by kernel_rfl, rfl, by decide, by kernel_rfl, fun _ => rfl, encT_one⟩
end Go.Proofs.YtlohadencnpdgaaDoor

/- Functions that defer one closure behind some first statements: their formula, and that it is enough. No condition: for all programs. -/
set_option linter.unusedVariables false
namespace Vc
open Go

/-- A region that makes a closure and defers its call. -/
def deferOf : Code → Option (List Oper × Oper × Operand)
  | .region _ ops false => match ops.toList with
    | [o1, ⟨none, .defer ⟨.value x, args, _⟩, _, _, _, none⟩] => match args.toList with
      | [] => some (ops.toList, o1, x)
      | _ => none
    | _ => none
  | _ => none
theorem deferOf_spec {c : Code} {l : List Oper} {o1 : Oper} {x : Operand} (h : deferOf c = some (l, o1, x)) :
    ∃ id ops o2 args tys, c = .region id ops false ∧ l = ops.toList ∧ ops.toList = [o1, o2] ∧ o2.dst = none ∧ o2.op = .defer ⟨.value x, args, tys⟩ ∧ args.toList = [] ∧ o2.guard = none := by
  unfold deferOf at h
  split at h
  · rename_i id ops
    split at h
    · rename_i o1' x' args tys ty pos after hl
      split at h
      · rename_i ha
        simp only [Option.some.injEq, Prod.mk.injEq] at h
        obtain ⟨rfl, rfl, rfl⟩ := h
        exact ⟨id, ops, _, args, tys, rfl, rfl, hl, rfl, rfl, ha, rfl⟩
      · cases h
    · cases h
  · cases h
section
variable (P : Program) (ty : Nat → Sh) (N : Nat) (ann : Ann)
/-- The formula of such a function's body; K knows what is deferred. -/
def WD : Code → Env → World → (Option (FuncId × Array Value) → Ex → Env → World → Prop) → Prop
  | .seq x y, e, w, K => match deferOf x with
    | some (ops, o1, z) => wOps P ty N .full ops [o1] e w fun e' w' => match has e' z with
      | false => False
      | true => match pureRun P (Deferred.ofValue (vl e' z) #[]) with
        | some d => match d.target with
          | .fn _ _ => match pureRun P (invoke d.target d.args) with
            | some (.enter f args) => W P ty N ann y e' w' fun x e'' w'' => K (some (f, args)) x e'' w''
            | _ => False
          | _ => False
        | none => False
    | none => W P ty N ann x e w fun x' e' w' => match x' with
      | .n => WD y e' w' K
      | x' => K none x' e' w'
  | _, _, _, _ => False
end
theorem WD_sound {P : Program} {ty : Nat → Sh} {N : Nat} {ann : Ann} (hm : P.follows .mixedOrders = true) : ∀ (c : Code) (e : Env) (w : World) (K : Option (FuncId × Array Value) → Ex → Env → World → Prop), WD P ty N ann c e w K →
    ∀ (a : Act) (Q : Exit → Act → World → Prop), Sub [] N e a → (∀ x e' w' a', K none x e' w' → Sub [] N e' a' → Q x.exit a' w') →
    (∀ f args d x e' w' a', K (some (f, args)) x e' w' → pureRun P (invoke d.target d.args) = some (.enter f args) → (∃ fv cap, d.target = .fn fv cap) → Sub [d] N e' a' → Q x.exit a' w') → c.wp P Q a w
  | .seq x y, e, w, K, h, a, Q, hs, hk, hd => by
    simp only [WD] at h
    split at h
    · rename_i l o1 z hdo
      obtain ⟨id, ops, o2, args, tys, rfl, rfl, hl, hdst, hop, hargs, hg⟩ := deferOf_spec hdo
      refine wp_seq (wp_region_list ?_)
      have step2 : ∀ (e' : Env) (w' : World) (a' : Act), Sub [] N e' a' → (match has e' z with
          | false => False
          | true => match pureRun P (Deferred.ofValue (vl e' z) #[]) with
            | some d => match d.target with
              | .fn _ _ => match pureRun P (invoke d.target d.args) with
                | some (.enter f args) => W P ty N ann y e' w' fun x e'' w'' => K (some (f, args)) x e'' w''
                | _ => False
              | _ => False
            | none => False) → wpList P ops (Exit.then (y.wp P Q) Q) [o2] a' w' := by
        intro e' w' a' hs' h'
        have hwant : Region.wanted o2 (yielded ops a'.tmps) = true := by simp [Region.wanted, hg]
        unfold wpList
        rw [if_pos hwant]
        refine .inl ?_
        split at h'
        · exact h'.elim
        rename_i hhas
        split at h'
        · rename_i d hpd
          split at h'
          · rename_i fv cap htar
            split at h'
            · rename_i f fargs hpi
              have hev : a'.eval z = vl e' z := hs'.vl hhas
              have hrun : (execOp a'.eval o2).run P w' = .ok (.defer d) w' := by
                have hr := pureRun_spec hpd w'
                have ha0 : args = #[] := by cases args; simp_all
                simp [execOp, hop, resolve, ha0, hev, hr, Result.andThen]
              unfold Oper.wp
              rw [hrun, Oper.upon_defer, hdst]
              unfold wpList
              have hsd : Sub [d] N e' { a' with defers := d :: a'.defers } := ⟨hs'.size, by rw [hs'.defers], hs'.at_⟩
              exact W_sound hm y e' w' _ h' _ Q hsd fun x e'' w'' a'' g1 _ g3 => hd f fargs d x e'' w'' a'' g1 hpi ⟨fv, cap, htar⟩ g3
            · exact h'.elim
          · exact h'.elim
        · exact h'.elim
      rw [hl]
      rw [hl] at h
      refine wGuard_open h hs (fun e1 he hs1 hw h => ?_) (fun e1 he hs1 hf hw h => ?_)
      · rw [← hl] at hw
        have hw : Region.wanted o1 (yielded ops a.tmps) = true := by simpa using hw
        unfold wpList; rw [if_pos hw]
        exact .inl (wStep_sound h hs1 fun v w' a' hh hs' => step2 _ w' a' hs' hh)
      · rw [← hl] at hw
        have hw : Region.wanted o1 (yielded ops a.tmps) = false := by simpa using hw
        unfold wpList; rw [if_neg (by simp [hw])]
        exact step2 _ w _ (hs1.put (v := (undef, false)) hf) h
    · refine wp_seq (W_sound hm x e w _ h a _ hs fun x e' w' a' h1 h2 h3 => ?_)
      cases x with
      | n => exact WD_sound hm y e' w' K h1 a' Q h3 hk hd
      | x i => exact hk (.x i) _ _ _ h1 h3
      | g i => exact hk (.g i) _ _ _ h1 h3
      | r => exact hk .r _ _ _ h1 h3
  | .skip, e, w, K, h, _, _, _, _, _ => h.elim
  | .region .., e, w, K, h, _, _, _, _, _ => h.elim
  | .cond .., e, w, K, h, _, _, _, _, _ => h.elim
  | .block .., e, w, K, h, _, _, _, _, _ => h.elim
  | .loop .., e, w, K, h, _, _, _, _, _ => h.elim
  | .exit .., e, w, K, h, _, _, _, _, _ => h.elim
  | .label .., e, w, K, h, _, _, _, _, _ => h.elim
  | .goto .., e, w, K, h, _, _, _, _, _ => h.elim
  | .ret, e, w, K, h, _, _, _, _, _ => h.elim
  | .rangeFunc .., e, w, K, h, _, _, _, _, _ => h.elim
  | .refuse .., e, w, K, h, _, _, _, _, _ => h.elim
  | .scope .., e, w, K, h, _, _, _, _, _ => h.elim
section
variable (P : Program) (ty : Nat → Sh) (ann : Ann)
/-- What the deferred closure is to do where the function returns: return itself, and leave behind what the function hands back. -/
def BodyD (fn : Func) (c : Code) (args : List (Value × Bool)) (w : World) (R : Value → World → Prop) : Prop :=
  WD P ty fn.ntmps ann c (envOf args 0) w fun D x e w' =>
    (match x with
    | .n | .r => match D with
      | none => answer P ty fn R e w'
      | some (f, fargs) => CallsD P f fargs .returning w' fun en u w'' => (∃ v, en = .returned v) ∧ u = .returning ∧ answer P ty fn R e w''
    | _ => False)
end
/-- THE FORMULA IS ENOUGH. -/
theorem calls_of_bodyD {P : Program} {ty : Nat → Sh} {ann : Ann} {f : FuncId} {fn : Func} {c : Code} {vs : List (Value × Bool)} {w : World} {R : Value → World → Prop} {R' : Ending → World → Prop}
    (hm : P.follows .mixedOrders = true) (hf : P.funcs[f]? = some fn) (hb : fn.body = some c) (hn : Nat.ble vs.length fn.ntmps = true)
    (h : BodyD P ty ann fn c vs w R) (hR : ∀ v w', R v w' → R' (.returned v) w') : Calls P f (firsts vs).toArray w R' := by
  have hlen : ∀ l : List (Value × Bool), (firsts l).length = l.length := fun l => by induction l with
    | nil => rfl
    | cons v r ih => simp [firsts, ih]
  have hn' : vs.length ≤ fn.ntmps := Nat.le_of_ble_eq_true hn
  have out : ∀ (D : List Deferred) (e : Env) (a : Act) (w' : World), Sub D fn.ntmps e a → answer P ty fn R e w' → ∃ v, (results fn a.tmps).run P w' = .ok v w' ∧ R' (.returned v) w' := fun D e a w' hs h1 => by
    obtain ⟨vs, hR1, hl, hv⟩ := ans_out hs _ _ h1
    refine ⟨tupled vs, ?_, hR _ _ hR1⟩
    have hmap := run_mapM (P := P) (w := w') hl hv
    have hres : results fn a.tmps = (fn.results.mapM (resAt a.tmps)) >>= fun vs => pure (if h : vs.size = 1 then vs[0] else .tuple vs) := by
      unfold results; congr 1
    rw [hres, Array.mapM_eq_mapM_toList]
    simp only [Sem.run_bind, Sem.run_map, hmap]
    match vs with
    | [] => rfl
    | [v] => rfl
    | v :: u :: r => rfl
  have hsub : Sub [] fn.ntmps (envOf vs 0) { tmps := (firsts vs).toArray ++ Array.replicate (fn.ntmps - (firsts vs).toArray.size) undef, defers := [] } := by
    refine ⟨by simp [hlen]; omega, rfl, fun t v hv => ?_⟩
    obtain ⟨_, h2⟩ := get_envOf vs 0 t v hv
    have h2' : (firsts vs)[t]? = some v.1 := by simpa using h2
    have hlt := (List.getElem?_eq_some_iff.1 h2').1
    simp only
    rw [Array.getElem?_append_left (by simpa using hlt)]
    simpa using h2'
  refine calls_of_wp_defers hf hb (WD_sound hm c _ w _ h _ _ hsub (fun x e' w' a' h1 h3 => ?_) (fun g args d x e' w' a' h1 hi ⟨fv, cap, ht⟩ h3 => ?_))
  · have key : answer P ty fn R e' w' → Leaves P fn a'.tmps R' a'.defers .returning w' := fun h1 => by
      rw [h3.defers]
      exact out _ _ _ _ h3 h1
    cases x with
    | n => exact key h1
    | r => exact key h1
    | x i => exact h1.elim
    | g i => exact h1.elim
  · have key : (CallsD P g args .returning w' fun en u w'' => (∃ v, en = .returned v) ∧ u = .returning ∧ answer P ty fn R e' w'') → Leaves P fn a'.tmps R' a'.defers .returning w' := fun h1 => by
      rw [h3.defers]
      obtain ⟨dt, da⟩ := d
      simp only at ht
      subst ht
      refine leaves_cons (by simp) (pureRun_spec hi w') (h1.mono fun en u w'' ⟨⟨v, hv⟩, hu, ha⟩ => ?_)
      subst hv hu
      exact out _ _ _ _ h3 ha
    cases x with
    | n => exact key h1
    | r => exact key h1
    | x i => exact h1.elim
    | g i => exact h1.elim
end Vc

/- The closure that zip.Read defers, where Read returns: it turns nothing. No condition. -/
set_option linter.unusedVariables false
namespace Vc
open Go
section
variable {P : Program} {ops : Array Oper} {Q : Exit → Act → List Frame → World → Prop}
/-- An operation that asks nothing of the world. -/
def stepS (P : Program) (ops : Array Oper) (i : Nat) (a : Act) : Option Act := match ops[i]? with
  | none => none
  | some o => match Region.wanted o (yielded ops a.tmps) with
    | false => none
    | true => match pureRun P (execOp a.eval o) with
      | some (.value v) => some (a.put o.dst v)
      | _ => none
def stepsS (P : Program) (ops : Array Oper) : List Nat → Act → Option Act
  | [], a => some a
  | i :: r, a => match stepS P ops i a with
    | some a' => stepsS P ops r a'
    | none => none
theorem stepS_spec {i : Nat} {a a' : Act} (h : stepS P ops i a = some a') {rest : List Nat} {cs : List Frame} {w : World} (hq : wpOpsS P ops Q rest a' cs w) : wpOpsS P ops Q (i :: rest) a cs w := by
  unfold stepS at h
  unfold wpOpsS
  split at h
  · cases h
  rename_i o ho
  simp only [ho]
  split at h
  · cases h
  rename_i hw
  rw [if_pos hw]
  split at h
  · rename_i v hv
    cases h
    rw [pureRun_spec hv w]
    exact hq
  · cases h
theorem stepsS_spec : ∀ {l : List Nat} {a a' : Act} (h : stepsS P ops l a = some a') {cs : List Frame} {w : World} (hq : Q .normal a' cs w), wpOpsS P ops Q l a cs w
  | [], a, a', h, cs, w, hq => by cases h; exact hq
  | i :: r, a, a', h, cs, w, hq => by
    simp only [stepsS] at h
    split at h
    · rename_i b hb
      exact stepS_spec hb (stepsS_spec h hq)
    · cases h
/-- recover. -/
theorem recS_spec {i : Nat} {o : Oper} {ct : Array TypeId} (hi : ops[i]? = some o) (ho : o.op = .call ⟨.builtin .recover, #[], ct⟩) (hg : o.guard = none) {rest : List Nat} {a a' : Act} {cs cs' : List Frame} {w : World}
    (h : (match recoverD cs with | some (v, cs'') => a' = a.put o.dst v ∧ cs' = cs'' | none => a' = a.put o.dst .nilIface ∧ cs' = cs)) (hq : wpOpsS P ops Q rest a' cs' w) : wpOpsS P ops Q (i :: rest) a cs w := by
  unfold wpOpsS
  simp only [hi]
  rw [if_pos (by simp [Region.wanted, hg])]
  have hr : (execOp a.eval o).run P w = .ok .recover w := by
    simp [execOp, ho, resolve]
    rfl
  rw [hr]
  simp only
  cases hc : recoverD cs with
  | none =>
    simp only [hc] at h
    obtain ⟨rfl, rfl⟩ := h
    exact hq
  | some p =>
    obtain ⟨v, cs''⟩ := p
    simp only [hc] at h
    obtain ⟨rfl, rfl⟩ := h
    exact hq
end
end Vc
namespace Go.Proofs.YtlohadencnpdgaaDoor
open Go Vc Go.Proofs
set_option maxRecDepth 100000
theorem catch_idle (p q : Addr) (w : World) :
    CallsD Tryd.prog F_zip_Read_1 #[.pointer (some p), .pointer (some q)] .returning w fun e u w' => e = .returned (.tuple #[]) ∧ u = .returning ∧ w' = w := by
  refine callsD_of_wpS Tryd.func12 rfl fun c₀ cs hu => ?_
  have hz : ({ c₀ with mode := .returning } : Frame) = c₀ := by cases c₀; simp only at hu; subst hu; rfl
  refine wpS_seq (wpS_region ?_)
  show wpOpsS _ _ _ [0, 1, 2, 3, 4, 5, 6] _ _ _
  refine recS_spec (a' := ⟨#[.pointer (some p), .pointer (some q), undef, undef, undef, .nilIface, undef, undef, undef, undef, undef], []⟩) (cs' := c₀ :: cs) rfl rfl rfl ?_ ?_
  · rw [show recoverD (c₀ :: cs) = none by unfold recoverD; simp only [hu]]
    exact ⟨by kernel_rfl, rfl⟩
  refine stepsS_spec (a' := ⟨#[.pointer (some p), .pointer (some q), .int .i64 0, .bool false, .tuple #[.int .i64 0, .bool false], .nilIface, .tuple #[.int .i64 0, .bool false], .int .i64 0, .bool false, undef, undef], []⟩) (by kernel_rfl) ?_
  refine wpS_seq (wpS_region ?_)
  show wpOpsS _ _ _ [0] _ _ _
  refine stepsS_spec (a' := ⟨#[.pointer (some p), .pointer (some q), .int .i64 0, .bool false, .tuple #[.int .i64 0, .bool false], .nilIface, .tuple #[.int .i64 0, .bool false], .int .i64 0, .bool false, .bool false, undef], []⟩) (by kernel_rfl) ?_
  refine wpS_cond (t := false) (by kernel_rfl) ?_
  refine wpS_of_wp (wp_skip ?_)
  exact ⟨rfl, .returning, by rw [hz], .tuple #[], by kernel_rfl, rfl, rfl, rfl⟩
end Go.Proofs.YtlohadencnpdgaaDoor

/- Texts as lists of bytes: places, parts, runes, the model's iterator over a text. No condition: for all programs. -/
import Derived.Test.YtoagdpjickippaaDoorVcSls
import Derived.Lib.OthersKept
import Derived.Lib.IndexLaws
import Derived.Laws.Strings
import Derived.Laws.RangeString
set_option linter.unusedVariables false
namespace Vc
open Go

theorem bs_len (s : ByteArray) : s.data.toList.length = s.size := by simp
theorem bs_ext {a b : ByteArray} (h : a.data.toList = b.data.toList) : a = b := ByteArray.ext (Array.ext' h)
theorem bs_app (a b : ByteArray) : (a ++ b).data.toList = a.data.toList ++ b.data.toList := by simp
theorem bs_mk (l : List UInt8) : (⟨l.toArray⟩ : ByteArray).data.toList = l := by simp
theorem bs_mksize (l : List UInt8) : (⟨l.toArray⟩ : ByteArray).size = l.length := by simp [ByteArray.size]
theorem bs_self (s : ByteArray) : (⟨s.data.toList.toArray⟩ : ByteArray) = s := bs_ext (by simp)
theorem bs_extract (s : ByteArray) (i j : Nat) : (s.extract i j).data.toList = (s.data.toList.drop i).take (j - i) := by
  rw [ByteArray.data_extract, Array.toList_extract, List.extract_eq_take_drop]
theorem bs_tail (s : ByteArray) (i : Nat) : (s.extract i s.size).data.toList = s.data.toList.drop i := by
  rw [bs_extract, List.take_of_length_le (by rw [List.length_drop, bs_len]; exact Nat.le_refl _)]
theorem bs_head (s : ByteArray) (i : Nat) : (s.extract 0 i).data.toList = s.data.toList.take i := by rw [bs_extract]; simp
theorem bs_empty {s : ByteArray} : s = ⟨#[]⟩ ↔ s.size = 0 := by
  constructor
  · rintro rfl; rfl
  · intro h
    have : s.data.toList = [] := List.length_eq_zero_iff.1 (by rw [bs_len]; exact h)
    exact bs_ext (by rw [this])
theorem bs_eq (a b : ByteArray) : (a.toList == b.toList) = decide (a = b) := by
  rw [ByteArray.toList_eq, ByteArray.toList_eq]
  by_cases h : a = b
  · subst h; simp
  · rw [decide_eq_false h, beq_eq_false_iff_ne]
    exact fun e => h (bs_ext e)
theorem bs_byt {s : ByteArray} {i : Nat} (h : i < s.size) : byt s i = (s.data.toList[i]'(by rw [bs_len]; exact h)).toNat := by
  unfold byt; rw [List.getElem?_eq_getElem (by rw [bs_len]; exact h)]; rfl
theorem bs_get {s : ByteArray} {i : Nat} (h : i < s.size) : s.data.toList[i]? = some (UInt8.ofNat (byt s i)) := by
  rw [bs_byt h, List.getElem?_eq_getElem (by rw [bs_len]; exact h), UInt8.ofNat_toNat]
theorem bs_get? {s : ByteArray} {i : Nat} {c : UInt8} (h : s.data.toList[i]? = some c) : i < s.size ∧ byt s i = c.toNat := by
  obtain ⟨hl, hc⟩ := List.getElem?_eq_some_iff.1 h
  rw [bs_len] at hl
  exact ⟨hl, by rw [bs_byt hl, hc]⟩
theorem bs_take {s : ByteArray} {n : Nat} (h : n < s.size) : s.data.toList.take (n + 1) = s.data.toList.take n ++ [UInt8.ofNat (byt s n)] := by
  have hlt : n < s.data.toList.length := by rw [bs_len]; exact h
  rw [List.take_succ_eq_append_getElem hlt, bs_byt h, UInt8.ofNat_toNat]
theorem bs_all (s : ByteArray) : s.data.toList.take s.size = s.data.toList := List.take_of_length_le (by simp)
theorem bv_snoc (l : List UInt8) (c : Nat) (h : c < 256) : byteV l ++ [.int .u8 (c : Int)] = byteV (l ++ [UInt8.ofNat c]) := by
  simp [byteV]
  omega
theorem bv_len (l : List UInt8) : (byteV l).length = l.length := by simp [byteV]
theorem bv_one (l : List UInt8) : ∀ u ∈ byteV l, u.oneCell' = true := fun u h => by
  obtain ⟨b, _, rfl⟩ := List.mem_map.1 h; rfl
theorem toNat_of (c : Nat) (h : c < 256) : (UInt8.ofNat c).toNat = c := by simp; omega
theorem ofNat_inj {a b : Nat} (ha : a < 256) (hb : b < 256) (h : UInt8.ofNat a = UInt8.ofNat b) : a = b := by
  have := congrArg UInt8.toNat h
  rwa [toNat_of a ha, toNat_of b hb] at this
/-- Texts that differ nowhere. -/
theorem bs_ext_byt {a b : ByteArray} (hs : a.size = b.size) (h : ∀ i, i < a.size → byt a i = byt b i) : a = b := by
  refine bs_ext (List.ext_getElem? fun i => ?_)
  by_cases hi : i < a.size
  · rw [bs_get hi, bs_get (by omega), h i hi]
  · rw [List.getElem?_eq_none (by rw [bs_len]; omega), List.getElem?_eq_none (by rw [bs_len]; omega)]
theorem byt_extract {s : ByteArray} {i j k : Nat} (hj : j ≤ s.size) (hk : k < j - i) : byt (s.extract i j) k = byt s (i + k) := by
  unfold byt
  rw [bs_extract, List.getElem?_take, if_pos hk, List.getElem?_drop]

/-! ### Where a byte comes first -/
open Go.Lib in
theorem fnd_cases (s : ByteArray) (c : UInt8) : (indexByte s.data.toList c = -1 ∧ ∀ k, k < s.size → byt s k ≠ c.toNat) ∨
    ∃ i : Nat, indexByte s.data.toList c = (i : Int) ∧ i < s.size ∧ byt s i = c.toNat ∧ ∀ k, k < i → byt s k ≠ c.toNat := by
  by_cases h : indexByte s.data.toList c = -1
  · refine .inl ⟨h, fun k hk he => indexByte_none h k ?_⟩
    rw [bs_get hk, he, UInt8.ofNat_toNat]
  · have hg := indexByte_ge s.data.toList c
    obtain ⟨i, hi⟩ := Int.eq_ofNat_of_zero_le (show 0 ≤ indexByte s.data.toList c by omega)
    obtain ⟨h1, h2⟩ := indexByte_some hi
    obtain ⟨h3, h4⟩ := bs_get? h1
    refine .inr ⟨i, hi, h3, h4, fun k hk he => h2 k hk ?_⟩
    rw [bs_get (by omega), he, UInt8.ofNat_toNat]
open Go.Lib in
theorem fnd_at {s : ByteArray} {c : UInt8} {i : Nat} (h : i < s.size) (hc : byt s i = c.toNat) (hn : ∀ k, k < i → byt s k ≠ c.toNat) : indexByte s.data.toList c = (i : Int) := by
  rcases fnd_cases s c with ⟨_, h2⟩ | ⟨j, h1, h2, h3, h4⟩
  · exact absurd hc (h2 i h)
  · rw [h1]
    by_cases hij : i < j
    · exact absurd hc (h4 i hij)
    · by_cases hji : j < i
      · exact absurd h3 (hn j hji)
      · have : i = j := by omega
        rw [this]
open Go.Lib in
theorem fnd_no {s : ByteArray} {c : UInt8} (h : ∀ k, k < s.size → byt s k ≠ c.toNat) : indexByte s.data.toList c = -1 := by
  rcases fnd_cases s c with ⟨h1, _⟩ | ⟨i, _, h2, h3, _⟩
  · exact h1
  · exact absurd h3 (h i h2)

/-! ### Runes -/
theorem get_byt {s : ByteArray} {i : Nat} (h : i < s.size) : (s.get! i).toNat = byt s i := by
  rw [bs_byt h]
  obtain ⟨d⟩ := s
  have h' : i < d.size := h
  show (d[i]!).toNat = _
  rw [getElem!_pos d i h']
  simp
theorem dec_high {s : ByteArray} {p : Nat} (h : p < s.size) (hb : 128 ≤ byt s p) :
    128 ≤ (Utf8.decode s p).1 ∧ (Utf8.decode s p).1 ≤ 1114111 ∧ 1 ≤ (Utf8.decode s p).2 ∧ p + (Utf8.decode s p).2 ≤ s.size ∧ ∀ j, p ≤ j → j < p + (Utf8.decode s p).2 → 128 ≤ byt s j := by
  have hb0 := byt_lt s p
  have g0 : (s.get! (p + 0)).toNat = byt s p := get_byt h
  have one : 128 ≤ ((65533, 1) : Nat × Nat).1 ∧ ((65533, 1) : Nat × Nat).1 ≤ 1114111 ∧ 1 ≤ ((65533, 1) : Nat × Nat).2 ∧ p + ((65533, 1) : Nat × Nat).2 ≤ s.size ∧ ∀ j, p ≤ j → j < p + ((65533, 1) : Nat × Nat).2 → 128 ≤ byt s j :=
    ⟨by decide, by decide, by decide, h, fun j h1 h2 => by have : j = p := by simp only at h2; omega
                                                           rw [this]; exact hb⟩
  have cont : ∀ k, p + k < s.size → (s.get! (p + k)).toNat / 64 = 2 → 128 ≤ byt s (p + k) := fun k hk hc => by
    rw [get_byt hk] at hc; omega
  unfold Utf8.decode Utf8.runeError
  simp only [g0]
  rw [if_neg (by omega)]
  split
  · rename_i hc
    simp only [Bool.and_eq_true, beq_iff_eq, decide_eq_true_eq] at hc
    obtain ⟨h1, h2, h3⟩ := hc
    split
    · rename_i hv
      refine ⟨hv, by simp only; omega, by simp, by simp only; omega, fun j hj1 hj2 => ?_⟩
      simp only at hj2
      by_cases hjp : j = p
      · rw [hjp]; exact hb
      · have : j = p + 1 := by omega
        rw [this]; exact cont 1 h2 h3
    · exact one
  · split
    · rename_i hc
      simp only [Bool.and_eq_true, beq_iff_eq, decide_eq_true_eq] at hc
      obtain ⟨⟨h1, h2, h3⟩, h4, h5⟩ := hc
      split
      · rename_i hv
        simp only [Bool.and_eq_true, decide_eq_true_eq] at hv
        refine ⟨by simp only; omega, by simp only; omega, by simp, by simp only; omega, fun j hj1 hj2 => ?_⟩
        simp only at hj2
        by_cases hjp : j = p
        · rw [hjp]; exact hb
        · by_cases hj1' : j = p + 1
          · rw [hj1']; exact cont 1 h2 h3
          · have : j = p + 2 := by omega
            rw [this]; exact cont 2 h4 h5
      · exact one
    · split
      · rename_i hc
        simp only [Bool.and_eq_true, beq_iff_eq, decide_eq_true_eq] at hc
        obtain ⟨⟨⟨h1, h2, h3⟩, h4, h5⟩, h6, h7⟩ := hc
        split
        · rename_i hv
          simp only [Bool.and_eq_true, decide_eq_true_eq] at hv
          have hval := hv.2
          simp only [Utf8.valid, Bool.or_eq_true, Bool.and_eq_true, decide_eq_true_eq] at hval
          refine ⟨by simp only; omega, by simp only; omega, by simp, by simp only; omega, fun j hj1 hj2 => ?_⟩
          simp only at hj2
          by_cases hjp : j = p
          · rw [hjp]; exact hb
          · by_cases hj1' : j = p + 1
            · rw [hj1']; exact cont 1 h2 h3
            · by_cases hj2' : j = p + 2
              · rw [hj2']; exact cont 2 h4 h5
              · have : j = p + 3 := by omega
                rw [this]; exact cont 3 h6 h7
        · exact one
      · exact one
theorem dec_low {s : ByteArray} {p : Nat} (h : p < s.size) (hb : byt s p < 128) : Utf8.decode s p = (byt s p, 1) := by
  have g0 : (s.get! (p + 0)).toNat = byt s p := get_byt h
  unfold Utf8.decode
  simp only [g0]
  rw [if_pos (by omega)]
/-- An iterator over a text. -/
def IsIter (w : World) (k : Nat) (s : ByteArray) (p : Nat) : Prop := w.heap[k]? = some (.stringIter s p)
theorem IsIter.keep {w w1 : World} {k p : Nat} {s : ByteArray} (h : IsIter w k s p) {X : Nat → Prop} (hf : Fr X w w1) (hx : ¬ X k) : IsIter w1 k s p := hf.keep h hx
section
variable {P : Program}
theorem iter_new {w : World} {t : TypeId} {s : ByteArray} (ht : P.underlying t = some .string) :
    ∃ w', (Instr.range t (.string s)).run P w = .ok (.pointer (some ⟨w.heap.size, 0, none⟩)) w' ∧ IsIter w' w.heap.size s 0 ∧ Fr (fun _ => False) w w' :=
  ⟨_, run_range_string w t s ht, World.iter_heap w s 0, .alloc _ _ _⟩
theorem iter_end {w : World} {k p : Nat} {s : ByteArray} (h : IsIter w k s p) (hp : s.size ≤ p) (ty : TypeId) : (Instr.next (.pointer (some ⟨k, 0, none⟩)) true ty).run P w = .ok (.tuple #[.bool false]) w :=
  Lib.run_next_end_at w k s p ty h (by omega)
theorem iter_next {w : World} {k p : Nat} {s : ByteArray} (h : IsIter w k s p) (hp : p < s.size) (ty : TypeId) :
    ∃ w', (Instr.next (.pointer (some ⟨k, 0, none⟩)) true ty).run P w = .ok (.tuple #[.bool true, .int .i64 p, .int .i32 (Utf8.decode s p).1]) w' ∧ IsIter w' k s (p + (Utf8.decode s p).2) ∧ Fr (· = k) w w' :=
  ⟨_, Lib.run_next_any_at w k s p ty h hp, Lib.iterAt_heap w k s p _ h, ⟨rfl, rfl, rfl, by rw [Lib.iterAt_size]; exact Nat.le_refl _, fun j _ hj => Lib.iterAt_other w k j s _ hj⟩⟩
end
end Vc
namespace Vc
open Go
/-- How much an iterator has ahead of it. -/
def itLeft (k : Nat) (w : World) : Nat := match w.heap[k]? with
  | some (.stringIter s p) => s.size - p
  | _ => 0
theorem IsIter.left {w : World} {k p : Nat} {s : ByteArray} (h : IsIter w k s p) : itLeft k w = s.size - p := by
  unfold itLeft; rw [h]
/-- A rune's text. -/
theorem enc_high {r : Nat} (h : 128 ≤ r) : 2 ≤ (Utf8.encode r).size ∧ (Utf8.encode r).size ≤ 4 ∧ 128 ≤ byt (Utf8.encode r) ((Utf8.encode r).size - 1) := by
  have key : ∀ c : Nat, 128 ≤ c → ∀ (b : Nat → UInt8), (b = fun n => UInt8.ofNat n) →
      let t : ByteArray := if c < 0x80 then ⟨#[b c]⟩ else if c < 0x800 then ⟨#[b (0xC0 + c / 64), b (0x80 + c % 64)]⟩ else if c < 0x10000 then ⟨#[b (0xE0 + c / 4096), b (0x80 + c / 64 % 64), b (0x80 + c % 64)]⟩
        else ⟨#[b (0xF0 + c / 262144), b (0x80 + c / 4096 % 64), b (0x80 + c / 64 % 64), b (0x80 + c % 64)]⟩
      2 ≤ t.size ∧ t.size ≤ 4 ∧ 128 ≤ byt t (t.size - 1) := by
    intro c hc b hb
    subst hb
    have hl : 128 ≤ (UInt8.ofNat (0x80 + c % 64)).toNat := by rw [toNat_of _ (by omega)]; omega
    dsimp only
    rw [if_neg (by omega)]
    split
    · exact ⟨Nat.le_refl 2, show (2 : Nat) ≤ 4 by decide, hl⟩
    · split
      · exact ⟨show (2 : Nat) ≤ 3 by decide, show (3 : Nat) ≤ 4 by decide, hl⟩
      · exact ⟨show (2 : Nat) ≤ 4 by decide, show (4 : Nat) ≤ 4 by decide, hl⟩
  unfold Utf8.encode Utf8.runeError
  split
  · exact key _ (by simp only [Int.toNat_natCast]; exact h) _ rfl
  · exact key _ (by decide) _ rfl
end Vc

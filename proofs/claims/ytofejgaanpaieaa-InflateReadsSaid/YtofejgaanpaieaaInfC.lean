/- The inflater's reading of bits and of symbols; a stored block; bytes that were there before. Conditions: the state is in order. -/
import Derived.Test.YtofejgaanpaieaaInfB
set_option linter.unusedVariables false
namespace Go.Proofs.Ytofejgaanpaieaa
open Go Vc BitsM HuffM Go.Proofs

/-- The bits from a byte on. -/
abbrev bitsFrom (s : ByteArray) (off : Nat) : List Bool := (sbits s.data.toList).drop (8 * off)
section
variable {w w2 : World} {base b rb off p most : Nat} {sl : Sl} {s : ByteArray} {out : List UInt8}
theorem St.le (h : St w base b rb sl s off p out most) : p + 8 * off ≤ 8 * s.size := by have := h.rd.pos_le; omega
theorem bitsFrom_length (s : ByteArray) (off : Nat) : (bitsFrom s off).length = 8 * s.size - 8 * off := by
  rw [List.length_drop, sbits_length]; simp
theorem bitsFrom_drop (s : ByteArray) (off p : Nat) : (bitsFrom s off).drop p = (sbits s.data.toList).drop (8 * off + p) := List.drop_drop
/-- The next bits. -/
theorem stbits_spec (h : St w base b rb sl s off p out most) {n : Nat} (hn : n ≤ 32) :
    Calls Try.prog F_bitin_Reader_Bits #[.pointer (some ⟨rb, 0, none⟩), .int .i64 n] w fun e w' =>
      Fr (· = rb) w w' ∧ ((∃ v p' : Nat, InfM.take (bitsFrom s off) n p = .ok (v, p') ∧ v < 2 ^ n ∧ p' = p + n ∧ e = .returned (.tuple #[.int .u32 (v : Int), .bool true]) ∧ St w' base b rb sl s off p' out most) ∨
        (InfM.take (bitsFrom s off) n p = .error 6 ∧ e = .returned (.tuple #[.int .u32 0, .bool false]))) := by
  refine (rbits_spec h.rd hn).mono ?_
  rintro e w' ⟨rfl, hr, hf⟩
  refine ⟨hf, ?_⟩
  have hle := h.le
  have hlen := bitsFrom_length s off
  have hleft : left s (8 * off + p) = 8 * s.size - (8 * off + p) := rfl
  by_cases hy : n ≤ left s (8 * off + p)
  · rw [if_pos hy] at hr ⊢
    refine .inl ⟨nbits s (8 * off + p) n, p + n, ?_, ?_, rfl, by rw [decide_eq_true hy], h.read hf (by rw [← Nat.add_assoc]; exact hr)⟩
    · unfold InfM.take
      rw [if_pos (by omega), bitsFrom_drop, ← nbits_list]
    · unfold nbits; exact Nat.mod_lt _ (Nat.two_pow_pos n)
  · rw [if_neg hy, decide_eq_false hy]
    refine .inr ⟨?_, rfl⟩
    unfold InfM.take
    rw [if_neg (by omega)]
/-- The next symbol. -/
theorem stread_spec (h : St w base b rb sl s off p out most) {lo hi tb : Nat} {ls : List Nat} (ht : Tab w lo hi tb ls) (hrb : rb < lo ∨ hi ≤ rb) :
    Calls Try.prog F_huff_Table_Read #[.pointer (some ⟨tb, 0, none⟩), .pointer (some ⟨rb, 0, none⟩)] w fun e w' =>
      Fr (· = rb) w w' ∧ ((∃ x p' : Nat, InfM.sym ls (bitsFrom s off) p = .ok (x, p') ∧ p < p' ∧ x < ls.length ∧ e = .returned (.tuple #[.int .i64 (x : Int), .int .i64 0]) ∧ St w' base b rb sl s off p' out most) ∨
        ∃ err : Nat, InfM.sym ls (bitsFrom s off) p = .error err ∧ err ≠ 0 ∧ e = .returned (.tuple #[.int .i64 0, .int .i64 (err : Int)])) := by
  refine (hread_spec ht h.rd hrb).mono ?_
  rintro e w' ⟨x, err, n, rfl, hres, hr, hf⟩
  refine ⟨hf, ?_⟩
  rw [← bitsFrom_drop] at hres
  rcases InfM.sym_res ht.fits ht.gap hres with ⟨rfl, hs, h1, _, hx⟩ | ⟨he, rfl, hs⟩
  · exact .inl ⟨x, p + n, hs, by omega, hx, rfl, h.read hf (by rw [← Nat.add_assoc]; exact hr)⟩
  · exact .inr ⟨err, hs, by omega, rfl⟩
end
end Go.Proofs.Ytofejgaanpaieaa

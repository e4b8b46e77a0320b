/- Plain facts on codes: bits with the highest first, no code begins another one, what reading comes to. -/
import Derived.Test.YtofejgaanpaieaaHuffM
import Derived.Test.YtofejgaanpaieaaBitL
set_option linter.unusedVariables false
namespace HuffM
open BitsM
/-- The number of some bits, the highest first. -/
def hv (l : List Bool) : Nat := num l.reverse
theorem hv_snoc (l : List Bool) (b : Bool) : hv (l ++ [b]) = 2 * hv l + b.toNat := by
  simp only [hv, List.reverse_append, List.reverse_cons, List.reverse_nil, List.nil_append, List.singleton_append, num]; omega
theorem hv_lt (l : List Bool) : hv l < 2 ^ l.length := by have := num_lt l.reverse; rwa [List.length_reverse] at this
theorem hv_take (l : List Bool) {m n : Nat} (hm : m ≤ n) (hn : n ≤ l.length) : hv (l.take m) = hv (l.take n) / 2 ^ (n - m) := by
  have h1 : l.take m = (l.take n).take m := by rw [List.take_take, Nat.min_eq_left hm]
  rw [h1, hv, hv, List.reverse_take, List.length_take, Nat.min_eq_left hn, num_drop]
/-- A symbol's code, bit by bit, the highest first. -/
def cbits (ls : List Nat) (s : Nat) : List Bool := (lowB (ls.getD s 0) (code ls s)).reverse
theorem cbits_length (ls : List Nat) (s : Nat) : (cbits ls s).length = ls.getD s 0 := by simp [cbits, lowB_length]
theorem getD_of {ls : List Nat} {s n : Nat} (h : ls[s]? = some n) : ls.getD s 0 = n := by simp [h]
theorem count_take_lt {ls : List Nat} {s n : Nat} (h : ls[s]? = some n) : (ls.take s).count n < ls.count n := by
  obtain ⟨h1, h2⟩ := List.getElem?_eq_some_iff.1 h
  conv => rhs; rw [← List.take_append_drop s ls]
  rw [List.count_append, List.drop_eq_getElem_cons h1, h2]
  simp
theorem count_take_mono (ls : List Nat) (n : Nat) {s x : Nat} (h : s ≤ x) : (ls.take s).count n ≤ (ls.take x).count n := by
  have : ls.take s = (ls.take x).take s := by rw [List.take_take, Nat.min_eq_left h]
  rw [this]
  exact (List.take_sublist s (ls.take x)).count_le n
theorem count_take_step {ls : List Nat} {s n x : Nat} (h : ls[s]? = some n) (hx : s < x) : (ls.take s).count n < (ls.take x).count n := by
  have h1 := count_take_mono ls n (show s + 1 ≤ x by omega)
  obtain ⟨h2, h3⟩ := List.getElem?_eq_some_iff.1 h
  rw [List.take_succ_eq_append_getElem h2, List.count_append, h3] at h1
  simp at h1; omega
theorem code_lt {ls : List Nat} {s n : Nat} (h : ls[s]? = some n) (h1 : 1 ≤ n) : code ls s < fin ls n := by
  obtain ⟨m, rfl⟩ : ∃ m, n = m + 1 := ⟨n - 1, by omega⟩
  have := count_take_lt h
  rw [code, getD_of h, fin, Nat.add_sub_cancel]; omega
theorem code_ge {ls : List Nat} {s n : Nat} (h : ls[s]? = some n) : 2 * fin ls (n - 1) ≤ code ls s := by
  rw [code, getD_of h]; omega
/-- The codes of greater length stand above. -/
theorem code_above {ls : List Nat} {s n m : Nat} (h : ls[s]? = some n) (h1 : m < n) : fin ls m ≤ code ls s / 2 ^ (n - m) := by
  rw [Nat.le_div_iff_mul_le (Nat.two_pow_pos _)]
  have h2 := fin_double ls m (n - 1 - m)
  rw [show m + (n - 1 - m) = n - 1 by omega] at h2
  have h3 := code_ge h
  have h4 : 2 ^ (n - m) = 2 * 2 ^ (n - 1 - m) := by rw [← Nat.pow_succ']; congr 1; omega
  rw [h4, Nat.mul_comm, Nat.mul_assoc]; omega
/-- Not over-full. -/
def Fits (ls : List Nat) : Prop := fin ls 15 ≤ 32768 ∧ ∀ n ∈ ls, n ≤ 15
theorem Fits.le {ls : List Nat} (h : Fits ls) {n : Nat} (hn : n ≤ 15) : fin ls n ≤ 2 ^ n := by
  rcases Nat.lt_or_ge (2 ^ n) (fin ls n) with h1 | h1
  · have := over_later ls h1 hn
    have := h.1
    omega
  · exact h1
theorem Fits.mem {ls : List Nat} (h : Fits ls) {s n : Nat} (hs : ls[s]? = some n) : n ≤ 15 := h.2 n (List.mem_of_getElem? hs)
theorem hv_cbits {ls : List Nat} (hf : Fits ls) {s n : Nat} (h : ls[s]? = some n) (h1 : 1 ≤ n) : hv (cbits ls s) = code ls s := by
  rw [cbits, hv, List.reverse_reverse, num_lowB, getD_of h]
  have := code_lt h h1
  have := hf.le (hf.mem h)
  exact Nat.mod_eq_of_lt (by omega)
/-- The symbol s, of n bits, stands at the front of b. -/
def At (ls : List Nat) (b : List Bool) (s n : Nat) : Prop := ls[s]? = some n ∧ 1 ≤ n ∧ n ≤ b.length ∧ hv (b.take n) = code ls s
theorem At.one {ls : List Nat} {b : List Bool} {s n x m : Nat} (h : At ls b s n) (h' : At ls b x m) : s = x ∧ n = m := by
  have key : ∀ {s n x m}, At ls b s n → At ls b x m → ¬ m < n := by
    intro s n x m h h' hlt
    have h1 := hv_take b (Nat.le_of_lt hlt) h.2.2.1
    rw [h.2.2.2, h'.2.2.2] at h1
    have h2 := code_above h.1 hlt
    have h3 := code_lt h'.1 h'.2.1
    omega
  have hn : n = m := by have := key h h'; have := key h' h; omega
  subst hn
  refine ⟨?_, rfl⟩
  have h1 : code ls s = code ls x := h.2.2.2.symm.trans h'.2.2.2
  rw [code, code, getD_of h.1, getD_of h'.1] at h1
  rcases Nat.lt_trichotomy s x with h2 | h2 | h2
  · have := count_take_step h.1 h2; omega
  · exact h2
  · have := count_take_step h'.1 h2; omega
/-- The place of a number among the symbols of n bits. -/
theorem syms_code {ls : List Nat} {n k s : Nat} (h : (syms ls n)[k]? = some s) : ls[s]? = some n ∧ code ls s = 2 * fin ls (n - 1) + k := by
  obtain ⟨h1, h2⟩ := syms_get h
  exact ⟨h1, by rw [code, getD_of h1, h2]⟩
theorem sorted_get {ls : List Nat} {n k s : Nat} (hn : 1 ≤ n) (h : (syms ls n)[k]? = some s) : ∀ d, (sorted ls (n + d))[(sorted ls (n - 1)).length + k]? = some s
  | 0 => by
    obtain ⟨m, rfl⟩ : ∃ m, n = m + 1 := ⟨n - 1, by omega⟩
    rw [Nat.add_zero, Nat.add_sub_cancel, sorted, List.getElem?_append_right (by omega), Nat.add_sub_cancel_left]
    exact h
  | d + 1 => by
    have h1 := sorted_get hn h d
    rw [← Nat.add_assoc, sorted, List.getElem?_append_left (List.getElem?_eq_some_iff.1 h1).1]
    exact h1
/-- A row without a gap. -/
def Full (ls : List Nat) : Prop := fin ls 15 = 32768
theorem full_later {ls : List Nat} (hf : Full ls) {n : Nat} (hn : n ≤ 15) (h : ∀ x ∈ ls, x ≤ n) : fin ls n = 2 ^ n := by
  have key : ∀ d, fin ls (n + d) = 2 ^ d * fin ls n := by
    intro d
    induction d with
    | zero => simp
    | succ d ih =>
      have : ls.count (n + d + 1) = 0 := List.count_eq_zero.2 fun hm => by have := h _ hm; omega
      rw [← Nat.add_assoc, fin, ih, this, Nat.pow_succ]
      rw [Nat.mul_comm (2 ^ d) 2, Nat.mul_assoc]; omega
  have h1 := key (15 - n)
  rw [show n + (15 - n) = 15 by omega, hf] at h1
  have h2 : (32768 : Nat) = 2 ^ (15 - n) * 2 ^ n := by rw [← Nat.pow_add, show 15 - n + n = 15 by omega]
  rw [h2] at h1
  exact (Nat.eq_of_mul_eq_mul_left (Nat.two_pow_pos _) h1).symm
/-- A number that is not below the codes of at most n bits, but below those of at most n + d bits if it goes on with noughts, goes on to a longer one's code. -/
theorem ext_at {ls : List Nat} {n x : Nat} (h : fin ls n ≤ x) : ∀ d, x * 2 ^ d < fin ls (n + d) → ∃ s m, ls[s]? = some m ∧ n < m ∧ m ≤ n + d ∧ code ls s / 2 ^ (m - n) = x
  | 0, h1 => by simp only [Nat.pow_zero, Nat.mul_one, Nat.add_zero] at h1; omega
  | d + 1, h1 => by
    by_cases h2 : x * 2 ^ d < fin ls (n + d)
    · obtain ⟨s, m, a, b, c, e⟩ := ext_at h d h2
      exact ⟨s, m, a, b, by omega, e⟩
    · have e2 : fin ls (n + (d + 1)) = 2 * fin ls (n + d) + ls.count (n + d + 1) := rfl
      have e3 : x * 2 ^ (d + 1) = 2 * (x * 2 ^ d) := by rw [Nat.pow_succ, Nat.mul_comm (2 ^ d) 2, ← Nat.mul_assoc, Nat.mul_comm x 2, Nat.mul_assoc]
      have hk : 2 * (x * 2 ^ d) - 2 * fin ls (n + d) < (syms ls (n + d + 1)).length := by rw [syms_length]; omega
      obtain ⟨s, hs⟩ : ∃ s, (syms ls (n + d + 1))[2 * (x * 2 ^ d) - 2 * fin ls (n + d)]? = some s := ⟨_, List.getElem?_eq_getElem hk⟩
      obtain ⟨h3, h4⟩ := syms_code hs
      refine ⟨s, _, h3, by omega, by omega, ?_⟩
      rw [h4, Nat.add_sub_cancel, show n + d + 1 - n = d + 1 by omega]
      have e5 : 2 * fin ls (n + d) + (2 * (x * 2 ^ d) - 2 * fin ls (n + d)) = x * 2 ^ (d + 1) := by omega
      rw [e5, Nat.mul_div_cancel _ (Nat.two_pow_pos _)]
theorem full_ext {ls : List Nat} (hf : Full ls) {n x : Nat} (hn : n ≤ 15) (h : fin ls n ≤ x) (hx : x < 2 ^ n) : ∃ s m, ls[s]? = some m ∧ n < m ∧ m ≤ 15 ∧ code ls s / 2 ^ (m - n) = x := by
  have h1 := ext_at h (15 - n) (by
    rw [show n + (15 - n) = 15 by omega, hf, show (32768 : Nat) = 2 ^ n * 2 ^ (15 - n) by rw [← Nat.pow_add, show n + (15 - n) = 15 by omega]]
    exact Nat.mul_lt_mul_of_pos_right hx (Nat.two_pow_pos _))
  rwa [show n + (15 - n) = 15 by omega] at h1
end HuffM

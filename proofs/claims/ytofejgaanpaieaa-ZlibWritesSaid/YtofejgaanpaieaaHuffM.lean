/- Plain facts on codes by their lengths. -/
set_option linter.unusedVariables false
namespace HuffM
/-- How many of the numbers of n bits the codes of at most n bits take up. -/
def fin (ls : List Nat) : Nat → Nat
  | 0 => 0
  | n + 1 => 2 * fin ls n + ls.count (n + 1)
theorem fin_nil : ∀ m, fin [] m = 0
  | 0 => rfl
  | m + 1 => by simp [fin, fin_nil m]
theorem fin_cons (x : Nat) (ls : List Nat) : ∀ m, fin (x :: ls) m = fin ls m + (if 1 ≤ x ∧ x ≤ m then 2 ^ (m - x) else 0)
  | 0 => by simp only [fin]; rw [if_neg (by omega)]
  | m + 1 => by
    simp only [fin, fin_cons x ls m, List.count_cons]
    have hc : (if (x == m + 1) = true then 1 else 0) = if x = m + 1 then 1 else 0 := by
      by_cases h : x = m + 1
      · rw [if_pos h, if_pos (by simpa using h)]
      · rw [if_neg h, if_neg (by simpa using h)]
    rw [hc]
    by_cases h1 : 1 ≤ x ∧ x ≤ m
    · have h2 : 1 ≤ x ∧ x ≤ m + 1 := by omega
      have h3 : ¬ x = m + 1 := by omega
      rw [if_pos h1, if_pos h2, if_neg h3, show m + 1 - x = (m - x) + 1 by omega, Nat.pow_succ]; omega
    · by_cases h2 : x = m + 1
      · have h3 : 1 ≤ x ∧ x ≤ m + 1 := by omega
        rw [if_neg h1, if_pos h2, if_pos h3, show m + 1 - x = 0 by omega]; omega
      · have h3 : ¬ (1 ≤ x ∧ x ≤ m + 1) := by omega
        rw [if_neg h1, if_neg h2, if_neg h3]; omega
theorem fin_double (ls : List Nat) (n : Nat) : ∀ d, 2 ^ d * fin ls n ≤ fin ls (n + d)
  | 0 => by simp
  | d + 1 => by
    have := fin_double ls n d
    rw [← Nat.add_assoc, fin, Nat.pow_succ, Nat.mul_comm (2 ^ d) 2, Nat.mul_assoc]; omega
/-- Over-full at n: over-full at every greater length. -/
theorem over_later (ls : List Nat) {n m : Nat} (h : 2 ^ n < fin ls n) (hm : n ≤ m) : 2 ^ m < fin ls m := by
  have := fin_double ls n (m - n)
  rw [show n + (m - n) = m by omega] at this
  have h2 : 2 ^ m = 2 ^ (m - n) * 2 ^ n := by rw [← Nat.pow_add]; congr 1; omega
  have h3 : 2 ^ (m - n) * 2 ^ n < 2 ^ (m - n) * fin ls n := Nat.mul_lt_mul_of_pos_left h (Nat.two_pow_pos _)
  omega
/-- The symbols whose codes have n bits. -/
def syms (ls : List Nat) (n : Nat) : List Nat := (List.range ls.length).filter (fun s => ls[s]? == some n)
/-- The symbols by length, up to n bits. -/
def sorted (ls : List Nat) : Nat → List Nat
  | 0 => []
  | n + 1 => sorted ls n ++ syms ls (n + 1)
/-- A symbol's code. -/
def code (ls : List Nat) (s : Nat) : Nat := 2 * fin ls (ls.getD s 0 - 1) + (ls.take s).count (ls.getD s 0)
theorem filter_range_get (p : Nat → Bool) : ∀ (k r s : Nat), ((List.range k).filter p)[r]? = some s → p s = true ∧ s < k ∧ ((List.range s).filter p).length = r
  | 0, r, s, h => by simp at h
  | k + 1, r, s, h => by
    rw [List.range_succ, List.filter_append] at h
    by_cases hr : r < ((List.range k).filter p).length
    · rw [List.getElem?_append_left hr] at h
      obtain ⟨h1, h2, h3⟩ := filter_range_get p k r s h
      exact ⟨h1, by omega, h3⟩
    · rw [List.getElem?_append_right (by omega)] at h
      by_cases hp : p k = true
      · rw [List.filter_cons_of_pos hp] at h
        cases hq : r - ((List.range k).filter p).length with
        | zero =>
          rw [hq] at h
          simp only [List.filter_nil, List.getElem?_cons_zero, Option.some.injEq] at h
          subst h
          exact ⟨hp, by omega, by omega⟩
        | succ q => rw [hq] at h; simp at h
      · rw [List.filter_cons_of_neg hp] at h; simp at h
theorem filter_range_count (ls : List Nat) (n : Nat) : ∀ k, k ≤ ls.length → ((List.range k).filter (fun s => ls[s]? == some n)).length = (ls.take k).count n
  | 0, _ => rfl
  | k + 1, h => by
    rw [List.range_succ, List.filter_append, List.length_append, filter_range_count ls n k (by omega), List.take_succ_eq_append_getElem (by omega), List.count_append]
    congr 1
    rw [List.filter_cons, List.getElem?_eq_getElem (by omega)]
    by_cases hx : ls[k] = n
    · simp [hx]
    · simp [hx]
theorem syms_length (ls : List Nat) (n : Nat) : (syms ls n).length = ls.count n := by
  have := filter_range_count ls n ls.length (Nat.le_refl _)
  rwa [List.take_length] at this
theorem syms_get {ls : List Nat} {n r s : Nat} (h : (syms ls n)[r]? = some s) : ls[s]? = some n ∧ (ls.take s).count n = r := by
  obtain ⟨h1, h2, h3⟩ := filter_range_get _ _ _ _ h
  have h1 : ls[s]? = some n := by simpa using h1
  exact ⟨h1, by rw [← h3, filter_range_count ls n s (by omega)]⟩
theorem syms_mem {ls : List Nat} {n s : Nat} (h : ls[s]? = some n) : s ∈ syms ls n := by
  obtain ⟨h1, h2⟩ := List.getElem?_eq_some_iff.1 h
  simp [syms, h1, h2]
theorem sorted_mem {ls : List Nat} {n s : Nat} (h : ls[s]? = some n) (h1 : 1 ≤ n) : ∀ m, n ≤ m → s ∈ sorted ls m
  | 0, hm => by omega
  | m + 1, hm => by
    simp only [sorted, List.mem_append]
    by_cases hn : n = m + 1
    · subst hn; exact .inr (syms_mem h)
    · exact .inl (sorted_mem h h1 m (by omega))
theorem countP_step (m : Nat) : ∀ l : List Nat, l.countP (fun x => decide (1 ≤ x ∧ x ≤ m + 1)) = l.countP (fun x => decide (1 ≤ x ∧ x ≤ m)) + l.count (m + 1)
  | [] => rfl
  | x :: l => by
    simp only [List.countP_cons, List.count_cons, countP_step m l]
    by_cases h1 : x = m + 1
    · subst h1
      have h4 : ¬ (m + 1 ≤ m) := by omega
      simp [h4]; omega
    · by_cases h2 : 1 ≤ x ∧ x ≤ m
      · have h3 : 1 ≤ x ∧ x ≤ m + 1 := by omega
        simp [h1, h2, h3]; omega
      · have h3 : ¬ (1 ≤ x ∧ x ≤ m + 1) := by omega
        simp [h1, h2, h3]
/-- How many symbols have a code of at most n bits. -/
theorem sorted_length (ls : List Nat) : ∀ m, (sorted ls m).length = ls.countP (fun x => decide (1 ≤ x ∧ x ≤ m))
  | 0 => by simp only [sorted, List.length_nil]; rw [eq_comm, List.countP_eq_zero]; intro x _; simp; omega
  | m + 1 => by simp only [sorted, List.length_append, sorted_length ls m, syms_length, countP_step]
theorem sorted_le (ls : List Nat) (m : Nat) : (sorted ls m).length ≤ ls.length := by rw [sorted_length]; exact List.countP_le_length
end HuffM

/- Plain facts: what the reference's reading comes to is what the table's reading comes to. -/
import Derived.Test.YtofejgaanpaieaaHuffC
import Derived.Test.YtofejgaanpaieaaBitW
set_option linter.unusedVariables false
namespace HuffM
open BitsM Go.Proofs.Ytofejgaanpaieaa
theorem fin_append (l r : List Nat) : ∀ m, fin (l ++ r) m = fin l m + fin r m
  | 0 => rfl
  | m + 1 => by simp only [fin, fin_append l r m, List.count_append]; omega
theorem num_inj : ∀ {l r : List Bool}, l.length = r.length → num l = num r → l = r
  | [], [], _, _ => rfl
  | a :: l, b :: r, hl, hn => by
    simp only [num] at hn
    have ha := Bool.toNat_le a
    have hb := Bool.toNat_le b
    have h1 : a.toNat = b.toNat := by omega
    have h2 : num l = num r := by omega
    rw [num_inj (by simpa using hl) h2]
    congr 1
    cases a <;> cases b <;> simp_all
theorem hv_inj {l r : List Bool} (hl : l.length = r.length) (h : hv l = hv r) : l = r := by
  have := num_inj (l := l.reverse) (r := r.reverse) (by simpa using hl) h
  exact List.reverse_inj.1 this
theorem cbits_prefix {ls : List Nat} (hf : Fits ls) {s n : Nat} (h : ls[s]? = some n) (h1 : 1 ≤ n) (B : List Bool) : cbits ls s <+: B ↔ At ls B s n := by
  have hl : (cbits ls s).length = n := by rw [cbits_length, getD_of h]
  constructor
  · intro hp
    have hle := hp.length_le
    refine ⟨h, h1, by omega, ?_⟩
    have := List.prefix_iff_eq_take.1 hp
    rw [hl] at this
    rw [← this, hv_cbits hf h h1]
  · rintro ⟨_, _, h2, h3⟩
    rw [List.prefix_iff_eq_take, hl]
    exact hv_inj (by rw [hl, List.length_take]; omega) (by rw [h3, hv_cbits hf h h1])
/-- What the reference's reading comes to. -/
def RefRes (ls : List Nat) (B : List Bool) (y n err : Nat) : Prop :=
  (err = 0 ∧ At ls B y n) ∨ (err = 6 ∧ y = 0 ∧ n = 0 ∧ (∀ s m, ¬ At ls B s m) ∧ ∃ s, B.length < (cbits ls s).length ∧ B <+: cbits ls s) ∨
  (err = 3 ∧ y = 0 ∧ n = 0 ∧ (∀ s m, ¬ At ls B s m) ∧ ∀ s, s < ls.length → B.length < (cbits ls s).length → ¬ B <+: cbits ls s)
/-- Without a gap, or without codes, or the one code 0. -/
def Gap (ls : List Nat) : Prop := Full ls ∨ (sorted ls 15).length = 0 ∨ ((sorted ls 15).length = 1 ∧ ls.count 1 = 1)
theorem no_at {ls : List Nat} {B : List Bool} {n : Nat} (hn : n ≤ B.length) (h : fin ls n ≤ hv (B.take n)) {s m : Nat} (hm : m ≤ n) : ¬ At ls B s m := by
  intro ha
  have h1 := hv_take B hm hn
  rw [ha.2.2.2] at h1
  have h2 := code_lt ha.1 ha.2.1
  have h3 := fin_double ls m (n - m)
  rw [show m + (n - m) = n by omega] at h3
  have h4 : fin ls m ≤ hv (B.take n) / 2 ^ (n - m) := by rw [Nat.le_div_iff_mul_le (Nat.two_pow_pos _), Nat.mul_comm]; omega
  omega
theorem res_ref {ls : List Nat} (hf : Fits ls) (hg : Gap ls) {B : List Bool} {x err n y m err' : Nat} (h : Res ls B x err n) (h' : RefRes ls B y m err') : x = y ∧ err = err' ∧ (err = 0 → n = m) := by
  rcases h with ⟨rfl, ha⟩ | ⟨rfl, rfl, hn, h15, hge, hz⟩ | ⟨rfl, rfl, hn, h15, hge, hz⟩
  · rcases h' with ⟨rfl, hb⟩ | ⟨_, _, _, hno, _⟩ | ⟨_, _, _, hno, _⟩
    · obtain ⟨h1, h2⟩ := ha.one hb; exact ⟨h1, rfl, fun _ => h2⟩
    · exact absurd ha (hno _ _)
    · exact absurd ha (hno _ _)
  · subst hn
    have hex : ∃ s, s < ls.length ∧ B.length < (cbits ls s).length ∧ B <+: cbits ls s := by
      rcases hg with hfull | h0 | ⟨h1, h2⟩
      · obtain ⟨s, m, hs, hm, hm15, hc⟩ := full_ext hfull (by omega) hge (hv_lt B)
        have hl : (cbits ls s).length = m := by rw [cbits_length, getD_of hs]
        refine ⟨s, (List.getElem?_eq_some_iff.1 hs).1, by omega, ?_⟩
        rw [List.prefix_iff_eq_take]
        refine hv_inj (by rw [List.length_take]; omega) ?_
        rw [hv_take _ (n := m) (by omega) (by omega), List.take_of_length_le (by omega), hv_cbits hf hs (by omega), hc]
      · obtain ⟨z, hm, hlt⟩ := hz
        have := sorted_lt hm hlt (hf.2 z hm); omega
      · obtain ⟨z, hm, hlt⟩ := hz
        have hz1 : z ≤ 1 := by
          rcases Nat.lt_or_ge 1 z with h | h
          · have h3 := sorted_lt hm h (hf.2 z hm)
            have h4 : (sorted ls 1).length = 0 + ls.count 1 := by rw [sorted, List.length_append, syms_length]; rfl
            omega
          · exact h
        have hB : B = [] := List.eq_nil_of_length_eq_zero (by omega)
        obtain ⟨s, hs, hsz⟩ := List.getElem_of_mem hm
        have hs? : ls[s]? = some z := by rw [List.getElem?_eq_getElem hs, hsz]
        refine ⟨s, hs, by rw [cbits_length, getD_of hs?]; omega, ?_⟩
        rw [hB]; exact List.nil_prefix
    rcases h' with ⟨rfl, hb⟩ | ⟨rfl, rfl, _, _, _⟩ | ⟨_, _, _, _, hno⟩
    · exact absurd hb (no_at (Nat.le_refl _) (by rwa [List.take_length]) hb.2.2.1)
    · exact ⟨rfl, rfl, fun h => by cases h⟩
    · obtain ⟨s, h1, h2, h3⟩ := hex
      exact absurd h3 (hno s h1 h2)
  · rcases h' with ⟨rfl, hb⟩ | ⟨rfl, rfl, _, _, s, h1, h2⟩ | ⟨rfl, rfl, _, _, _⟩
    · exact absurd hb (no_at hn hge (hz _ (List.mem_of_getElem? hb.1)))
    · exfalso
      rw [cbits_length] at h1
      have : ls.getD s 0 ≤ n := by
        rw [List.getD_eq_getElem?_getD]
        cases hs : ls[s]? with
        | none => exact Nat.zero_le _
        | some q => exact hz q (List.mem_of_getElem? hs)
      omega
    · exact ⟨rfl, rfl, fun h => by cases h⟩
theorem lowB_snoc : ∀ (n x : Nat), lowB (n + 1) x = lowB n x ++ [x.testBit n]
  | 0, x => by simp [lowB, Nat.testBit_zero]; rfl
  | n + 1, x => by rw [lowB, lowB_snoc n (x / 2), lowB, List.cons_append, Nat.testBit_succ]
end HuffM

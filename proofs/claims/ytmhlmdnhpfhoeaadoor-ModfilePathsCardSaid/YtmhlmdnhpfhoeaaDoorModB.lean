/- Module paths and file paths in plain. Plain. -/
import Derived.Test.YtmhlmdnhpfhoeaaDoorSnapR
set_option linter.unusedVariables false
namespace Go.Proofs.YtmhlmdnhpfhoeaaDoor
open Go Vc Go.Proofs

def okC (first : Bool) (c : UInt8) : Bool := (decide (97 ≤ c.toNat) && decide (c.toNat ≤ 122)) || (decide (48 ≤ c.toNat) && decide (c.toNat ≤ 57)) || c == 45 || c == 46 || (!first && ((decide (65 ≤ c.toNat) && decide (c.toNat ≤ 90)) || c == 95 || c == 126))
def partPB (first : Bool) (p : ByteArray) : Bool := decide (p.size ≠ 0) && decide (byt p 0 ≠ 46) && decide (byt p (p.size - 1) ≠ 46) && p.data.toList.all (okC first) && (!first || (decide (byt p 0 ≠ 45) && p.data.toList.contains 46))
def pathParts : Bool → List (List UInt8) → Bool
  | _, [] => true
  | first, p :: r => partPB first ⟨p.toArray⟩ && pathParts false r
def pathB (s : ByteArray) : Bool := decide (s.size ≤ 200) && pathParts true (partsL s.data.toList)
def badL : List UInt8 := [34, 39, 42, 60, 62, 63, 96, 124, 92, 58, 59]
def fileB (s : ByteArray) : Bool := cleanB s && !(s.data.toList.any fun c => badL.contains c) && (partsL s.data.toList).all fun p => decide (byt ⟨p.toArray⟩ (p.length - 1) ≠ 46)
theorem pathParts_app : ∀ (first : Bool) (a b : List (List UInt8)), pathParts first (a ++ b) = true → pathParts first a = true
  | _, [], _, _ => rfl
  | first, p :: r, b, h => by
    rw [List.cons_append, pathParts, Bool.and_eq_true] at h
    rw [pathParts, Bool.and_eq_true]
    exact ⟨h.1, pathParts_app false r b h.2⟩
theorem pathParts_mem : ∀ (first : Bool) (a : List (List UInt8)), pathParts first a = true → ∀ p ∈ a, ∃ f, partPB f ⟨p.toArray⟩ = true
  | _, [], _, p, hp => by simp at hp
  | first, q :: r, h, p, hp => by
    rw [pathParts, Bool.and_eq_true] at h
    rcases List.mem_cons.1 hp with rfl | hp
    · exact ⟨first, h.1⟩
    · exact pathParts_mem false r h.2 p hp
theorem partsL_app' : ∀ a b : List UInt8, partsL (a ++ 47 :: b) = partsL a ++ partsL b
  | [], b => by
    show partsL (47 :: b) = [] :: partsL b
    rw [partsL, if_pos rfl]
  | c :: a, b => by
    rw [List.cons_append, partsL, partsL, partsL_app' a b]
    split
    · rfl
    · obtain ⟨h, t, e⟩ := List.exists_cons_of_ne_nil (partsL_ne a)
      rw [e]; rfl
theorem partsL_mem : ∀ (l : List UInt8) (c : UInt8), c ∈ l → c = 47 ∨ ∃ p ∈ partsL l, c ∈ p
  | [], c, h => by simp at h
  | b :: r, c, h => by
    rw [partsL]
    by_cases hb : b = 47
    · rw [if_pos hb]
      rcases List.mem_cons.1 h with rfl | h
      · exact .inl hb
      · rcases partsL_mem r c h with h | ⟨p, hp, hc⟩
        · exact .inl h
        · exact .inr ⟨p, List.mem_cons_of_mem _ hp, hc⟩
    · rw [if_neg hb]
      obtain ⟨q, t, e⟩ := List.exists_cons_of_ne_nil (partsL_ne r)
      rcases List.mem_cons.1 h with rfl | h
      · rw [e]; exact .inr ⟨c :: q, by simp, by simp⟩
      · rcases partsL_mem r c h with h | ⟨p, hp, hc⟩
        · exact .inl h
        · rw [e] at hp ⊢
          rcases List.mem_cons.1 hp with rfl | hp
          · exact .inr ⟨b :: p, by simp, by simp [hc]⟩
          · exact .inr ⟨p, by simp [hp], hc⟩
theorem path_front {s : ByteArray} (h : pathB s = true) {i : Nat} (hi : i < s.size) (hb : byt s i = 47) : pathB (s.extract 0 i) = true := by
  unfold pathB at h ⊢
  rw [Bool.and_eq_true] at h ⊢
  have hl : i < s.data.toList.length := by rw [bs_len]; exact hi
  have hc : s.data.toList[i] = 47 := by
    have := bs_byt hi
    rw [hb] at this
    exact UInt8.toNat_inj.1 (by rw [← this]; rfl)
  have hsp : s.data.toList = s.data.toList.take i ++ 47 :: s.data.toList.drop (i + 1) := by
    rw [← hc, ← List.drop_eq_getElem_cons hl, List.take_append_drop]
  have h1 := of_decide_eq_true h.1
  refine ⟨decide_eq_true (by simp; omega), ?_⟩
  rw [bs_head]
  have := h.2
  rw [hsp, partsL_app'] at this
  exact pathParts_app true _ _ this
theorem okC_facts {f : Bool} {c : UInt8} (h : okC f c = true) : 32 ≤ c.toNat ∧ c.toNat ≤ 126 ∧ badL.contains c = false ∧ c ≠ 47 := by
  have key : ∀ n : Nat, n < 256 → okC f (UInt8.ofNat n) = true → 32 ≤ n ∧ n ≤ 126 ∧ badL.contains (UInt8.ofNat n) = false ∧ UInt8.ofNat n ≠ 47 := by
    cases f <;> decide +kernel
  have := key c.toNat c.toNat_lt (by rw [UInt8.ofNat_toNat]; exact h)
  rw [UInt8.ofNat_toNat] at this
  exact this
theorem partPB_facts {f : Bool} {p : ByteArray} (h : partPB f p = true) : p.size ≠ 0 ∧ byt p 0 ≠ 46 ∧ byt p (p.size - 1) ≠ 46 ∧ ∀ c ∈ p.data.toList, okC f c = true := by
  unfold partPB at h
  simp only [Bool.and_eq_true] at h
  exact ⟨of_decide_eq_true h.1.1.1.1, of_decide_eq_true h.1.1.1.2, of_decide_eq_true h.1.1.2, List.all_eq_true.1 h.1.2⟩
theorem path_file {s : ByteArray} (h : pathB s = true) : fileB s = true := by
  unfold pathB at h
  rw [Bool.and_eq_true] at h
  have h1 := of_decide_eq_true h.1
  have hm := pathParts_mem true _ h.2
  have hch : ∀ c ∈ s.data.toList, 32 ≤ c.toNat ∧ c.toNat ≤ 126 ∧ badL.contains c = false := fun c hc => by
    rcases partsL_mem _ c hc with rfl | ⟨p, hp, hcp⟩
    · decide
    · obtain ⟨f, hf⟩ := hm p hp
      have := okC_facts ((partPB_facts hf).2.2.2 c (by rw [bs_mk]; exact hcp))
      exact ⟨this.1, this.2.1, this.2.2.1⟩
  unfold fileB cleanB
  simp only [Bool.and_eq_true]
  refine ⟨⟨⟨⟨decide_eq_true h1, ?_⟩, decide_eq_true fun k hk => ?_⟩, ?_⟩, ?_⟩
  · rw [partsF_L _ _ (Nat.le_refl _), List.all_eq_true]
    intro x hx
    obtain ⟨p, hp, rfl⟩ := List.mem_map.1 hx
    obtain ⟨f, hf⟩ := hm p hp
    obtain ⟨h2, h3, _⟩ := partPB_facts hf
    unfold partOK
    simp only [Bool.and_eq_true]
    refine ⟨⟨decide_eq_true fun e => ?_, decide_eq_true fun e => ?_⟩, decide_eq_true fun e => ?_⟩
    · rw [e] at h2; exact h2 rfl
    · rw [e] at h3; exact h3 rfl
    · rw [e] at h3; exact h3 rfl
  · have := bs_get hk
    have := hch _ (List.mem_of_getElem? this)
    rw [toNat_of _ (byt_lt s k)] at this
    exact ⟨this.1, this.2.1⟩
  · rw [Bool.not_eq_true', List.any_eq_false]
    intro c hc
    rw [(hch c hc).2.2]; decide
  · rw [List.all_eq_true]
    intro p hp
    obtain ⟨f, hf⟩ := hm p hp
    have := (partPB_facts hf).2.2.1
    rw [bs_mksize] at this
    exact decide_eq_true this
theorem file_ends {s : ByteArray} (h : fileB s = true) : 0 < s.size ∧ byt s 0 ≠ 47 ∧ byt s (s.size - 1) ≠ 47 := by
  unfold fileB cleanB at h
  simp only [Bool.and_eq_true] at h
  have h2 := h.1.1.1.2
  rw [partsF_L _ _ (Nat.le_refl _), List.all_eq_true] at h2
  have no : ([] : List UInt8) ∉ partsL s.data.toList := fun hm => by
    have := h2 ⟨#[]⟩ (List.mem_map.2 ⟨[], hm, rfl⟩)
    revert this; decide
  have h0 : 0 < s.size := by
    rcases Nat.eq_zero_or_pos s.size with h | h
    · exfalso
      have : s.data.toList = [] := List.length_eq_zero_iff.1 (by rw [bs_len]; exact h)
      rw [this] at no
      exact no (by simp [partsL])
    · exact h
  have hne : s.data.toList ≠ [] := fun e => by
    have := congrArg List.length e
    rw [bs_len] at this
    have : s.size = 0 := this
    omega
  refine ⟨h0, fun e => ?_, fun e => ?_⟩
  · obtain ⟨c, r, hcr⟩ := List.exists_cons_of_ne_nil hne
    have hc : c = 47 := by
      unfold byt at e
      rw [hcr] at e
      exact UInt8.toNat_inj.1 e
    rw [hcr, hc, partsL, if_pos rfl] at no
    exact no (by simp)
  · rcases List.eq_nil_or_concat s.data.toList with h | ⟨r, c, hcr⟩
    · exact hne h
    rw [List.concat_eq_append] at hcr
    have hl : s.size = r.length + 1 := by rw [← bs_len, hcr, List.length_append]; rfl
    have hc : c = 47 := by
      unfold byt at e
      rw [hcr, List.getElem?_append_right (by omega), show s.size - 1 - r.length = 0 by omega] at e
      exact UInt8.toNat_inj.1 e
    rw [hcr, hc, partsL_slash] at no
    exact no (by simp)
end Go.Proofs.YtmhlmdnhpfhoeaaDoor

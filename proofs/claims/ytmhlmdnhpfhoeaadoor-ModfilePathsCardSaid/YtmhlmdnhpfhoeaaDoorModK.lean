/- What a plain file says. Plain. -/
import Derived.Test.YtmhlmdnhpfhoeaaDoorModH
set_option linter.unusedVariables false
namespace Go.Proofs.YtmhlmdnhpfhoeaaDoor
open Go Vc Go.Proofs

theorem okC_stop {f : Bool} {c : UInt8} (h : okC f c = true) : isStop c = false := by
  have key : ∀ n : Fin 256, ∀ f, okC f (UInt8.ofNat n) = true → isStop (UInt8.ofNat n) = false := by decide +kernel
  have := key ⟨c.toNat, c.toNat_lt⟩ f (by simp only; rw [UInt8.ofNat_toNat]; exact h)
  simp only at this
  rw [UInt8.ofNat_toNat] at this
  exact this
theorem bare_path : ∀ (suf pre : List UInt8), (∀ c ∈ suf, isStop c = false) → [] ∉ partsL (pre ++ suf) → bareL (suf ++ [10]) = (suf, [10])
  | [], pre, _, _ => rfl
  | c :: r, pre, hs, hp => by
    have hc := hs c (by simp)
    have hr := bare_path r (pre ++ [c]) (fun x hx => hs x (by simp [hx])) (by rw [List.append_assoc]; exact hp)
    rw [List.cons_append, bareL, if_neg, hr]
    rintro (h | h)
    · rw [hc] at h; cases h
    · cases r with
      | nil =>
        unfold slashes at h
        simp at h
      | cons d r =>
        unfold slashes at h
        simp only [List.cons_append, Bool.and_eq_true, beq_iff_eq] at h
        obtain ⟨rfl, rfl⟩ := h
        refine hp ?_
        rw [partsL_app', partsL, if_pos rfl]
        simp
theorem path_facts {s : ByteArray} (h : pathB s = true) : s.size ≤ 200 ∧ s.data.toList ≠ [] ∧ (∀ c ∈ s.data.toList, isStop c = false) ∧ [] ∉ partsL s.data.toList := by
  unfold pathB at h
  rw [Bool.and_eq_true] at h
  have hm := pathParts_mem true _ h.2
  have hno : [] ∉ partsL s.data.toList := fun hh => by
    obtain ⟨f, hf⟩ := hm _ hh
    exact (partPB_facts hf).1 rfl
  refine ⟨of_decide_eq_true h.1, fun e => hno (by rw [e]; simp [partsL]), fun c hc => ?_, hno⟩
  rcases partsL_mem _ c hc with rfl | ⟨p, hp, hcp⟩
  · rfl
  · obtain ⟨f, hf⟩ := hm p hp
    exact okC_stop ((partPB_facts hf).2.2.2 c (by rw [bs_mk]; exact hcp))
theorem next_path {l : List UInt8} (hne : l ≠ []) (hs : ∀ c ∈ l, isStop c = false) (hp : [] ∉ partsL l) : nextL (l ++ [10]) = some (0, l, [10]) := by
  have hb := bare_path l [] hs hp
  obtain ⟨c, r, rfl⟩ := List.exists_cons_of_ne_nil hne
  have hc := hs c (by simp)
  rw [List.cons_append] at hb
  have hsl : slashes (c :: (r ++ [10])) = false := by
    rw [Bool.eq_false_iff]
    intro h
    rw [bareL, if_pos (.inr h)] at hb
    simp at hb
  have n : ∀ d : UInt8, isStop d = true → c ≠ d := fun d hd e => by rw [e, hd] at hc; cases hc
  rw [List.cons_append, nextL, if_neg, if_neg (n 10 rfl), if_neg (n 40 rfl), if_neg (n 41 rfl), hsl, if_neg (by decide), if_neg (n 34 rfl), if_neg (n 96 rfl), hb]
  rintro (h | h | h)
  · exact n 32 rfl h
  · exact n 9 rfl h
  · exact n 13 rfl h
def plainS (s : ByteArray) : ByteArray := ⟨#[109, 111, 100, 117, 108, 101, 32]⟩ ++ s ++ ⟨#[10]⟩
theorem plain_says {s : ByteArray} (h : pathB s = true) : PR (plainS s).data.toList 1 [] ⟨#[]⟩ false [] (.good [⟨wModule, [s], 1⟩]) := by
  obtain ⟨_, h2, h3, h4⟩ := path_facts h
  have hl : (plainS s).data.toList = 109 :: 111 :: 100 :: 117 :: 108 :: 101 :: 32 :: (s.data.toList ++ [10]) := by
    unfold plainS
    rw [bs_app, bs_app]; rfl
  rw [hl]
  have hn := next_path h2 h3 h4
  generalize hr : s.data.toList ++ [10] = r at hn
  have n1 : nextL (109 :: 111 :: 100 :: 117 :: 108 :: 101 :: 32 :: r) = some (0, wModule.data.toList, 32 :: r) := by
    simp [nextL, bareL, slashes, isStop, wModule]
  have n2 : nextL (32 :: r) = some (0, s.data.toList, [10]) := by rw [nextL, if_pos (.inl rfl)]; exact hn
  refine .tok n1 (by decide) (by decide) (.tok n2 (by decide) (by decide) (.next (t := []) (r := []) (x := (wModule, [s], ⟨#[]⟩)) (by rfl) ?_ ?_))
  · rw [bs_self, bs_self]
    unfold lineL
    simp only [List.nil_append, List.cons_append]
    rw [if_neg (by decide), if_neg (by decide), if_neg (by simp)]
    rfl
  · have hst : stepL ([] ++ [(⟨0, ⟨wModule.data.toList.toArray⟩, 1⟩ : Tok)] ++ [⟨0, ⟨s.data.toList.toArray⟩, 1⟩]) ⟨#[]⟩ false [] 1 (wModule, [s], ⟨#[]⟩) = (⟨#[]⟩, false, [⟨wModule, [s], 1⟩]) := by
      unfold stepL
      rw [if_neg (by simp), if_neg (by simp), if_pos (by simp)]
      rfl
    rw [hst]
    exact PR.done (t := []) (r := []) (x := (⟨#[]⟩, [], ⟨#[]⟩)) rfl rfl rfl
theorem plain_mod {s : ByteArray} (h : pathB s = true) : modE (.good [⟨wModule, [s], 1⟩]) = (s, 0, 0) := by
  unfold modE
  simp only [modL]
  rw [if_neg (by simp), if_neg (by decide), if_neg (by simp [h])]
  rfl
end Go.Proofs.YtmhlmdnhpfhoeaaDoor

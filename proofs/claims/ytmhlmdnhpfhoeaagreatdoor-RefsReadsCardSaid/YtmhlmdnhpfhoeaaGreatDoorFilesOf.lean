/- The files that came in, as a list. No condition. -/
import Derived.Test.YtmhlmdnhpfhoeaaGreatDoorSnapX
import Derived.Test.YtmhlmdnhpfhoeaaGreatDoorVcOpen
set_option linter.unusedVariables false
namespace Go.Proofs.YtmhlmdnhpfhoeaaGreatDoor
open Go Vc Go.Proofs Go.RowKit

theorem files_of {W : World} {a : Option Addr} : ∀ (n : Nat), IsRows 2 (fun vs => ∃ x0 x1, vs = [.string x0, .string x1] ∧ x0.size ≤ reachBytes ∧ x1.size ≤ reachBytes) W a n → ∃ xs : List FileE, xs.length = n ∧ ReadsK encF 2 W a xs ∧ (∀ x ∈ xs, x.path.size ≤ reachBytes ∧ x.data.size ≤ reachBytes)
  | 0, _ => ⟨[], rfl, .nil _ _, fun x hx => by simp at hx⟩
  | n + 1, h => by
    obtain ⟨xs, hE, hR, hB⟩ := files_of n fun i hi => h i (by omega)
    obtain ⟨ad, vs, had, hl, ⟨x0, x1, rfl, h1, h2⟩, hc⟩ := h n (by omega)
    refine ⟨xs ++ [⟨x0, x1⟩], by rw [List.length_append, hE]; rfl, fun i x hx => ?_, fun x hx => ?_⟩
    · by_cases hi : i < xs.length
      · rw [List.getElem?_append_left hi] at hx
        exact hR i x hx
      · rw [List.getElem?_append_right (by omega)] at hx
        have hi0 : i - xs.length = 0 := by
          by_cases h : i - xs.length = 0
          · exact h
          · rw [List.getElem?_eq_none (by simp; omega)] at hx; cases hx
        rw [hi0] at hx
        simp only [List.getElem?_cons_zero, Option.some.injEq] at hx
        subst hx
        refine ⟨ad, had, fun j v hv => ?_⟩
        have := hc j v hv
        rw [add_add, show i = n by omega]
        exact this
    · rcases List.mem_append.1 hx with hx | hx
      · exact hB x hx
      · simp only [List.mem_cons, List.mem_nil_iff, or_false] at hx
        subst hx; exact ⟨h1, h2⟩
end Go.Proofs.YtmhlmdnhpfhoeaaGreatDoor

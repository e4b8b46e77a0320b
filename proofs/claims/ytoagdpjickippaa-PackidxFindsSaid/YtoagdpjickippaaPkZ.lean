/- The rows that came in, as a list; where the text came in cut. No condition. -/
import Derived.Test.YtoagdpjickippaaPkN
import Derived.Test.YtoagdpjickippaaVcOpen
set_option linter.unusedVariables false
namespace Go.Proofs.Ytoagdpjickippaa
open Go Vc Go.Proofs Go.RowKit

theorem rows_of {W : World} {a : Option Addr} : ∀ (n : Nat), IsRows 3 (fun vs => ∃ x0 x1 x2, vs = [.string x0, .int .i64 x1, .int .u32 x2] ∧ x0.size ≤ reachBytes ∧ (Lit.int .i64 x1).wf = true ∧ (Lit.int .u32 x2).wf = true) W a n → ∃ xs : List PRow, xs.length = n ∧ ReadsK encP 3 W a xs ∧ (∀ x ∈ xs, x.1.size ≤ reachBytes) ∧ ∀ x ∈ xs, Fits x
  | 0, _ => ⟨[], rfl, .nil _ _, fun x hx => by simp at hx, fun x hx => by simp at hx⟩
  | n + 1, h => by
    obtain ⟨xs, hE, hR, hB, hF⟩ := rows_of n fun i hi => h i (by omega)
    obtain ⟨ad, vs, had, hl, ⟨x0, x1, x2, rfl, h1, h2, h3⟩, hc⟩ := h n (by omega)
    have hf : Fits (x0, x1, x2) := by
      have := wf_u32 h3
      exact ⟨this.1, by show x2 < _; omega⟩
    refine ⟨xs ++ [(x0, x1, x2)], by rw [List.length_append, hE]; rfl, fun i x hx => ?_, fun x hx => ?_, fun x hx => ?_⟩
    · by_cases hi : i < xs.length
      · rw [List.getElem?_append_left hi] at hx
        exact hR i x hx
      · rw [List.getElem?_append_right (by omega)] at hx
        have hi0 : i - xs.length = 0 := by
          by_cases h : i - xs.length = 0
          · exact h
          · rw [List.getElem?_eq_none (by simp; omega)] at hx; cases hx
        rw [hi0] at hx
        simp only [List.getElem?_cons_zero, Option.some.injEq] at hx
        subst hx
        refine ⟨ad, had, fun j v hv => ?_⟩
        have := hc j v hv
        rw [add_add, show i = n by omega]
        exact this
    · rcases List.mem_append.1 hx with hx | hx
      · exact hB x hx
      · simp only [List.mem_cons, List.mem_nil_iff, or_false] at hx
        subst hx; exact h1
    · rcases List.mem_append.1 hx with hx | hx
      · exact hF x hx
      · simp only [List.mem_cons, List.mem_nil_iff, or_false] at hx
        subst hx; exact hf
end Go.Proofs.Ytoagdpjickippaa

/- The law 'a stream that is cut short is told to be short' walked. No condition. -/
import Derived.Test.YtcebplekflpbiaaWInf1
import Derived.Test.YtcebplekflpbiaaInfQ
set_option linter.unusedVariables false
namespace Go.Proofs.Ytcebplekflpbiaa
open Go Vc BitsM HuffM Go.Proofs
theorem begins_walk (a0 : ByteArray) (a1 a2 : Int) (W : World) : Calls Try.prog F_cartularylaw05_InflateBegins #[.string a0, .int .i64 a1, .int .i64 a2] W fun e w' => e = .returned (.bool true) ∧ RowKit.Below W.heap.size W w' := by
  refine vc_cartularylaw05_InflateBegins_ok (R := fun v w' => v = .bool true ∧ Fr (fun k => W.heap.size ≤ k) W w') ?_ (fun v w' h => ⟨by rw [h.1], h.2.below (Nat.le_refl _)⟩)
  refine (few_spec a0 400 W).mono ?_
  rintro e w2 ⟨rfl, hw⟩
  replace hw := hw.symm
  subst hw
  have hs := few_len5 a0 400
  generalize (if a0.size > 400 then a0.extract 0 400 else a0) = s at hs
  refine ⟨s, rfl, ?_⟩
  refine (infl_spec' s (by omega) 0 a2 W).mono ?_
  obtain ⟨r1, hr1⟩ : ∃ r, InfM.inflate s.data.toList 0 a2 = r := ⟨_, rfl⟩
  rw [hr1]
  rintro e w5 ⟨rfl, hl1, hf5⟩
  have up : ∀ {w1 w' : World}, Fr (fun _ => False) W w1 → Fr (fun _ => False) w1 w' → Fr (fun k => W.heap.size ≤ k) W w' := fun h h' => (h.trans' h').mono fun _ _ h => h.elim
  have aw := fun w => awake5_spec w
  refine ⟨⟨r1.1.toArray⟩, _, _, rfl, fun _ => ?_, fun h0 => ⟨fun _ => ?_, fun hpos => ?_⟩⟩
  · exact (aw w5).mono fun e w' ⟨he, hf'⟩ => ⟨true, he, rfl, up hf5 hf'⟩
  · exact (aw w5).mono fun e w' ⟨he, hf'⟩ => ⟨true, he, rfl, up hf5 hf'⟩
  have h0 : r1.2.2 = 0 := by
    have : (r1.2.2 : Int) = 0 := by simpa using h0
    omega
  have hpos := of_decide_eq_false hpos
  obtain ⟨c, hc⟩ : ∃ c : Nat, (if (s.size : Int) < a1 then (s.size : Int) else a1) = (c : Int) := ⟨(if (s.size : Int) < a1 then (s.size : Int) else a1).toNat, by split <;> omega⟩
  have hcs : c ≤ s.size ∧ (c : Int) ≤ a1 ∧ (c = s.size ∨ (c : Int) = a1) := by split at hc <;> omega
  rw [hc]
  refine ⟨⟨by omega, by omega⟩, ?_⟩
  rw [Int.toNat_natCast]
  refine (infl_spec (s.extract 0 c) (by simp; omega) 0 a2 w5).mono ?_
  have hlst : (s.extract 0 c).data.toList = s.data.toList.take c := by rw [extract_list]; simp
  have hsz : s.data.toList.length = s.size := by simp
  have hcut := InfM.inflate_cut (s := s.data.toList) (most := a2) (cut := c) (by omega) (by rw [hr1]; exact h0) (hl1 h0).2
  rw [hlst]
  rw [hr1] at hcut
  rintro e w16 ⟨rfl, _, hf16⟩
  refine ⟨⟨(InfM.inflate (s.data.toList.take c) 0 a2).1.toArray⟩, _, _, rfl, fun hge => ?_, fun hlt => ?_⟩
  · have hge := of_decide_eq_true hge
    have heq : InfM.inflate (s.data.toList.take c) 0 a2 = r1 := by
      by_cases hle : r1.2.1 ≤ c
      · rw [hcut, if_pos hle]
      · rw [List.take_of_length_le (by omega), hr1]
    rw [heq]
    refine (aw w16).mono fun e w' ⟨he, hf'⟩ => ⟨true, he, fun _ => ⟨fun _ => ⟨fun _ => ⟨by rw [h0]; rfl, up (hf5.trans' hf16) hf'⟩, fun h => ?_⟩, fun h => ?_⟩, fun h => (by cases h)⟩
    · simp at h
    · simp at h
  · have hlt := of_decide_eq_false hlt
    rw [hcut, if_neg (by omega)]
    exact (aw w16).mono fun e w' ⟨he, hf'⟩ => ⟨true, he, fun _ => ⟨fun _ => ⟨fun _ => ⟨rfl, up (hf5.trans' hf16) hf'⟩, fun h => absurd h (by decide +kernel)⟩, fun h => absurd h (by decide)⟩, fun h => (by cases h)⟩
end Go.Proofs.Ytcebplekflpbiaa

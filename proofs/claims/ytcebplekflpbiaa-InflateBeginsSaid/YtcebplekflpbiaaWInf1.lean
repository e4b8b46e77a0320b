/- The law 'a greater limit changes nothing' walked. No condition. -/
import Derived.Test.YtcebplekflpbiaaInfI
import Derived.Test.YtcebplekflpbiaaInfN
import Derived.Test.YtcebplekflpbiaaLaw5
set_option linter.unusedVariables false
namespace Go.Proofs.Ytcebplekflpbiaa
open Go Vc BitsM HuffM Go.Proofs

/-- 'awake'. -/
theorem awake5_spec (w : World) : Calls Try.prog F_cartularylaw05_awake #[] w fun e w' => e = .returned (.bool true) ∧ Fr (fun _ => False) w w' := by
  refine vc_cartularylaw05_awake_ok (R := fun v w' => v = .bool true ∧ Fr (fun _ => False) w w') ?_ (fun v w' h => ⟨by rw [h.1], h.2⟩)
  refine (infl_spec ⟨#[75, 4, 0]⟩ (by decide) 0 9 w).mono ?_
  rw [show (ByteArray.mk #[75, 4, 0]).data.toList = [75, 4, 0] from rfl, awake_a]
  rintro e w2 ⟨rfl, _, hf2⟩
  refine ⟨_, _, _, rfl, ?_⟩
  refine (infl_spec ⟨#[7]⟩ (by decide) 0 9 w2).mono ?_
  rw [show (ByteArray.mk #[7]).data.toList = [7] from rfl, awake_7]
  rintro e w7 ⟨rfl, _, hf7⟩
  exact ⟨_, _, _, rfl, fun _ => ⟨fun _ => ⟨fun _ => ⟨rfl, hf2.trans' hf7⟩, fun h => absurd h (by decide +kernel)⟩, fun h => absurd h (by decide +kernel)⟩, fun h => absurd h (by decide +kernel)⟩

theorem few_len5 (s : ByteArray) (n : Nat) : (if s.size > n then s.extract 0 n else s).size ≤ n := by
  split
  · simp; omega
  · omega
theorem limits_walk (a0 : ByteArray) (a1 a2 : Int) (W : World) : Calls Try.prog F_cartularylaw05_InflateLimits #[.string a0, .int .i64 a1, .int .i64 a2] W fun e w' => e = .returned (.bool true) ∧ RowKit.Below W.heap.size W w' := by
  refine vc_cartularylaw05_InflateLimits_ok (R := fun v w' => v = .bool true ∧ Fr (fun k => W.heap.size ≤ k) W w') ?_ (fun v w' h => ⟨by rw [h.1], h.2.below (Nat.le_refl _)⟩)
  refine (few_spec a0 400 W).mono ?_
  rintro e w2 ⟨rfl, hw⟩
  replace hw := hw.symm
  subst hw
  have hs := few_len5 a0 400
  generalize (if a0.size > 400 then a0.extract 0 400 else a0) = s at hs
  refine ⟨s, rfl, ?_⟩
  refine (infl_spec s (by omega) 0 a1 W).mono ?_
  obtain ⟨r1, hr1⟩ : ∃ r, InfM.inflate s.data.toList 0 a1 = r := ⟨_, rfl⟩
  rw [hr1]
  rintro e w5 ⟨rfl, hl1, hf5⟩
  refine ⟨⟨r1.1.toArray⟩, _, _, rfl, ?_⟩
  refine (infl_spec s (by omega) 0 a2 w5).mono ?_
  obtain ⟨r2, hr2⟩ : ∃ r, InfM.inflate s.data.toList 0 a2 = r := ⟨_, rfl⟩
  rw [hr2]
  rintro e w10 ⟨rfl, hl2, hf10⟩
  have hf := hf5.trans' hf10
  have k1 : ((r1.2.2 : Int) == 0) = true → ¬ decide ((((⟨r1.1.toArray⟩ : ByteArray).size : Nat) : Int) > a1) = true := fun h0 hgt => by
    have h0 := eq_of_beq h0
    have := hl1 (by omega)
    have hgt := of_decide_eq_true hgt
    rw [show (⟨r1.1.toArray⟩ : ByteArray).size = r1.1.length by simp [ByteArray.size]] at hgt
    omega
  have k2 : ((r2.2.2 : Int) == 0) = true → ¬ decide ((((⟨r2.1.toArray⟩ : ByteArray).size : Nat) : Int) > a2) = true := fun h0 hgt => by
    have h0 := eq_of_beq h0
    have := hl2 (by omega)
    have hgt := of_decide_eq_true hgt
    rw [show (⟨r2.1.toArray⟩ : ByteArray).size = r2.1.length by simp [ByteArray.size]] at hgt
    omega
  have up : ∀ {w' : World}, Fr (fun _ => False) w10 w' → Fr (fun k => W.heap.size ≤ k) W w' := fun h => (hf.trans' h).mono fun _ _ h => h.elim
  have aw := fun w => awake5_spec w
  refine ⟨⟨r2.1.toArray⟩, _, _, rfl, fun w15 => w15 = w10, ⟨⟨fun h0 => ⟨fun hgt => absurd hgt (k1 h0), fun _ => ⟨fun h0' => ⟨fun hgt => absurd hgt (k2 h0'), fun _ => rfl⟩, fun _ => rfl⟩⟩, fun _ => ⟨fun h0' => ⟨fun hgt => absurd hgt (k2 h0'), fun _ => rfl⟩, fun _ => rfl⟩⟩, ?_⟩⟩
  intro w15 hw15
  subst hw15
  refine ⟨fun _ => ?_, fun h1 => ⟨fun _ => ?_, fun h2 => ⟨fun _ => ?_, fun h3 => ⟨fun _ => ?_, fun h4 => ?_⟩⟩⟩⟩
  · exact (aw w15).mono fun e w' ⟨he, hf'⟩ => ⟨true, he, rfl, up hf'⟩
  · exact (aw w15).mono fun e w' ⟨he, hf'⟩ => ⟨true, he, rfl, up hf'⟩
  · exact (aw w15).mono fun e w' ⟨he, hf'⟩ => ⟨true, he, rfl, up hf'⟩
  · exact (aw w15).mono fun e w' ⟨he, hf'⟩ => ⟨true, he, rfl, up hf'⟩
  · have h1 := of_decide_eq_false h1
    have h2 := of_decide_eq_false h2
    have h3 := of_decide_eq_false h3
    have h4 : r1.2.2 ≠ 2 := fun h => by rw [h] at h4; simp at h4
    have heq := InfM.inflate_more (s := s.data.toList) (most := a1) (more := a2) (by omega) (by omega) (by omega) (by rw [hr1]; exact h4)
    rw [hr1, hr2] at heq
    subst heq
    refine (aw w15).mono fun e w' ⟨he, hf'⟩ => ⟨true, he, fun _ => ⟨fun _ => ⟨fun _ => ⟨by simp, up hf'⟩, fun h => ?_⟩, fun h => ?_⟩, fun h => (by cases h)⟩
    · simp at h
    · simp at h
end Go.Proofs.Ytcebplekflpbiaa

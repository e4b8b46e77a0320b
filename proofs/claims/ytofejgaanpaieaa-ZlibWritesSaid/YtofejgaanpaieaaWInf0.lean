/- 'awake' of the laws of layer 5 walked. No condition. -/
import Derived.Test.YtofejgaanpaieaaInfX
import Derived.Test.YtofejgaanpaieaaLaw5A
set_option linter.unusedVariables false
namespace Go.Proofs.Ytofejgaanpaieaa
open Go Vc BitsM HuffM Go.Proofs

/-- 'awake'. -/
theorem awake5_spec (w : World) : Calls Try.prog F_cartularylaw05_awake #[] w fun e w' => e = .returned (.bool true) ∧ Fr (fun _ => False) w w' := by
  refine vc_cartularylaw05_awake_ok (R := fun v w' => v = .bool true ∧ Fr (fun _ => False) w w') ?_ (fun v w' h => ⟨by rw [h.1], h.2⟩)
  refine (infl_spec ⟨#[75, 4, 0]⟩ (by decide) 0 9 w).mono ?_
  rw [show (ByteArray.mk #[75, 4, 0]).data.toList = [75, 4, 0] from rfl, awake_a]
  rintro e w2 ⟨rfl, _, hf2⟩
  refine ⟨_, _, _, rfl, ?_⟩
  refine (infl_spec ⟨#[7]⟩ (by decide) 0 9 w2).mono ?_
  rw [show (ByteArray.mk #[7]).data.toList = [7] from rfl, awake_7]
  rintro e w7 ⟨rfl, _, hf7⟩
  exact ⟨_, _, _, rfl, fun _ => ⟨fun _ => ⟨fun _ => ⟨rfl, hf2.trans' hf7⟩, fun h => absurd h (by decide +kernel)⟩, fun h => absurd h (by decide +kernel)⟩, fun h => absurd h (by decide +kernel)⟩

theorem few_len5 (s : ByteArray) (n : Nat) : (if s.size > n then s.extract 0 n else s).size ≤ n := by
  split
  · simp; omega
  · omega
end Go.Proofs.Ytofejgaanpaieaa

/- The law 'any bytes are inflated as said' walked. No condition. -/
import Derived.Test.YtofejgaanpaieaaInfR7
import Derived.Test.YtofejgaanpaieaaWInf0
import Derived.Test.YtofejgaanpaieaaLaw5R
set_option linter.unusedVariables false
namespace Go.Proofs.Ytofejgaanpaieaa
open Go Vc BitsM HuffM Go.Proofs

theorem reads5_walk (a0 : ByteArray) (a1 a2 : Int) (W : World) : Calls Try.prog F_cartularylaw05_InflateReads #[.string a0, .int .i64 a1, .int .i64 a2] W fun e w' => e = .returned (.bool true) ∧ RowKit.Below W.heap.size W w' := by
  refine vc_cartularylaw05_InflateReads_ok (R := fun v w' => v = .bool true ∧ Fr (fun k => W.heap.size ≤ k) W w') ?_ (fun v w' h => ⟨by rw [h.1], h.2.below (Nat.le_refl _)⟩)
  refine (few_spec a0 400 W).mono ?_
  rintro e w2 ⟨rfl, hw⟩
  replace hw := hw.symm
  subst hw
  have hs := few_len5 a0 400
  generalize (if a0.size > 400 then a0.extract 0 400 else a0) = s at hs
  refine ⟨s, rfl, ?_⟩
  refine (infl_spec s (by omega) a1 a2 W).mono ?_
  rintro e w5 ⟨rfl, _, hf5⟩
  refine ⟨_, _, _, rfl, ?_⟩
  refine (rinfl_spec s (by omega) a1 a2 w5).mono ?_
  rintro e w10 ⟨rfl, hf10⟩
  refine ⟨_, _, _, rfl, ?_⟩
  refine (awake5_spec w10).mono ?_
  rintro e w15 ⟨rfl, hf15⟩
  refine ⟨_, rfl, fun _ => ⟨fun _ => ⟨fun _ => ⟨by rw [beq_self_eq_true], ((hf5.trans' hf10).trans' hf15).mono fun _ _ h => h.elim⟩, fun h => ?_⟩, fun h => ?_⟩, fun h => (by cases h)⟩
  · rw [beq_self_eq_true] at h; cases h
  · rw [beq_self_eq_true] at h; cases h
end Go.Proofs.Ytofejgaanpaieaa

/- The law's Few of a text. No condition. -/
import Derived.Test.YtoagdpjickippaaDoorVcStr
import Derived.Test.YtoagdpjickippaaDoorFewG
set_option linter.unusedVariables false
namespace Go.Proofs.YtoagdpjickippaaDoor
open Go Vc Go.Proofs

theorem fewS_spec (s : ByteArray) (n : Nat) (w : World) : Calls Tryd.prog F_cartularylaw01_Few #[.string s, .int .i64 n] w fun e w' => e = .returned (.string (if s.size > n then s.extract 0 n else s)) ∧ w' = w := by
  refine vc_cartularylaw01_Few_ok (R := fun v w' => v = .string (if s.size > n then s.extract 0 n else s) ∧ w' = w) ?_ (fun v w' h => ⟨by rw [h.1], h.2⟩)
  refine ⟨fun h => ?_, fun h => ?_⟩
  · have h := of_decide_eq_true h
    rw [if_pos (by omega)]
    exact ⟨⟨by omega, by omega⟩, by simp, rfl⟩
  · have h := of_decide_eq_false h
    rw [if_neg (by omega)]
    exact ⟨rfl, rfl⟩
theorem fewS_len (s : ByteArray) (n : Nat) : (if s.size > n then s.extract 0 n else s).size ≤ n := by
  split
  · simp; omega
  · omega
end Go.Proofs.YtoagdpjickippaaDoor

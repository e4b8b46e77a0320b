/- A digit of a byte. No condition. -/
import Derived.Test.YtoagdpjickippaaDoorHexM
set_option linter.unusedVariables false
namespace Go.Proofs.YtoagdpjickippaaDoor
open Go Vc HexM Go.Proofs

theorem hexdig_at (n : Nat) (h : n < 16) : byteAt ⟨#[48, 49, 50, 51, 52, 53, 54, 55, 56, 57, 97, 98, 99, 100, 101, 102]⟩ (n : Int) = (hx n : Nat) := by
  rw [byteAt_nat]
  have ha : ((List.range 16).all fun n => byt ⟨#[48, 49, 50, 51, 52, 53, 54, 55, 56, 57, 97, 98, 99, 100, 101, 102]⟩ n == hx n) = true := by decide +kernel
  have := List.all_eq_true.1 ha n (List.mem_range.2 h)
  rw [eq_of_beq this]
theorem and15 (n : Nat) (h : n < 256) : n &&& 15 = n % 16 := Nat.and_two_pow_sub_one_eq_mod n 4
end Go.Proofs.YtoagdpjickippaaDoor

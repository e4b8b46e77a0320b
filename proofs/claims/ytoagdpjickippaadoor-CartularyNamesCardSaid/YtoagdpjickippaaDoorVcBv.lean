/- Numbers of 32 and 64 bits as bit vectors. No condition. -/
import Derived.Test.YtoagdpjickippaaDoorVcLib
set_option linter.unusedVariables false
namespace Vc
open Go
section
theorem u_of (x : BitVec 32) : BitVec.ofInt 32 (x.toNat : Int) = x := by
  rw [BitVec.ofInt_natCast]; simp
theorem u_wrap (x : BitVec 32) : IntKind.u32.wrap (x.toNat : Int) = (x.toNat : Int) := by
  have := x.isLt
  exact wrap_u32 (by omega) (by omega)
theorem u_add (x y : BitVec 32) : IntKind.u32.wrap ((x.toNat : Int) + (y.toNat : Int)) = ((x + y).toNat : Int) := by
  rw [wrap_u32_mod, BitVec.toNat_add]; omega
theorem u_shl (x : BitVec 32) (k : Nat) (hk : k ≤ 32) : IntKind.u32.wrap ((x.toNat : Int) * 2 ^ (min k 32)) = ((x <<< k).toNat : Int) := by
  have hp : (2 : Int) ^ k = ((2 ^ k : Nat) : Int) := by push_cast; rfl
  rw [Nat.min_eq_left hk, wrap_u32_mod, BitVec.toNat_shiftLeft, Nat.shiftLeft_eq, hp, ← Int.natCast_mul]
  generalize x.toNat * 2 ^ k = z
  show (z : Int) % 4294967296 = ((z % 4294967296 : Nat) : Int)
  omega
theorem u_shr (x : BitVec 32) (k : Nat) (hk : k ≤ 32) : Int.fdiv (x.toNat : Int) (2 ^ (min k 32)) = ((x >>> k).toNat : Int) := by
  have hp : (2 : Int) ^ k = ((2 ^ k : Nat) : Int) := by push_cast; rfl
  rw [Nat.min_eq_left hk, hp, Int.fdiv_eq_ediv_of_nonneg _ (Int.natCast_nonneg _), ← Int.natCast_ediv, BitVec.toNat_ushiftRight, Nat.shiftRight_eq_div_pow]
end
end Vc

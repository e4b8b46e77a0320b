/- The frame of RFC 1950, on lists. No condition. -/
import Derived.Test.YtofejgaanpaieaaInfQ
import Derived.Test.YtofejgaanpaieaaInfN
import Derived.Test.YtofejgaanpaieaaSumM
set_option linter.unusedVariables false
namespace ZlM
open BitsM SumM Go.Proofs.Ytofejgaanpaieaa
/-- Is it a head? -/
def head (a b : Nat) : Bool := a % 16 == 8 && (decide (a / 16 ≤ 7) && ((256 * a + b) % 31 == 0 && b / 32 % 2 == 0))
/-- The frame at a place: what it says, its bytes, the error's number. -/
noncomputable def read (s : List UInt8) (at_ most : Int) : List UInt8 × Nat × Nat :=
  if at_ < 0 ∨ (s.length : Int) < at_ ∨ most < 0 ∨ 65536 < most then ([], 0, 1)
  else if s.length < at_.toNat + 2 then ([], 0, 6)
  else if head (s.getD at_.toNat 0).toNat (s.getD (at_.toNat + 1) 0).toNat = false then ([], 0, 3)
  else if (InfM.inflate s (at_ + 2) most).2.2 ≠ 0 then ([], 0, (InfM.inflate s (at_ + 2) most).2.2)
  else if s.length < at_.toNat + 2 + (InfM.inflate s (at_ + 2) most).2.1 + 4 then ([], 0, 6)
  else if (s.drop (at_.toNat + 2 + (InfM.inflate s (at_ + 2) most).2.1)).take 4 ≠ bigB 4 (adler (InfM.inflate s (at_ + 2) most).1) then ([], 0, 5)
  else ((InfM.inflate s (at_ + 2) most).1, (InfM.inflate s (at_ + 2) most).2.1 + 6, 0)
/-- No more is taken than there is. -/
theorem inf_le {most : Nat} {B : List Bool} {out : List UInt8} {p : Nat} (h : InfM.inf most B = .ok (out, p)) : p ≤ B.length := by
  unfold InfM.inf at h
  have hc := InfM.blocks_cut (most := most) (Nat.le_refl B.length) (B.length + 1) (B.length + 1) 0 [] (Nat.zero_le _) (by omega) out p h
  rw [List.take_length, h] at hc
  split at hc
  · assumption
  · cases hc
theorem inflate_le {s : List UInt8} {at_ most : Int} (h : (InfM.inflate s at_ most).2.2 = 0) : at_.toNat + (InfM.inflate s at_ most).2.1 ≤ s.length ∧ 0 ≤ at_ := by
  unfold InfM.inflate at h ⊢
  split at h
  · cases h
  · rename_i hc
    rw [if_neg hc]
    cases hi : InfM.inf most.toNat (sbits (s.drop at_.toNat)) with
    | error e =>
      dsimp only
      omega
    | ok x =>
      obtain ⟨out, p⟩ := x
      have := inf_le hi
      rw [sbits_length, List.length_drop] at this
      dsimp only
      omega
theorem inflate_len {s : List UInt8} {at_ most : Int} (h : (InfM.inflate s at_ most).2.2 = 0) : ((InfM.inflate s at_ most).1.length : Int) ≤ 65536 := by
  unfold InfM.inflate at h ⊢
  split at h
  · cases h
  · rename_i hc
    rw [if_neg hc]
    cases hi : InfM.inf most.toNat (sbits (s.drop at_.toNat)) with
    | error e => dsimp only; decide
    | ok x =>
      obtain ⟨out, p⟩ := x
      dsimp only
      unfold InfM.inf at hi
      rcases InfM.blocks_good (Nat.le_refl most.toNat) (sbits (s.drop at_.toNat)) ((sbits (s.drop at_.toNat)).length + 1) 0 [] (Nat.zero_le _) with hg | ⟨_, hg⟩
      · rw [hi] at hg; cases hg
      · have := hg _ _ hi
        omega
theorem read_bad {s : List UInt8} {at_ most : Int} (h : (read s at_ most).2.2 ≠ 0) : (read s at_ most).1 = [] ∧ (read s at_ most).2.1 = 0 := by
  unfold read at h ⊢
  generalize InfM.inflate s (at_ + 2) most = q at h ⊢
  split
  · exact ⟨rfl, rfl⟩
  rename_i h1; rw [if_neg h1] at h
  split
  · exact ⟨rfl, rfl⟩
  rename_i h2; rw [if_neg h2] at h
  split
  · exact ⟨rfl, rfl⟩
  rename_i h3; rw [if_neg h3] at h
  split
  · exact ⟨rfl, rfl⟩
  rename_i h4; rw [if_neg h4] at h
  split
  · exact ⟨rfl, rfl⟩
  rename_i h5; rw [if_neg h5] at h
  split
  · exact ⟨rfl, rfl⟩
  rename_i h6; rw [if_neg h6] at h
  exact absurd rfl h
theorem read_ok {s : List UInt8} {most : Int} (h : (read s 0 most).2.2 = 0) : 2 ≤ s.length ∧ head (s.getD 0 0).toNat (s.getD 1 0).toNat = true ∧ (InfM.inflate s 2 most).2.2 = 0 ∧
    (read s 0 most).1 = (InfM.inflate s 2 most).1 ∧ (read s 0 most).2.1 = (InfM.inflate s 2 most).2.1 + 6 ∧ (InfM.inflate s 2 most).2.1 + 6 ≤ s.length := by
  unfold read at h ⊢
  rw [show (0 : Int) + 2 = 2 from rfl, show (0 : Int).toNat = 0 from rfl, Nat.zero_add] at h ⊢
  generalize InfM.inflate s 2 most = q at h ⊢
  split at h
  · cases h
  rename_i h1
  split at h
  · cases h
  rename_i h2
  split at h
  · cases h
  rename_i h3
  split at h
  · rename_i h4; exact absurd h h4
  rename_i h4
  split at h
  · cases h
  rename_i h5
  split at h
  · cases h
  rename_i h6
  rw [if_neg h1, if_neg h2, if_neg h3, if_neg h4, if_neg h5, if_neg h6]
  exact ⟨by omega, by simpa using h3, by omega, rfl, rfl, by omega⟩
/-- How many heads there are with this first byte and a second one below k. -/
def cnt (a : Nat) : Nat → Nat
  | 0 => 0
  | k + 1 => cnt a k + (if head a k = true then 1 else 0)
theorem cnt_all : ∀ a, a < 256 → ((a % 16 = 8 ∧ a / 16 ≤ 7) ↔ 0 < cnt a 256) ∧ cnt a 256 ≤ 5 := by decide +kernel
end ZlM

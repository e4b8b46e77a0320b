/- The reference's Hexed and Id. Conditions: as named. -/
import Derived.Test.YtmhlmdnhpfhoeaaGreatDoorHexFU
import Derived.Test.YtmhlmdnhpfhoeaaGreatDoorHexed
set_option linter.unusedVariables false
namespace Go.Proofs.YtmhlmdnhpfhoeaaGreatDoor
open Go Vc HexM Go.Proofs

theorem hexed_ok {c : Nat} : (dg c).isSome = true ↔ (48 ≤ c ∧ c ≤ 57) ∨ (97 ≤ c ∧ c ≤ 102) := by
  unfold dg
  split
  · rename_i h; simp; omega
  · split
    · rename_i h; simp; omega
    · simp; omega
theorem digits_iff {s : ByteArray} : digits s.data.toList = true ↔ ∀ k, k < s.size → (dg (byt s k)).isSome = true := by
  unfold digits
  rw [List.all_eq_true]
  constructor
  · intro h k hk
    have := h _ (List.mem_of_getElem? (bs_get hk))
    rwa [toNat_of _ (byt_lt _ _)] at this
  · intro h x hx
    obtain ⟨k, hk, rfl⟩ := List.getElem_of_mem hx
    rw [bs_len] at hk
    have := h k hk
    rwa [bs_byt hk] at this
/-- The reference's 'Hexed'. -/
theorem hexed_spec (s : ByteArray) (hs : s.size ≤ 140737488355328) (w : World) : Calls Tryz.prog F_cartularyref01_Hexed #[.string s] w fun e w' => e = .returned (.bool (unhexL s.data.toList).isSome) ∧ w' = w := by
  refine vc_cartularyref01_Hexed_ok (R := fun v w' => v = .bool (unhexL s.data.toList).isSome ∧ w' = w) ?_ (fun v w' h => ⟨by rw [h.1], h.2⟩)
  refine ⟨fun n w' => w' = w ∧ ∃ k : Nat, n = k ∧ k ≤ s.size ∧ ∀ j, j < k → (dg (byt s j)).isSome = true, fun n _ => s.size - n.toNat, ⟨rfl, 0, rfl, Nat.zero_le _, fun j hj => by omega⟩, ?_⟩
  rintro n w4 ⟨hw, k, rfl, hk, hall⟩
  replace hw := hw.symm
  subst hw
  have e1 : IntKind.i64.wrap ((k : Int) + 1) = ((k + 1 : Nat) : Int) := by rw [wrap_i64 (by omega) (by omega)]; omega
  rw [e1]
  refine ⟨fun hlt => ?_, fun hge => ?_⟩
  · have hlt := of_decide_eq_true hlt
    rw [byteAt_nat]
    have step : (dg (byt s k)).isSome = true → (w = w ∧ ∃ k' : Nat, ((k + 1 : Nat) : Int) = k' ∧ k' ≤ s.size ∧ ∀ j, j < k' → (dg (byt s j)).isSome = true) ∧ s.size - (((k + 1 : Nat) : Int)).toNat < s.size - ((k : Int)).toNat := fun h =>
      ⟨⟨rfl, k + 1, rfl, by omega, fun j hj => by
        by_cases hjk : j = k
        · rw [hjk]; exact h
        · exact hall j (by omega)⟩, by omega⟩
    have bad : ¬ (dg (byt s k)).isSome = true → (Value.bool false = .bool (unhexL s.data.toList).isSome ∧ w = w) := fun h => by
      have := unhexL_bad k s.data.toList _ (bs_get (by omega)) (by rw [toNat_of _ (byt_lt _ _)]; simpa using h)
      rw [this]; exact ⟨rfl, rfl⟩
    rw [hexed_ok] at step bad
    refine ⟨⟨by omega, by omega⟩, fun h1 => ⟨⟨by omega, by omega⟩, fun h2 => step ?_, fun h2 => ⟨⟨by omega, by omega⟩, fun h3 => ⟨⟨by omega, by omega⟩, fun h4 => bad ?_, fun h4 => step ?_⟩, fun h3 => bad ?_⟩⟩, fun h1 => ⟨⟨by omega, by omega⟩, fun h3 => ⟨⟨by omega, by omega⟩, fun h4 => bad ?_, fun h4 => step ?_⟩, fun h3 => bad ?_⟩⟩
    all_goals (simp at *; omega)
  · have hge := of_decide_eq_false hge
    have : k = s.size := by omega
    subst this
    refine ⟨by decide, ?_, rfl⟩
    rw [unhexL_iff, digits_iff.2 hall, Bool.true_and, bs_len, show (2 : Int) = ((2 : Nat) : Int) from rfl, ← Int.ofNat_tmod]
    congr 1
    rw [Bool.eq_iff_iff, beq_iff_eq, beq_iff_eq]; omega
theorem rid_spec (s : ByteArray) (hs : s.size ≤ 140737488355328) (w : World) : Calls Tryz.prog F_cartularyref09_Id #[.string s] w fun e w' => e = .returned (.bool (isId s.data.toList)) ∧ w' = w := by
  refine vc_cartularyref09_Id_ok (R := fun v w' => v = .bool (isId s.data.toList) ∧ w' = w) ?_ (fun v w' h => ⟨by rw [h.1], h.2⟩)
  refine ⟨fun h => (hexed_spec s hs w).mono ?_, fun h => ⟨?_, rfl⟩⟩
  · rintro e w2 ⟨rfl, hw⟩
    refine ⟨_, rfl, ?_, hw⟩
    have h := eq_of_beq h
    unfold isId
    rw [bs_len, show (s.size == 40) = true by rw [beq_iff_eq]; omega, Bool.and_true]
  · unfold isId
    rw [bs_len, show (s.size == 40) = false by
      rw [beq_eq_false_iff_ne]; intro e; rw [e] at h; simp at h, Bool.and_false]
end Go.Proofs.YtmhlmdnhpfhoeaaGreatDoor

/- The reference's Clean, beginnings of texts. Conditions: as named. -/
import Derived.Test.YtmhlmdnhpfhoeaaGreatDoorSnapR
import Derived.Test.YtmhlmdnhpfhoeaaGreatDoorSnap1
set_option linter.unusedVariables false
namespace Go.Proofs.YtmhlmdnhpfhoeaaGreatDoor
open Go Vc Go.Proofs

theorem rclean_spec (s : ByteArray) (hs : s.size ≤ 140737488355328) (w : World) : Calls Tryz.prog F_cartularyref07_Clean #[.string s] w fun e w' => e = .returned (.bool (cleanB s)) ∧ Fr (fun _ => False) w w' := by
  refine vc_cartularyref07_Clean_ok (R := fun v w' => v = .bool (cleanB s) ∧ Fr (fun _ => False) w w') ?_ (fun v w' h => ⟨by rw [h.1], h.2⟩)
  refine ⟨fun h => ⟨?_, .refl _ _⟩, fun h => ?_⟩
  · have h := of_decide_eq_true h
    unfold cleanB
    rw [decide_eq_false (by omega)]; rfl
  have h := of_decide_eq_false h
  have noP : printB s = false → Value.bool false = .bool (cleanB s) := fun h => by
    unfold cleanB
    rw [h, Bool.and_false]
  have bad : ∀ {k : Nat}, k < s.size → ¬ (32 ≤ byt s k ∧ byt s k ≤ 126) → printB s = false := fun hk h => decide_eq_false fun hall => h (hall _ hk)
  refine ⟨fun i w' => w' = w ∧ ∃ k : Nat, i = k ∧ k ≤ s.size ∧ ∀ j, j < k → 32 ≤ byt s j ∧ byt s j ≤ 126, fun i _ => s.size - i.toNat, ⟨rfl, 0, rfl, Nat.zero_le _, fun j hj => by omega⟩, ?_⟩
  rintro i w4 ⟨hw, k, rfl, hk, hall⟩
  replace hw := hw.symm
  subst hw
  have e1 : IntKind.i64.wrap ((k : Int) + 1) = ((k + 1 : Nat) : Int) := by rw [wrap_i64 (by omega) (by omega)]; omega
  rw [e1]
  refine ⟨fun hlt => ?_, fun hge => ?_⟩
  · have hlt := of_decide_eq_true hlt
    have hks : k < s.size := by omega
    rw [byteAt_nat]
    refine ⟨⟨by omega, by omega⟩, fun hb => ⟨noP (bad hks (by have := of_decide_eq_true hb; omega)), .refl _ _⟩, fun hb => ⟨⟨by omega, by omega⟩, fun hb' => ⟨noP (bad hks (by have := of_decide_eq_true hb'; omega)), .refl _ _⟩, fun hb' => ⟨⟨rfl, k + 1, rfl, by omega, fun j hj => ?_⟩, by dsimp only; omega⟩⟩⟩
    have hb := of_decide_eq_false hb
    have hb' := of_decide_eq_false hb'
    by_cases hjk : j = k
    · subst hjk; omega
    · exact hall j (by omega)
  · have hge := of_decide_eq_false hge
    have hp : printB s = true := decide_eq_true fun j hj => hall j (by omega)
    refine (rparts_spec s (by omega) w).mono ?_
    rintro e w6 ⟨l, rfl, ho, hf⟩
    rw [← partsF_L s.size s (Nat.le_refl _)] at ho
    have hcb : cleanB s = (partsF s.size s).all partOK := by
      unfold cleanB
      rw [hp, decide_eq_true (by omega), Bool.and_true, Bool.true_and]
    have hps : (partsF s.size s).length ≤ 1000000000 := by
      rw [partsF_L s.size s (Nat.le_refl _)]
      have := partsL_len s.data.toList
      rw [bs_len] at this
      simp only [bsm, List.length_map]; omega
    generalize partsF s.size s = ps at ho hcb hps
    have hlen : l.len = ps.length := by rw [ho.len]; simp [strV]
    refine ⟨l, rfl, fun i w' => w' = w6 ∧ ∃ k : Nat, i = k ∧ k ≤ ps.length ∧ ∀ x ∈ ps.take k, partOK x = true, fun i _ => ps.length - i.toNat, ⟨rfl, 0, rfl, Nat.zero_le _, fun x hx => by simp at hx⟩, ?_⟩
    rintro i w11 ⟨hw, k, rfl, hk, hall⟩
    replace hw := hw.symm
    subst hw
    have e1 : IntKind.i64.wrap ((k : Int) + 1) = ((k + 1 : Nat) : Int) := by rw [wrap_i64 (by omega) (by omega)]; omega
    rw [e1]
    refine ⟨fun hlt => ?_, fun hge => ?_⟩
    · have hlt := of_decide_eq_true hlt
      have hkl : k < ps.length := by omega
      have hx : ps[k]? = some ps[k] := List.getElem?_eq_getElem hkl
      generalize ps[k] = x at hx
      obtain ⟨a, ha, hc⟩ := ho.reads k (.string x) (by simp [strV, hx])
      have no : partOK x = false → Value.bool false = .bool (cleanB s) := fun h => by
        rw [hcb]
        have : ps.all partOK = false := by
          rw [← Bool.not_eq_true, List.all_eq_true]
          intro hall
          rw [hall x (List.mem_of_getElem? hx)] at h; cases h
        rw [this]
      refine ⟨⟨by omega, by omega⟩, a, ha, x, by rw [Int.toNat_natCast, Nat.mul_one]; exact hc, fun h => ⟨no ?_, hf⟩, fun h1 => ⟨fun h => ⟨no ?_, hf⟩, fun h2 => ⟨fun h => ⟨no ?_, hf⟩, fun h3 => ⟨⟨rfl, k + 1, rfl, by omega, fun y hy => ?_⟩, by dsimp only; omega⟩⟩⟩⟩
      · rw [bs_eq] at h
        rw [of_decide_eq_true h]; rfl
      · rw [bs_eq] at h
        rw [of_decide_eq_true h]; rfl
      · rw [bs_eq] at h
        rw [of_decide_eq_true h]; rfl
      · rw [List.take_add_one, hx] at hy
        rcases List.mem_append.1 hy with hy | hy
        · exact hall y hy
        · simp only [Option.toList, List.mem_cons, List.mem_nil_iff, or_false] at hy
          subst hy
          rw [bs_eq] at h1 h2 h3
          unfold partOK
          rw [decide_eq_true (of_decide_eq_false h1), decide_eq_true (of_decide_eq_false h2), decide_eq_true (of_decide_eq_false h3)]; rfl
    · have hge := of_decide_eq_false hge
      have hk' : k = ps.length := by omega
      rw [hk', List.take_of_length_le (Nat.le_refl _)] at hall
      exact ⟨by rw [hcb, List.all_eq_true.2 hall], hf⟩
/-- Does s begin with t? -/
def begB (s t : ByteArray) : Bool := decide (t.data.toList <+: s.data.toList)
theorem begB_cut {s t : ByteArray} (h : t.size ≤ s.size) : (ByteArray.toList (s.extract 0 t.size) == ByteArray.toList t) = begB s t := by
  rw [bs_eq]
  unfold begB
  refine decide_eq_decide.2 ⟨fun e => ?_, fun e => ?_⟩
  · rw [← e, bs_head]; exact List.take_prefix _ _
  · obtain ⟨r, hr⟩ := e
    refine bs_ext ?_
    rw [bs_head, ← hr, ← bs_len, List.take_left]
theorem begB_short {s t : ByteArray} (h : ¬ t.size ≤ s.size) : begB s t = false := decide_eq_false fun e => h (by rw [← bs_len, ← bs_len]; exact e.length_le)
theorem hasPrefix_spec (s t : ByteArray) (w : World) : Calls Tryz.prog F_strings_HasPrefix #[.string s, .string t] w fun e w' => e = .returned (.bool (begB s t)) ∧ w' = w := by
  refine vc_strings_HasPrefix_ok (R := fun v w' => v = .bool (begB s t) ∧ w' = w) ?_ (fun v w' h => ⟨by rw [h.1], h.2⟩)
  refine Calls.mono (R := fun e w' => e = .returned (.bool (begB s t)) ∧ w' = w) (vc_stringslite_HasPrefix_ok (R := fun v w' => v = .bool (begB s t) ∧ w' = w) ?_ (fun v w' h => ⟨by rw [h.1], h.2⟩)) ?_
  · refine ⟨fun h => ⟨⟨by omega, by have := of_decide_eq_true h; omega⟩, ?_, rfl⟩, fun h => ⟨?_, rfl⟩⟩
    · have h := of_decide_eq_true h
      rw [Int.toNat_natCast, begB_cut (by omega)]
    · rw [begB_short (by have := of_decide_eq_false h; omega)]
  · rintro e w2 ⟨rfl, rfl⟩
    exact ⟨_, rfl, rfl, rfl⟩
theorem begins_spec (s t : ByteArray) (w : World) : Calls Tryz.prog F_cartularyref07_Begins #[.string s, .string t] w fun e w' => e = .returned (.bool (begB s t)) ∧ w' = w := by
  refine vc_cartularyref07_Begins_ok (R := fun v w' => v = .bool (begB s t) ∧ w' = w) ?_ (fun v w' h => ⟨by rw [h.1], h.2⟩)
  refine ⟨fun h => ⟨⟨by omega, by have := of_decide_eq_true h; omega⟩, ?_, rfl⟩, fun h => ⟨?_, rfl⟩⟩
  · have h := of_decide_eq_true h
    rw [Int.toNat_natCast, begB_cut (by omega)]
  · rw [begB_short (by have := of_decide_eq_false h; omega)]
end Go.Proofs.YtmhlmdnhpfhoeaaGreatDoor

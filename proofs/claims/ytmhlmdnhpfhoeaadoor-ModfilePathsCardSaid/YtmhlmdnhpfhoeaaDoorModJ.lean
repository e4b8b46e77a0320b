/- The reference's module paths and file paths. Conditions: as named. -/
import Derived.Test.YtmhlmdnhpfhoeaaDoorModG
import Derived.Test.YtmhlmdnhpfhoeaaDoorSnapS
set_option linter.unusedVariables false
namespace Go.Proofs.YtmhlmdnhpfhoeaaDoor
open Go Vc Go.Proofs

structure RPI (w : World) (p : ByteArray) (f : Bool) (dot : Bool) (z : Int) (w' : World) : Prop where
  same : w' = w
  ex : ∃ j : Nat, z = j ∧ j ≤ p.size ∧ (p.data.toList.take j).all (okC f) = true ∧ dot = (p.data.toList.take j).contains 46
structure RPN (w : World) (c : Nat) (w' : World) : Prop where
  same : w' = w
  no : ¬ (97 ≤ c ∧ c ≤ 122 ∨ 48 ≤ c ∧ c ≤ 57 ∨ c = 45 ∨ c = 46)
theorem rpath_spec (s : ByteArray) (w : World) : Calls Tryd.prog F_cartularyref22_Path #[.string s] w fun e w' => e = .returned (.bool (pathB s)) ∧ Fr (fun _ => False) w w' := by
  refine vc_cartularyref22_Path_ok (R := fun v w' => v = .bool (pathB s) ∧ Fr (fun _ => False) w w') ?_ (fun v w' h => ⟨by rw [h.1], h.2⟩)
  refine ⟨fun hbig => ⟨?_, .refl _ _⟩, fun hsm => ?_⟩
  · have := of_decide_eq_true hbig
    unfold pathB
    rw [decide_eq_false (by omega)]; rfl
  have hsm := of_decide_eq_false hsm
  have hP : pathB s = pathParts true (partsL s.data.toList) := by
    unfold pathB
    rw [decide_eq_true (by omega)]; rfl
  rw [hP]
  refine (rparts_spec s (by omega) w).mono ?_
  rintro e w2 ⟨l, rfl, ho, hf2⟩
  have hpl := partsL_len s.data.toList
  have hpz := partsL_size s.data.toList
  rw [bs_len] at hpl hpz
  generalize partsL s.data.toList = parts at ho hpl hpz
  have hlen : l.len = parts.length := by rw [ho.len, strV, List.length_map, bsm, List.length_map]
  refine ⟨l, rfl, fun z w' => ∃ k : Nat, z = k ∧ k ≤ parts.length ∧ w' = w2 ∧ pathParts true parts = pathParts (decide (k = 0)) (parts.drop k), fun z _ => parts.length - z.toNat, ⟨0, rfl, Nat.zero_le _, rfl, rfl⟩, ?_⟩
  rintro z w7 ⟨k, rfl, hk, hw, hB⟩
  subst hw
  refine ⟨fun hlt => ?_, fun hge => ?_⟩
  rotate_left
  · have hge := of_decide_eq_false hge
    rw [hB, List.drop_eq_nil_of_le (by omega)]
    refine ⟨?_, hf2⟩
    cases decide (k = 0) <;> rfl
  have hlt := of_decide_eq_true hlt
  have hkl : k < parts.length := by omega
  rw [List.drop_eq_getElem_cons hkl, pathParts] at hB
  have hsz := hpz _ (List.getElem_mem hkl)
  have hat : (strV (bsm parts))[k]? = some (.string ⟨parts[k].toArray⟩) := by
    rw [strV, bsm, List.getElem?_map, List.getElem?_map, List.getElem?_eq_getElem hkl]; rfl
  generalize parts[k] = q at hB hat hsz
  have hps : (⟨q.toArray⟩ : ByteArray).size ≤ 200 := by rw [bs_mksize]; omega
  generalize (⟨q.toArray⟩ : ByteArray) = p at hB hat hps
  obtain ⟨ad, had, hc⟩ := ho.reads _ _ hat
  have e1 : IntKind.i64.wrap ((k : Int) + 1) = ((k + 1 : Nat) : Int) := by rw [wrap_i64 (by omega) (by omega)]; omega
  rw [e1]
  refine ⟨⟨by omega, by omega⟩, ad, had, p, by rw [Int.toNat_natCast, Nat.mul_one]; exact hc, fun he => ?_, fun he => ?_⟩
  · rw [bs_eq] at he
    have := of_decide_eq_true he
    refine ⟨?_, hf2⟩
    rw [hB, partPB, this]; rfl
  rw [bs_eq] at he
  have hne : p.size ≠ 0 := fun e => of_decide_eq_false he (bs_empty.2 e)
  have e2 : IntKind.i64.wrap ((p.size : Int) - 1) = ((p.size - 1 : Nat) : Int) := by rw [wrap_i64 (by omega) (by omega)]; omega
  rw [e2, show (0 : Int) = ((0 : Nat) : Int) from rfl, byteAt_nat, byteAt_nat]
  have hno : partPB (decide (k = 0)) p = false → (Value.bool false = .bool (pathParts true parts) ∧ Fr (fun _ => False) w w7) := fun h => ⟨by rw [hB, h]; rfl, hf2⟩
  refine ⟨⟨by omega, by omega⟩, fun h0 => hno ?_, fun h0 => ⟨⟨by omega, by omega⟩, fun h1 => hno ?_, fun h1 => ?_⟩⟩
  · have h0 : byt p 0 = 46 := by have := eq_of_beq h0; omega
    unfold partPB; rw [h0]; simp
  · have h1 : byt p (p.size - 1) = 46 := by have := eq_of_beq h1; omega
    unfold partPB; rw [h1]; simp
  have h0 : byt p 0 ≠ 46 := fun e => by rw [e] at h0; simp at h0
  have h1 : byt p (p.size - 1) ≠ 46 := fun e => by rw [e] at h1; simp at h1
  have hPB : partPB (decide (k = 0)) p = (p.data.toList.all (okC (decide (k = 0))) && (!decide (k = 0) || (decide (byt p 0 ≠ 45) && p.data.toList.contains 46))) := by
    unfold partPB; rw [decide_eq_true hne, decide_eq_true h0, decide_eq_true h1]; rfl
  refine ⟨RPI w7 p (decide (k = 0)), fun _ z _ => p.size - z.toNat, ⟨rfl, 0, rfl, Nat.zero_le _, by simp, by simp⟩, ?_⟩
  rintro dot z w14 ⟨hw, j, rfl, hj, hall, hdot⟩
  subst hw
  have e3 : IntKind.i64.wrap ((j : Int) + 1) = ((j + 1 : Nat) : Int) := by rw [wrap_i64 (by omega) (by omega)]; omega
  rw [e3, byteAt_nat]
  refine ⟨fun hlt2 => ?_, fun hge2 => ?_⟩
  · have hlt2 := of_decide_eq_true hlt2
    have hjl : j < p.size := by omega
    have hcl := byt_lt p j
    have hbget := bs_get hjl
    have hstop : okC (decide (k = 0)) (UInt8.ofNat (byt p j)) = false → partPB (decide (k = 0)) p = false := fun h => by
      rw [hPB, Bool.and_eq_false_iff]
      refine .inl ?_
      rw [List.all_eq_false]
      exact ⟨_, List.mem_of_getElem? hbget, by rw [h]; decide⟩
    have hgo : okC (decide (k = 0)) (UInt8.ofNat (byt p j)) = true → (p.data.toList.take (j + 1)).all (okC (decide (k = 0))) = true := fun h => by
      rw [bs_take hjl, List.all_append, hall, List.all_cons, h]; rfl
    have hdt : (p.data.toList.take (j + 1)).contains 46 = (dot || decide (byt p j = 46)) := by
      rw [bs_take hjl, hdot, Bool.eq_iff_iff]
      simp only [List.contains_iff_mem, List.mem_append, List.mem_singleton, Bool.or_eq_true, decide_eq_true_eq]
      refine or_congr Iff.rfl ⟨fun h => ?_, fun h => by rw [h]; rfl⟩
      have := congrArg UInt8.toNat h
      rw [toNat_of _ hcl] at this
      exact this.symm
    have hok := okC_at (decide (k = 0)) (byt p j) hcl
    generalize hbc : byt p j = c at *
    refine ⟨⟨by omega, by omega⟩, fun bb w' => w' = w14 ∧ bb = (dot || decide (c = 46)), ⟨fun hd => ⟨rfl, by rw [hd]; rfl⟩, fun hd => ⟨rfl, ?_⟩⟩, ?_⟩
    · rw [hd, Bool.false_or, Bool.eq_iff_iff]
      simp only [beq_iff_eq, decide_eq_true_eq]
      omega
    rintro bb w17 ⟨hw, hbb⟩
    subst hw
    rw [← hdt] at hbb
    have hI : okC (decide (k = 0)) (UInt8.ofNat c) = true → RPI w17 p (decide (k = 0)) bb ((j + 1 : Nat) : Int) w17 := fun h => ⟨rfl, j + 1, rfl, by omega, hgo h, hbb⟩
    have hI1 : (97 ≤ c ∧ c ≤ 122 ∨ 48 ≤ c ∧ c ≤ 57 ∨ c = 45 ∨ c = 46) → RPI w17 p (decide (k = 0)) bb ((j + 1 : Nat) : Int) w17 := fun h => hI (hok.2 (.inl h))
    refine ⟨RPN w17 c, ?_, ?_⟩
    · repeat' (first | apply And.intro | intro _)
      all_goals first
        | (refine hI1 ?_
           simp only [decide_eq_true_eq, decide_eq_false_iff_not, beq_iff_eq, beq_eq_false_iff_ne, ne_eq] at *
           omega)
        | (refine RPN.mk rfl ?_
           simp only [decide_eq_true_eq, decide_eq_false_iff_not, beq_iff_eq, beq_eq_false_iff_ne, ne_eq] at *
           omega)
        | (dsimp only; omega)
    rintro w19 ⟨hw, hns⟩
    subst hw
    have hyes : okC (decide (k = 0)) (UInt8.ofNat c) = true → RPI w19 p (decide (k = 0)) bb ((j + 1 : Nat) : Int) w19 ∧ p.size - (((j + 1 : Nat) : Int)).toNat < p.size - ((j : Nat) : Int).toNat := fun h => ⟨hI h, by omega⟩
    refine ⟨fun hk0 => hno (hstop ?_), fun hk0 => ?_⟩
    · have hk0 : k = 0 := by have := eq_of_beq hk0; omega
      rw [Bool.eq_false_iff]
      intro h
      rcases hok.1 h with h | ⟨h, _⟩
      · exact hns h
      · rw [decide_eq_true hk0] at h; cases h
    have hk0 : k ≠ 0 := fun e => by rw [e] at hk0; simp at hk0
    have hfy : (65 ≤ c ∧ c ≤ 90 ∨ c = 95 ∨ c = 126) → okC (decide (k = 0)) (UInt8.ofNat c) = true := fun h => hok.2 (.inr ⟨decide_eq_false hk0, h⟩)
    have hfn : ¬ (65 ≤ c ∧ c ≤ 90 ∨ c = 95 ∨ c = 126) → okC (decide (k = 0)) (UInt8.ofNat c) = false := fun h => by
      rw [Bool.eq_false_iff]
      intro h'
      rcases hok.1 h' with h' | ⟨_, h'⟩
      · exact hns h'
      · exact h h'
    refine ⟨fun h65 => ⟨fun h90 => hyes (hfy ?_), fun h90 => ⟨fun h95 => hyes (hfy ?_), fun h95 => ⟨fun h126 => hno (hstop (hfn ?_)), fun h126 => hyes (hfy ?_)⟩⟩⟩, fun h65 => ⟨fun h95 => hyes (hfy ?_), fun h95 => ⟨fun h126 => hno (hstop (hfn ?_)), fun h126 => hyes (hfy ?_)⟩⟩⟩
    all_goals
      simp only [decide_eq_true_eq, decide_eq_false_iff_not, beq_iff_eq, beq_eq_false_iff_ne, ne_eq, Bool.not_eq_true', Bool.not_eq_false'] at *
      omega
  · have hge2 := of_decide_eq_false hge2
    have hje : j = p.size := by omega
    rw [hje, bs_all] at hall hdot
    rw [hall, Bool.true_and, ← hdot] at hPB
    refine ⟨fun hk0 => ?_, fun hk0 => ?_⟩
    · have hk0 : k = 0 := by have := eq_of_beq hk0; omega
      rw [decide_eq_true hk0] at hPB
      refine ⟨fun hn => hno ?_, fun hn => ⟨⟨by omega, by omega⟩, fun h45 => hno ?_, fun h45 => ?_⟩⟩
      · have hn : dot = false := by simpa using hn
        rw [decide_eq_true hk0, hPB, hn]; simp
      · have h45 : byt p 0 = 45 := by have := eq_of_beq h45; omega
        rw [decide_eq_true hk0, hPB, h45]; simp
      · have h45 : byt p 0 ≠ 45 := fun e => by rw [e] at h45; simp at h45
        have hn : dot = true := by simpa using hn
        rw [hn, decide_eq_true h45] at hPB
        refine ⟨⟨k + 1, rfl, hkl, rfl, ?_⟩, by dsimp only; omega⟩
        rw [hB, decide_eq_true hk0, hPB, decide_eq_false (Nat.succ_ne_zero k)]; rfl
    · have hk0 : k ≠ 0 := fun e => by rw [e] at hk0; simp at hk0
      rw [decide_eq_false hk0] at hPB
      refine ⟨⟨k + 1, rfl, hkl, rfl, ?_⟩, by dsimp only; omega⟩
      rw [hB, decide_eq_false hk0, hPB, decide_eq_false (Nat.succ_ne_zero k)]; rfl
/-- The reference's 'Ends'. -/
def endsB (s t : ByteArray) : Bool := decide (t.size ≤ s.size) && decide (s.extract (s.size - t.size) s.size = t)
theorem ends_spec (s t : ByteArray) (hs : s.size ≤ 140737488355328) (w : World) : Calls Tryd.prog F_cartularyref16_Ends #[.string s, .string t] w fun e w' => e = .returned (.bool (endsB s t)) ∧ w' = w := by
  refine vc_cartularyref16_Ends_ok (R := fun v w' => v = .bool (endsB s t) ∧ w' = w) ?_ (fun v w' h => ⟨by rw [h.1], h.2⟩)
  refine ⟨fun h => ?_, fun h => ⟨?_, rfl⟩⟩
  · have h := of_decide_eq_true h
    have e1 : IntKind.i64.wrap ((s.size : Int) - (t.size : Int)) = ((s.size - t.size : Nat) : Int) := by rw [wrap_i64 (by omega) (by omega)]; omega
    rw [e1]
    refine ⟨⟨by omega, by omega⟩, ?_, rfl⟩
    rw [Int.toNat_natCast, bs_eq]
    unfold endsB
    rw [decide_eq_true (by omega : t.size ≤ s.size), Bool.true_and]
  · have h := of_decide_eq_false h
    unfold endsB
    rw [decide_eq_false (by omega : ¬ t.size ≤ s.size)]; rfl
theorem ends_dot (p : List UInt8) : endsB ⟨p.toArray⟩ ⟨#[46]⟩ = decide (byt ⟨p.toArray⟩ (p.length - 1) = 46) := by
  have h1 : (⟨#[46]⟩ : ByteArray).size = 1 := rfl
  unfold endsB
  rw [h1, bs_mksize]
  by_cases hp : 1 ≤ p.length
  · rw [decide_eq_true hp, Bool.true_and]
    refine decide_eq_decide.2 ⟨fun h => ?_, fun h => ?_⟩
    · have : byt ((⟨p.toArray⟩ : ByteArray).extract (p.length - 1) p.length) 0 = byt ⟨#[46]⟩ 0 := by rw [h]
      rw [byt_extract (by rw [bs_mksize]; exact Nat.le_refl _) (by omega), Nat.add_zero] at this
      rw [this]; rfl
    · refine bs_ext_byt (by rw [ByteArray.size_extract, bs_mksize, h1]; omega) fun i hi => ?_
      rw [ByteArray.size_extract, bs_mksize] at hi
      rw [byt_extract (by rw [bs_mksize]; exact Nat.le_refl _) (by omega), show p.length - 1 + i = p.length - 1 by omega, h, show i = 0 by omega]; rfl
  · have : p = [] := List.length_eq_zero_iff.1 (by omega)
    subst this
    decide
theorem bad_at (n : Nat) (hn : n < 256) : badL.contains (UInt8.ofNat n) = (decide (0 ≤ Lib.indexByte [34, 39, 42, 60, 62, 63, 124, 92, 58, 59] (UInt8.ofNat n)) || decide (n = 96)) := by
  have key : ∀ n : Fin 256, badL.contains (UInt8.ofNat n) = (decide (0 ≤ Lib.indexByte [34, 39, 42, 60, 62, 63, 124, 92, 58, 59] (UInt8.ofNat n)) || decide (n.val = 96)) := by
    decide +kernel
  exact key ⟨n, hn⟩
theorem rfile_spec (s : ByteArray) (hs : s.size ≤ 140737488355328) (w : World) : Calls Tryd.prog F_cartularyref22_FilePath #[.string s] w fun e w' => e = .returned (.bool (fileB s)) ∧ Fr (fun _ => False) w w' := by
  refine vc_cartularyref22_FilePath_ok (R := fun v w' => v = .bool (fileB s) ∧ Fr (fun _ => False) w w') ?_ (fun v w' h => ⟨by rw [h.1], h.2⟩)
  refine (rclean_spec s hs w).mono ?_
  rintro e w2 ⟨rfl, hf2⟩
  refine ⟨_, rfl, fun hn => ⟨?_, hf2⟩, fun hy => ?_⟩
  · have hn : cleanB s = false := by simpa using hn
    unfold fileB; rw [hn]; rfl
  have hy : cleanB s = true := by simpa using hy
  have hsz : s.size ≤ 200 := by
    unfold cleanB at hy
    simp only [Bool.and_eq_true] at hy
    exact of_decide_eq_true hy.1.1
  have hF : fileB s = (!(s.data.toList.any fun c => badL.contains c) && (partsL s.data.toList).all fun p => decide (byt ⟨p.toArray⟩ (p.length - 1) ≠ 46)) := by unfold fileB; rw [hy]; rfl
  rw [hF]
  refine ⟨fun z w' => w' = w2 ∧ ∃ k : Nat, z = k ∧ k ≤ s.size ∧ ((s.data.toList.take k).any fun c => badL.contains c) = false, fun z _ => s.size - z.toNat, ⟨rfl, 0, rfl, Nat.zero_le _, by simp⟩, ?_⟩
  rintro z w7 ⟨hw, k, rfl, hk, hnb⟩
  subst hw
  have e1 : IntKind.i64.wrap ((k : Int) + 1) = ((k + 1 : Nat) : Int) := by rw [wrap_i64 (by omega) (by omega)]; omega
  rw [e1, byteAt_nat]
  refine ⟨fun hlt => ?_, fun hge => ?_⟩
  · have hlt := of_decide_eq_true hlt
    have hkl : k < s.size := by omega
    have hb := bad_at (byt s k) (byt_lt s k)
    have hany : badL.contains (UInt8.ofNat (byt s k)) = true → (s.data.toList.any fun c => badL.contains c) = true := fun h => List.any_eq_true.2 ⟨_, List.mem_of_getElem? (bs_get hkl), h⟩
    refine ⟨⟨by omega, by omega⟩, (find_spec _ (by decide) (byt s k) (byt_lt s k) w7).mono ?_⟩
    rintro e w9 ⟨rfl, hw⟩
    subst hw
    rw [show (⟨#[34, 39, 42, 60, 62, 63, 124, 92, 58, 59]⟩ : ByteArray).data.toList = [34, 39, 42, 60, 62, 63, 124, 92, 58, 59] from rfl]
    refine ⟨_, rfl, fun h => ⟨?_, hf2⟩, fun h => ⟨⟨by omega, by omega⟩, fun h96 => ⟨?_, hf2⟩, fun h96 => ⟨⟨rfl, k + 1, rfl, hkl, ?_⟩, by dsimp only; omega⟩⟩⟩
    · have h := of_decide_eq_true h
      rw [hany (by rw [hb, decide_eq_true h]; rfl)]; rfl
    · have h96 : byt s k = 96 := by have := eq_of_beq h96; omega
      rw [hany (by rw [hb, decide_eq_true h96, Bool.or_true])]; rfl
    · have h := of_decide_eq_false h
      have h96 : byt s k ≠ 96 := fun e => by rw [e] at h96; simp at h96
      rw [bs_take hkl, List.any_append, hnb, List.any_cons, hb, decide_eq_false h, decide_eq_false h96]; rfl
  have hge := of_decide_eq_false hge
  have hke : k = s.size := by omega
  rw [hke, bs_all] at hnb
  rw [hnb, Bool.not_false, Bool.true_and]
  refine (rparts_spec s (by omega) w7).mono ?_
  rintro e w12 ⟨l, rfl, ho, hf12⟩
  have hpl := partsL_len s.data.toList
  have hpz := partsL_size s.data.toList
  rw [bs_len] at hpl hpz
  generalize partsL s.data.toList = parts at ho hpl hpz
  have hlen : l.len = parts.length := by rw [ho.len, strV, List.length_map, bsm, List.length_map]
  refine ⟨l, rfl, fun z w' => w' = w12 ∧ ∃ k : Nat, z = k ∧ k ≤ parts.length ∧ (parts.take k).all (fun p => decide (byt ⟨p.toArray⟩ (p.length - 1) ≠ 46)) = true, fun z _ => parts.length - z.toNat, ⟨rfl, 0, rfl, Nat.zero_le _, by simp⟩, ?_⟩
  clear e1
  rintro z w17 ⟨hw, k, rfl, hk, hall⟩
  subst hw
  have e1 : IntKind.i64.wrap ((k : Int) + 1) = ((k + 1 : Nat) : Int) := by rw [wrap_i64 (by omega) (by omega)]; omega
  rw [e1]
  refine ⟨fun hlt => ?_, fun hge => ⟨?_, hf2.trans' hf12⟩⟩
  rotate_left
  · have hge := of_decide_eq_false hge
    rw [List.take_of_length_le (by omega)] at hall
    rw [hall]
  have hlt := of_decide_eq_true hlt
  have hkl : k < parts.length := by omega
  have hat : (strV (bsm parts))[k]? = some (.string ⟨parts[k].toArray⟩) := by
    rw [strV, bsm, List.getElem?_map, List.getElem?_map, List.getElem?_eq_getElem hkl]; rfl
  have hge : parts[k]? = some parts[k] := List.getElem?_eq_getElem hkl
  have hsz := hpz _ (List.getElem_mem hkl)
  generalize parts[k] = p at hat hge hsz
  obtain ⟨ad, had, hc⟩ := ho.reads _ _ hat
  refine ⟨⟨by omega, by omega⟩, ad, had, _, by rw [Int.toNat_natCast, Nat.mul_one]; exact hc, (ends_spec _ _ (by rw [bs_mksize]; omega) w17).mono ?_⟩
  rintro e w21 ⟨rfl, hw⟩
  subst hw
  rw [ends_dot]
  refine ⟨_, rfl, fun h => ⟨?_, hf2.trans' hf12⟩, fun h => ⟨⟨rfl, k + 1, rfl, hkl, ?_⟩, by dsimp only; omega⟩⟩
  · have h := of_decide_eq_true h
    congr 1
    symm
    rw [List.all_eq_false]
    exact ⟨p, List.mem_of_getElem? hge, by simpa using h⟩
  · have h := of_decide_eq_false h
    rw [List.take_add_one, hge, List.all_append, hall, Option.toList_some, List.all_cons, decide_eq_true h]; rfl
end Go.Proofs.YtmhlmdnhpfhoeaaDoor

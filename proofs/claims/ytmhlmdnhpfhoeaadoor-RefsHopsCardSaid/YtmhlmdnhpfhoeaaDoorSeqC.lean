/- strings.ContainsFunc at what snap.Clean asks of letters; SplitSeq's value. Conditions: as named. -/
import Derived.Test.YtmhlmdnhpfhoeaaDoorSeqB
import Derived.Test.YtmhlmdnhpfhoeaaDoorSnap0
set_option linter.unusedVariables false
namespace Go.Proofs.YtmhlmdnhpfhoeaaDoor
open Go Vc Go.Proofs Go.RowKit Go.Shelf

/-- Every byte is a letter that is printed. -/
def printB (s : ByteArray) : Bool := decide (∀ k, k < s.size → 32 ≤ byt s k ∧ byt s k ≤ 126)
theorem clean1_spec (c : Int) (w : World) : Calls Tryd.prog F_snap_Clean_1 #[.int .i32 c] w fun e w' => e = .returned (.bool (decide (c < 32) || decide (c > 126))) ∧ w' = w := by
  refine vc_snap_Clean_1_ok (R := fun v w' => v = .bool (decide (c < 32) || decide (c > 126)) ∧ w' = w) ?_ (fun v w' h => ⟨by rw [h.1], h.2⟩)
  exact ⟨fun h => ⟨by rw [h]; rfl, rfl⟩, fun h => ⟨by rw [h]; rfl, rfl⟩⟩
theorem indexFunc_spec (s : ByteArray) (w : World) : Calls Tryd.prog F_strings_indexFunc #[.string s, .func (.func F_snap_Clean_1) #[] #[], .bool true] w fun e w' =>
    ∃ n : Int, e = .returned (.int .i64 n) ∧ decide (n ≥ 0) = !printB s ∧ Fr (fun _ => False) w w' := by
  refine vc_strings_indexFunc_clean_ok (R := fun v w' => ∃ n : Int, v = .int .i64 n ∧ decide (n ≥ 0) = !printB s ∧ Fr (fun _ => False) w w') ?_ (fun v w' ⟨n, h⟩ => ⟨n, by rw [h.1], h.2⟩)
  obtain ⟨w7, hr7, hi7, hf7⟩ := iter_new (P := Tryd.prog) (w := w) (t := 9) (s := s) (by kernel_rfl)
  refine ⟨w7, _, hr7, fun w' => ∃ p, IsIter w' w.heap.size s p ∧ p ≤ s.size ∧ Fr (fun _ => False) w w' ∧ ∀ k, k < p → 32 ≤ byt s k ∧ byt s k ≤ 126, itLeft w.heap.size, ⟨0, hi7, Nat.zero_le _, hf7, fun k hk => by omega⟩, ?_⟩
  rintro w11 ⟨p, hi, hp, hf, hn⟩
  by_cases hps : p < s.size
  · refine .inr ?_
    obtain ⟨w13, hr13, hi13, hf13⟩ := iter_next (P := Tryd.prog) hi hps 0
    have hfn : Fr (fun _ => False) w w13 := hf.trans hf13 fun k hk e => by omega
    refine ⟨w13, _, _, hr13, fun _ => (clean1_spec _ w13).mono ?_, fun h => (by cases h)⟩
    rintro e w15 ⟨rfl, hw⟩
    replace hw := hw.symm
    subst hw
    have bad : ∀ {k : Nat}, k < s.size → ¬ (32 ≤ byt s k ∧ byt s k ≤ 126) → printB s = false := fun hk h => by
      unfold printB
      exact decide_eq_false fun hall => h (hall _ hk)
    refine ⟨_, rfl, fun h => ⟨p, rfl, ?_, hfn⟩, fun h => ?_⟩
    · have hb : printB s = false := by
        refine bad hps fun hh => ?_
        rw [dec_low hps (by omega)] at h
        simp only [beq_iff_eq, Bool.or_eq_true, decide_eq_true_eq] at h
        omega
      rw [hb]
      exact decide_eq_true (by omega)
    · by_cases hb : byt s p < 128
      · rw [dec_low hps hb] at h hi13
        simp only [beq_eq_false_iff_ne, ne_eq, Bool.not_eq_true, Bool.or_eq_false_iff, decide_eq_false_iff_not] at h
        refine ⟨⟨p + 1, hi13, by omega, hfn, fun k hk => ?_⟩, by rw [hi13.left, hi.left]; omega⟩
        by_cases hkp : k = p
        · subst hkp; omega
        · exact hn k (by omega)
      · obtain ⟨d1, d2, d3, d4, d5⟩ := dec_high hps (by omega)
        exfalso
        have : decide (((Utf8.decode s p).1 : Int) > 126) = true := decide_eq_true (by omega)
        rw [this] at h
        simp at h
  · refine .inl ⟨w11, iter_end hi (by omega) 0, fun h => (by cases h), fun _ => ⟨-1, rfl, ?_, hf⟩⟩
    have : printB s = true := decide_eq_true fun k hk => hn k (by omega)
    rw [this]; rfl
theorem containsFunc_spec (s : ByteArray) (w : World) : Calls Tryd.prog F_strings_ContainsFunc #[.string s, .func (.func F_snap_Clean_1) #[] #[]] w fun e w' =>
    e = .returned (.bool (!printB s)) ∧ Fr (fun _ => False) w w' := by
  refine vc_strings_ContainsFunc_clean_ok (R := fun v w' => v = .bool (!printB s) ∧ Fr (fun _ => False) w w') ?_ (fun v w' h => ⟨by rw [h.1], h.2⟩)
  refine Calls.mono (R := fun e w' => ∃ n : Int, e = .returned (.int .i64 n) ∧ decide (n ≥ 0) = !printB s ∧ Fr (fun _ => False) w w') (vc_strings_IndexFunc_clean_ok (R := fun v w' => ∃ n : Int, v = .int .i64 n ∧ decide (n ≥ 0) = !printB s ∧ Fr (fun _ => False) w w') ?_ (fun v w' ⟨n, h⟩ => ⟨n, by rw [h.1], h.2⟩)) ?_
  · refine (indexFunc_spec s w).mono ?_
    rintro e w2 ⟨n, rfl, h⟩
    exact ⟨n, rfl, n, rfl, h⟩
  · rintro e w2 ⟨n, rfl, h, hf⟩
    exact ⟨n, rfl, by rw [h], hf⟩
/-- What SplitSeq hands back, and what it lays. -/
theorem splitSeq_spec (s : ByteArray) (w : World) : Calls Tryd.prog 33 #[.string s, .string ⟨#[47]⟩] w fun e w' =>
    e = .returned (.func (.func 82) #[] #[.pointer (some ⟨w.heap.size + 1, 0, none⟩), .pointer (some ⟨w.heap.size, 0, none⟩), .pointer (some ⟨w.heap.size + 2, 0, none⟩)]) ∧
    w' = ((w.alloc (.cells #[.string s] 9)).alloc (.cells #[.string ⟨#[47]⟩] 9)).alloc (.cells #[.int .i64 0] 3) := by
  have inner : Calls Tryd.prog 61 #[.string s, .string ⟨#[47]⟩, .int .i64 0] w fun e w' =>
    e = .returned (.func (.func 82) #[] #[.pointer (some ⟨w.heap.size + 1, 0, none⟩), .pointer (some ⟨w.heap.size, 0, none⟩), .pointer (some ⟨w.heap.size + 2, 0, none⟩)]) ∧
    w' = ((w.alloc (.cells #[.string s] 9)).alloc (.cells #[.string ⟨#[47]⟩] 9)).alloc (.cells #[.int .i64 0] 3) := by
    go_enter Tryd.func61, Tryd.ntmps61
    go_wp2
    go_ret
    exact ⟨by simp, rfl⟩
  go_enter Tryd.func33, Tryd.ntmps33
  go_wp2_with (refine inner.mono ?_; rintro e w' ⟨rfl, rfl⟩)
  go_ret
  exact ⟨rfl, rfl⟩
end Go.Proofs.YtmhlmdnhpfhoeaaDoor

/- The law 'any row of calls takes just the bits that stand there' walked: it returns true and writes nothing that was there. Conditions: the text, the number and the list are as Go's values are. -/
import Derived.Test.YtcboiljbkkleiaaRd2
import Derived.Test.YtcboiljbkkleiaaR3b
import Derived.Test.YtcboiljbkkleiaaWPeeks
import Derived.Test.YtcboiljbkkleiaaLaw3R
set_option linter.unusedVariables false
namespace Go.Proofs.Ytcboiljbkkleiaa
open Go Vc BitsM Go.Proofs

/-- The cells of one call. -/
def IsOp (vs : List Value) : Prop := ∃ k n x t, vs = [.int .i64 k, .int .i64 n, .int .u32 x, .string t] ∧ (Lit.int .i64 k).wf = true ∧ (Lit.int .i64 n).wf = true ∧ (Lit.int .u32 x).wf = true ∧ t.size ≤ maxLen

theorem sbits_ext (s : ByteArray) (A : Nat) : sbits (s.extract A s.size).data.toList = (sbits s.data.toList).drop (8 * A) := by
  rw [← sbits_drop, ByteArray.data_extract]
  congr 1
  rw [Array.toList_extract, List.extract_eq_take_drop, List.take_of_length_le]
  simp

theorem clampI (z : Int) (m : Nat) : (if (if (m : Int) < z then (m : Int) else z) > 0 then if (m : Int) < z then (m : Int) else z else 0) = ((min z.toNat m : Nat) : Int) := by
  split <;> split at * <;> omega

theorem reads_walk (a0 : ByteArray) (a1 : Int) (a2 : Option Addr) (len2 cap2 : Nat) (W : World) (h2 : IsRows 4 IsOp W a2 len2) :
    Calls Try.prog F_cartularylaw03_BitinReads #[.string a0, .int .i64 a1, .slice a2 len2 cap2] W fun e w' => e = .returned (.bool true) ∧ RowKit.Below W.heap.size W w' := by
  refine vc_cartularylaw03_BitinReads_ok (R := fun v w' => v = .bool true ∧ Fr (fun k => W.heap.size ≤ k) W w') ?_ (fun v w' h => ⟨by rw [h.1], h.2.below (Nat.le_refl _)⟩)
  refine (few_spec a0 200 W).mono ?_
  rintro e w2 ⟨rfl, rfl⟩
  have hs : (if a0.size > 200 then a0.extract 0 200 else a0).size ≤ 200 := by
    split
    · rw [ByteArray.size_extract]; omega
    · omega
  generalize (if a0.size > 200 then a0.extract 0 200 else a0) = s at hs ⊢
  refine ⟨_, rfl, ?_⟩
  refine (rnew_spec (s := s) (by omega) a1 w2).mono ?_
  rintro e w5 ⟨rfl, h5, f5⟩
  have hA : min a1.toNat s.size ≤ s.size := by omega
  rw [clampI]
  generalize min a1.toNat s.size = A at hA h5 ⊢
  generalize hB : w2.heap.size = B at h5 ⊢
  refine ⟨_, rfl, fun h => by simp at h, fun _ => ⟨⟨by omega, by omega⟩, ?_⟩⟩
  simp only [Int.toNat_natCast]
  have hes : (s.extract A s.size).size = s.size - A := by rw [ByteArray.size_extract]; omega
  refine (bits_spec (s.extract A s.size) (by omega) w5).mono ?_
  rintro e w8 ⟨l, rfl, ho8, f8⟩
  have hlen : (sbits (s.extract A s.size).data.toList).length = 8 * (s.size - A) := by rw [sbits_length, ← hes]; rfl
  have hsb := sbits_ext s A
  generalize hbs : sbits (s.extract A s.size).data.toList = bs at ho8 hlen hsb ⊢
  have hb5 := h5.lt
  have hol : l.len = 8 * (s.size - A) := by rw [ho8.len, List.length_map, hlen]
  have hcap := ho8.cap
  -- what holds at every call
  let Inv : Nat → World → Prop := fun k w => k ≤ bs.length ∧ Rd w B s (8 * A + k) A ∧ Own w (B + 1) T_bool l (bl bs) ∧ Fr (fun b => B ≤ b) w2 w
  have keepI : ∀ {k k' w w'}, Inv k w → Fr (· = B) w w' → k' ≤ bs.length → Rd w' B s (8 * A + k') A → Inv k' w' := by
    intro k k' w w' hi hf hk hr
    exact ⟨hk, hr, hi.2.2.1.keep hf (fun x hx => by have := (hi.2.2.1.blk hx).1; omega), hi.2.2.2.trans hf (by intros; omega)⟩
  have keepN : ∀ {k w w'}, Inv k w → Fr (fun _ => False) w w' → Inv k w' := by
    intro k w w' hi hf
    exact ⟨hi.1, hi.2.1.keep hf (by simp), hi.2.2.1.keep hf (by simp), hi.2.2.2.trans hf (by simp)⟩
  have hleft : ∀ k, k ≤ bs.length → left s (8 * A + k) = bs.length - k := by intro k hk; unfold left; omega
  have hnum : ∀ k m, m ≤ 32 → num ((bs.drop k).take m) % 4294967296 = nbits s (8 * A + k) m := by
    intro k m hm
    rw [nbits_list, hsb, List.drop_drop]
    have := num_lt (((sbits s.data.toList).drop (8 * A + k)).take m)
    have h2 : 2 ^ (((sbits s.data.toList).drop (8 * A + k)).take m).length ≤ 2 ^ 32 := Nat.pow_le_pow_right (by decide) (by rw [List.length_take]; omega)
    rw [Nat.mod_eq_of_lt (by omega)]
  refine ⟨l, rfl, fun n i w => 0 ≤ i ∧ ∃ k : Nat, n = (k : Int) ∧ Inv k w, fun _ i _ => ((len2 : Int) - i).toNat,
    ⟨by decide, 0, rfl, ⟨by omega, h5.keep f8 (by simp), ho8.mono (by omega), (f5.trans f8 (by simp)).mono (by simp)⟩⟩, ?_⟩
  rintro n12 n13 w14 ⟨hi0, k, rfl, hI⟩
  obtain ⟨i, rfl⟩ := Int.eq_ofNat_of_zero_le hi0
  have tailp : Calls Try.prog F_cartularylaw03_awake #[] w14 (fun e w => ∃ b, e = Ending.returned (Value.bool b) ∧ (Value.bool b = .bool true ∧ Fr (fun k => B ≤ k) w2 w)) := by
    refine (awake3_spec w14).mono ?_
    rintro e w' ⟨rfl, f'⟩
    exact ⟨_, rfl, rfl, hI.2.2.2.trans f' (by simp)⟩
  refine ⟨fun hlt => ⟨fun h100 => ?_, fun _ => tailp⟩, fun _ => tailp⟩
  have hlt := of_decide_eq_true hlt
  have h100 := of_decide_eq_true h100
  have hi : i < len2 := by omega
  obtain ⟨x, vs, hx, hvl, ⟨kd, z, u, tx, rfl, hwk, hwz, hwu, htx⟩, hcs⟩ := h2.at hi (w1 := w14) (by rw [hB]; exact hI.2.2.2)
  refine ⟨⟨by omega, hlt⟩, x, hx, kd, z, u, tx, load_agg (agg_of (by kernel_rfl)) (by kernel_rfl) (by rw [Int.toNat_natCast]; exact hcs), ?_⟩
  rintro w20 rfl
  refine ⟨_, run_storeVar_new (P := Try.prog) w14 49 _ #[.int .i64 kd, .int .i64 z, .int .u32 u, .string tx] (by kernel_rfl) rfl (by simp [Value.oneCell']), ?_⟩
  have hbo := alloc_new w14 (Obj.cells #[.int .i64 kd, .int .i64 z, .int .u32 u, .string tx] 49)
  have hI21 : Inv k (w14.alloc (Obj.cells #[.int .i64 kd, .int .i64 z, .int .u32 u, .string tx] 49)) := keepN hI (.alloc _ _ _)
  have hne : w14.heap.size ≠ B := by have := hI.2.1.lt; omega
  generalize w14.alloc (Obj.cells #[.int .i64 kd, .int .i64 z, .int .u32 u, .string tx] 49) = w21 at hbo hI21 ⊢
  generalize w14.heap.size = bo at hbo hne ⊢
  clear hcs tailp
  have hz := wf_i64 hwz
  refine ⟨fun b w => b = can z ∧ w = w21, ⟨z, by rw [cell_blk hbo]; rfl, fun h => ⟨z, by rw [cell_blk hbo]; rfl, ?_, rfl⟩, fun h => ⟨?_, rfl⟩⟩, ?_⟩
  · have h := of_decide_eq_true h
    unfold can; congr 1; exact propext ⟨fun h' => ⟨h, h'⟩, fun h' => h'.2⟩
  · have h := of_decide_eq_false h
    unfold can; exact (decide_eq_false (by omega)).symm
  rintro b25 w26 ⟨rfl, rfl⟩
  have hk := hI21.1
  have ek : IntKind.i64.wrap ((l.len : Int) - (k : Int)) = ((bs.length - k : Nat) : Int) := by rw [wrap_i64 (by omega) (by omega)]; omega
  refine ⟨fun b w => b = decide (can z = true ∧ z ≤ ((bs.length - k : Nat) : Int)) ∧ w = w26, ⟨fun h => ⟨z, by rw [cell_blk hbo]; rfl, ?_, rfl⟩, fun h => ⟨?_, rfl⟩⟩, ?_⟩
  · rw [ek]; congr 1; exact propext ⟨fun h' => ⟨h, h'⟩, fun h' => h'.2⟩
  · rw [h]; exact (decide_eq_false (by simp)).symm
  rintro b29 w30 ⟨rfl, rfl⟩
  rw [ek]
  refine ⟨fun n w => ∃ k' : Nat, n = (k' : Int) ∧ Inv k' w, ⟨kd, by rw [cell_blk hbo]; rfl, ?_, ?_⟩, ?_⟩
  · -- Peek
    intro _
    refine ⟨z, by rw [cell_blk hbo]; rfl, ?_⟩
    cases hc : can z with
    | true =>
      obtain ⟨m, rfl, hm⟩ := can_true hc
      refine (peek_spec hI21.2.1 hm).mono ?_
      rintro e w35 ⟨rfl, h35, f35⟩
      have hbo35 := f35.keep hbo hne
      have hI35 := keepI hI21 f35 hk h35
      refine ⟨_, _, rfl, fun v w => v = ((min m (bs.length - k) : Nat) : Int) ∧ w = w35, ⟨fun _ => ⟨_, by rw [cell_blk hbo35]; rfl, ?_, rfl⟩, fun h => (by cases h)⟩, ?_⟩
      · split <;> omega
      rintro v w41 ⟨rfl, rfl⟩
      rw [hleft k hk]
      refine ⟨fun h => by simp at h, fun _ => ?_⟩
      have e2 : IntKind.i64.wrap ((k : Int) + ((min m (bs.length - k) : Nat) : Int)) = ((k + min m (bs.length - k) : Nat) : Int) := by rw [wrap_i64 (by omega) (by omega)]; omega
      rw [e2]
      refine ⟨⟨by omega, by omega, by omega⟩, ?_⟩
      simp only [Int.toNat_natCast]
      have hr : Reads w41 (subA l.a l.cap k 1) (bl ((bs.drop k).take (min m (bs.length - k)))) := by
        have := (hI35.2.2.1.reads.sub (cap := l.cap) (by rw [List.length_map]; omega) k).take (min m (bs.length - k))
        rwa [← List.map_drop, ← List.map_take] at this
      refine (number_spec hr (by rw [List.length_take, List.length_drop]; omega) (by rw [List.length_take, List.length_drop]; omega)).mono ?_
      rintro e w43 ⟨rfl, rfl⟩
      refine ⟨_, rfl, fun h => ?_, fun _ => ⟨k, rfl, hI35⟩⟩
      exfalso
      rw [← hnum k m hm] at h
      have : (bs.drop k).take (min m (bs.length - k)) = (bs.drop k).take m := by
        rw [← List.length_drop, List.take_eq_take_iff]; omega
      rw [this] at h
      simp at h
    | false =>
      refine (peek_bad hc).mono ?_
      rintro e w35 ⟨rfl, rfl⟩
      refine ⟨_, _, rfl, fun v w => v = 0 ∧ w = w35, ⟨fun h => (by cases h), fun _ => ⟨rfl, rfl⟩⟩, ?_⟩
      rintro v w41 ⟨rfl, rfl⟩
      refine ⟨fun h => by simp at h, fun _ => ?_⟩
      have e2 : IntKind.i64.wrap ((k : Int) + 0) = (k : Int) := by rw [wrap_i64 (by omega) (by omega)]; omega
      rw [e2]
      refine ⟨⟨by omega, by omega, by omega⟩, ?_⟩
      refine (number_spec (l := []) (.nil _ _) (by simp) (by simp)).mono ?_
      rintro e w43 ⟨rfl, rfl⟩
      exact ⟨_, rfl, fun h => by simp [num] at h, fun _ => ⟨k, rfl, hI21⟩⟩
  intro _
  refine ⟨?_, fun _ => ⟨?_, fun _ => ⟨?_, fun _ => ⟨?_, fun _ => ⟨k, rfl, hI21⟩⟩⟩⟩⟩
  · -- Skip
    intro _
    refine ⟨z, by rw [cell_blk hbo]; rfl, ?_⟩
    cases hc : can z with
    | true =>
      obtain ⟨m, rfl, hm⟩ := can_true hc
      refine (skip_spec hI21.2.1 hm).mono ?_
      rintro e w47 ⟨rfl, h47, f47⟩
      have hbo47 := f47.keep hbo hne
      rw [hleft k hk] at h47 ⊢
      have hdec : decide (true = true ∧ (m : Int) ≤ ((bs.length - k : Nat) : Int)) = decide (m ≤ bs.length - k) := by congr 1; exact propext ⟨fun h => by omega, fun h => ⟨rfl, by omega⟩⟩
      rw [hdec]
      refine ⟨_, rfl, fun h => by simp at h, fun _ => ⟨fun h => ?_, fun h => ?_⟩⟩
      · have h := of_decide_eq_true h
        rw [if_pos h] at h47
        refine ⟨_, by rw [cell_blk hbo47]; rfl, k + m, by rw [wrap_i64 (by omega) (by omega)]; omega, keepI hI21 f47 (by omega) (by rw [← Nat.add_assoc]; exact h47)⟩
      · have h := of_decide_eq_false h
        rw [if_neg h] at h47
        exact ⟨k, rfl, keepI hI21 f47 hk h47⟩
    | false =>
      refine (skip_bad hc).mono ?_
      rintro e w47 ⟨rfl, rfl⟩
      exact ⟨_, rfl, fun h => by simp at h, fun _ => ⟨fun h => by simp at h, fun h => ⟨k, rfl, hI21⟩⟩⟩
  · -- Bits
    intro _
    refine ⟨z, by rw [cell_blk hbo]; rfl, ?_⟩
    cases hc : can z with
    | true =>
      obtain ⟨m, rfl, hm⟩ := can_true hc
      refine (rbits_spec hI21.2.1 hm).mono ?_
      rintro e w52 ⟨rfl, h52, f52⟩
      have hbo52 := f52.keep hbo hne
      rw [hleft k hk] at h52 ⊢
      have hdec : decide (true = true ∧ (m : Int) ≤ ((bs.length - k : Nat) : Int)) = decide (m ≤ bs.length - k) := by congr 1; exact propext ⟨fun h => by omega, fun h => ⟨rfl, by omega⟩⟩
      rw [hdec]
      refine ⟨_, _, rfl, fun h => by simp at h, fun _ => ⟨fun h => ?_, fun h => ?_⟩⟩
      · have h : ¬ m ≤ bs.length - k := by simpa using h
        rw [if_neg h, decide_eq_false h]
        rw [if_neg h] at h52
        exact ⟨fun h => by simp at h, fun _ => ⟨fun h => (by cases h), fun _ => ⟨fun h => (by cases h), fun _ => ⟨k, rfl, keepI hI21 f52 hk h52⟩⟩⟩⟩
      · have h : m ≤ bs.length - k := by simpa using h
        rw [if_pos h, decide_eq_true h]
        rw [if_pos h] at h52
        have hI52 := keepI hI21 f52 (k' := k + m) (by omega) (by rw [← Nat.add_assoc]; exact h52)
        have e2 : IntKind.i64.wrap ((k : Int) + (m : Int)) = ((k + m : Nat) : Int) := by rw [wrap_i64 (by omega) (by omega)]; omega
        refine ⟨fun _ => ⟨_, by rw [cell_blk hbo52]; rfl, ?_⟩, fun h => (by cases h)⟩
        rw [e2]
        refine ⟨⟨by omega, by omega, by omega⟩, ?_⟩
        simp only [Int.toNat_natCast]
        have hr : Reads w52 (subA l.a l.cap k 1) (bl ((bs.drop k).take m)) := by
          have := (hI52.2.2.1.reads.sub (cap := l.cap) (by rw [List.length_map]; omega) k).take m
          rwa [← List.map_drop, ← List.map_take] at this
        refine (number_spec hr (by rw [List.length_take, List.length_drop]; omega) (by rw [List.length_take, List.length_drop]; omega)).mono ?_
        rintro e w57 ⟨rfl, rfl⟩
        rw [hnum k m hm]
        exact ⟨_, rfl, fun h => by simp at h, fun _ => ⟨fun _ => ⟨_, by rw [cell_blk hbo52]; rfl, k + m, e2, hI52⟩, fun h => (by cases h)⟩⟩
    | false =>
      refine (rbits_bad hc).mono ?_
      rintro e w52 ⟨rfl, rfl⟩
      exact ⟨_, _, rfl, fun h => by simp at h, fun _ => ⟨fun h => ⟨fun h => by simp at h, fun _ => ⟨fun h => (by cases h), fun _ => ⟨fun h => by simp at h, fun _ => ⟨k, rfl, hI21⟩⟩⟩⟩, fun h => (by cases h)⟩⟩
  · -- Align
    intro _
    refine (align_spec hI21.2.1).mono ?_
    rintro e w68 ⟨rfl, h68, f68⟩
    refine ⟨rfl, ?_⟩
    refine (up_spec k (by omega) w68).mono ?_
    rintro e w70 ⟨rfl, rfl⟩
    refine ⟨_, rfl, (k + 7) / 8 * 8, rfl, keepI hI21 f68 (by omega) ?_⟩
    have : up8 (8 * A + k) = 8 * A + (k + 7) / 8 * 8 := by unfold up8; omega
    rwa [this] at h68
  · -- Bytes
    intro _
    refine ⟨z, by rw [cell_blk hbo]; rfl, ?_⟩
    have hup : up8 (8 * A + k) = 8 * A + (k + 7) / 8 * 8 := by unfold up8; omega
    have hk2 : (k + 7) / 8 * 8 ≤ bs.length := by omega
    refine (rbytes_spec hI21.2.1 z hz).mono ?_
    rintro e w74 h74
    rw [hup, hleft _ hk2] at h74
    have e3 : IntKind.i64.wrap (Int.tdiv (IntKind.i64.wrap ((l.len : Int) - (((k + 7) / 8 * 8 : Nat) : Int))) 8) = (((bs.length - (k + 7) / 8 * 8) / 8 : Nat) : Int) := by
      rw [wrap_i64 (x := (l.len : Int) - _) (by omega) (by omega), Int.tdiv_eq_ediv_of_nonneg (by omega), wrap_i64 (by omega) (by omega)]; omega
    rcases h74 with ⟨⟨hz0, hz8⟩, rfl, h74, f74⟩ | ⟨hno, rfl, h74, f74⟩
    · obtain ⟨m, rfl⟩ := Int.eq_ofNat_of_zero_le hz0
      have hbo74 := f74.keep hbo hne
      rw [Int.toNat_natCast] at h74 ⊢
      refine ⟨_, _, rfl, ?_⟩
      refine (up_spec k (by omega) w74).mono ?_
      rintro e w78 ⟨rfl, rfl⟩
      refine ⟨_, rfl, by decide, fun w => w = w78, ⟨_, by rw [cell_blk hbo74]; rfl, fun _ => ⟨_, by rw [cell_blk hbo74]; rfl, ?_⟩, fun h => absurd (of_decide_eq_false h) (by omega)⟩, ?_⟩
      · rw [e3]
        have hd : decide ((m : Int) ≤ (((bs.length - (k + 7) / 8 * 8) / 8 : Nat) : Int)) = true := decide_eq_true (by omega)
        rw [hd]
        exact ⟨fun h => (by cases h), fun _ => ⟨fun h => (by cases h), fun _ => rfl⟩⟩
      rintro w83 rfl
      have hI74 := keepI hI21 f74 (k' := (k + 7) / 8 * 8 + 8 * m) (by omega) (by rw [← Nat.add_assoc]; exact h74)
      have e4 : IntKind.i64.wrap ((((k + 7) / 8 * 8 : Nat) : Int) + IntKind.i64.wrap (8 * (m : Int))) = (((k + 7) / 8 * 8 + 8 * m : Nat) : Int) := by
        rw [wrap_i64 (x := 8 * (m : Int)) (by omega) (by omega), wrap_i64 (by omega) (by omega)]; omega
      refine ⟨fun _ => ⟨_, by rw [cell_blk hbo74]; rfl, ?_⟩, fun h => (by cases h)⟩
      rw [e4]
      refine ⟨⟨by omega, by omega, by omega⟩, ?_⟩
      simp only [Int.toNat_natCast]
      have hr : Reads w83 (subA l.a l.cap ((k + 7) / 8 * 8) 1) (bl ((bs.drop ((k + 7) / 8 * 8)).take (8 * m))) := by
        have := (hI74.2.2.1.reads.sub (cap := l.cap) (by rw [List.length_map]; omega) ((k + 7) / 8 * 8)).take (8 * m)
        rwa [← List.map_drop, ← List.map_take] at this
      refine (text_spec _ hr (by rw [List.length_take, List.length_drop]; omega) (by rw [List.length_take, List.length_drop]; omega)).mono ?_
      rintro e w86 ⟨rfl, f86⟩
      refine ⟨_, rfl, fun h => ?_, fun _ => ⟨_, by rw [cell_blk (f86.keep hbo74 (by simp))]; rfl, _, e4, keepN hI74 f86⟩⟩
      exfalso
      revert h
      have : textOf ((bs.drop ((k + 7) / 8 * 8)).take (8 * m)) = (s.extract ((8 * A + (k + 7) / 8 * 8) / 8) ((8 * A + (k + 7) / 8 * 8) / 8 + m)).data.toList := by
        have hj : (8 * A + (k + 7) / 8 * 8) / 8 = A + (k + 7) / 8 := by omega
        rw [hj, ByteArray.data_extract, Array.toList_extract, List.extract_eq_take_drop, Nat.add_sub_cancel_left, hsb, List.drop_drop]
        have h1 : ∀ (L : List UInt8) j, (sbits L).take (8 * j) = sbits (L.take j) := by
          intro L
          induction L with
          | nil => intro j; simp [sbits]
          | cons c r ih =>
            intro j
            cases j with
            | zero => rfl
            | succ j =>
              rw [List.take_succ_cons]; simp only [sbits]
              rw [show 8 * (j + 1) = (lowB 8 c.toNat).length + 8 * j by rw [lowB_length]; omega, List.take_length_add_append, ih]
        rw [show 8 * A + (k + 7) / 8 * 8 = 8 * (A + (k + 7) / 8) by omega, ← sbits_drop, h1, textOf_sbits]
      have e7 : (⟨(textOf ((bs.drop ((k + 7) / 8 * 8)).take (8 * m))).toArray⟩ : ByteArray) = s.extract ((8 * A + (k + 7) / 8 * 8) / 8) ((8 * A + (k + 7) / 8 * 8) / 8 + m) := by rw [this]
      rw [e7]
      simp only [beq_self_eq_true, Bool.not_true]
      exact fun h => by cases h
    · have hbo74 := f74.keep hbo hne
      refine ⟨_, _, rfl, ?_⟩
      refine (up_spec k (by omega) w74).mono ?_
      rintro e w78 ⟨rfl, rfl⟩
      have hI74 := keepI hI21 f74 hk2 h74
      refine ⟨_, rfl, by decide, fun w => w = w78, ⟨_, by rw [cell_blk hbo74]; rfl, fun hz0 => ⟨_, by rw [cell_blk hbo74]; rfl, ?_⟩, fun h => ?_⟩, ?_⟩
      · rw [e3]
        have hz0 := of_decide_eq_true hz0
        have hd : decide (z ≤ (((bs.length - (k + 7) / 8 * 8) / 8 : Nat) : Int)) = false := decide_eq_false (by omega)
        rw [hd]
        exact ⟨fun h => (by cases h), fun _ => ⟨fun _ => ⟨fun h => by simp at h, fun _ => rfl⟩, fun h => (by cases h)⟩⟩
      · exact ⟨fun h => (by cases h), fun _ => ⟨fun _ => ⟨fun h => by simp at h, fun _ => rfl⟩, fun h => (by cases h)⟩⟩
      rintro w83 rfl
      exact ⟨fun h => (by cases h), fun _ => ⟨_, rfl, hI74⟩⟩
  rintro n89 w90 ⟨k', rfl, hI90⟩
  have hk' := hI90.1
  refine (left_spec hI90.2.1).mono ?_
  rintro e w92 ⟨rfl, d92⟩
  rw [hleft k' hk']
  have e5 : IntKind.i64.wrap ((l.len : Int) - (k' : Int)) = ((bs.length - k' : Nat) : Int) := by rw [wrap_i64 (by omega) (by omega)]; omega
  rw [e5]
  refine ⟨_, rfl, fun h => by simp at h, fun _ => ?_⟩
  refine (used_spec (hI90.2.1.drew d92) (by omega) (by omega)).mono ?_
  rintro e w95 ⟨rfl, d95⟩
  refine ⟨_, rfl, ?_⟩
  refine (up_spec k' (by omega) w95).mono ?_
  rintro e w98 ⟨rfl, rfl⟩
  have e6 : IntKind.i64.wrap (Int.tdiv (((k' + 7) / 8 * 8 : Nat) : Int) 8) = (((8 * A + k' + 7) / 8 : Nat) : Int) - (A : Int) := by
    rw [Int.tdiv_eq_ediv_of_nonneg (by omega), wrap_i64 (by omega) (by omega)]; omega
  refine ⟨_, rfl, by decide, fun h => ?_, fun _ => ?_⟩
  · rw [e6] at h; simp at h
  · rw [wrap_i64 (by omega) (by omega)]
    exact ⟨⟨by omega, k', rfl, keepN (keepN hI90 (.drew _ d92)) (.drew _ d95)⟩, by dsimp only; omega⟩
end Go.Proofs.Ytcboiljbkkleiaa

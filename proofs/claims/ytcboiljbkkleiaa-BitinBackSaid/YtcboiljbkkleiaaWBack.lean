/- The law 'numbers that were put bit by bit are taken again' walked: it returns true and writes nothing that was there. Conditions: the lists are as Go's values are. -/
import Derived.Test.YtcboiljbkkleiaaWr
import Derived.Test.YtcboiljbkkleiaaWPeeks
set_option linter.unusedVariables false
namespace Go.Proofs.Ytcboiljbkkleiaa
open Go Vc BitsM Go.Proofs

/-- The bits of the first i numbers. -/
def putB (zx zn : List Int) : Nat → List Bool
  | 0 => []
  | i + 1 => putB zx zn i ++ (if 0 ≤ zn.getD i 0 ∧ zn.getD i 0 ≤ 32 then lowB (zn.getD i 0).toNat (zx.getD i 0).toNat else [])
theorem putB_length (zx zn : List Int) : ∀ i, (putB zx zn i).length ≤ 32 * i
  | 0 => by simp [putB]
  | i + 1 => by
    have := putB_length zx zn i
    simp only [putB, List.length_append]
    split
    · rw [lowB_length]; omega
    · simp; omega
theorem putB_prefix (zx zn : List Int) (j : Nat) : ∀ d, ∃ r, putB zx zn (j + d) = putB zx zn j ++ r
  | 0 => ⟨[], by simp⟩
  | d + 1 => by
    obtain ⟨r, hr⟩ := putB_prefix zx zn j d
    rw [← Nat.add_assoc, putB, hr, List.append_assoc]
    exact ⟨_, rfl⟩

theorem back_walk (a0 : Option Addr) (len0 cap0 : Nat) (z0 : List Int) (a1 : Option Addr) (len1 cap1 : Nat) (z1 : List Int) (W : World) (w0 : IsRow .u32 W a0 len0 cap0 z0) (w1 : IsRow .i64 W a1 len1 cap1 z1) :
    Calls Try.prog F_cartularylaw03_BitinBack #[.slice a0 len0 cap0, .slice a1 len1 cap1] W fun e w' => e = .returned (.bool true) ∧ RowKit.Below W.heap.size W w' := by
  refine vc_cartularylaw03_BitinBack_ok (R := fun v w' => v = .bool true ∧ Fr (fun k => W.heap.size ≤ k) W w') ?_ (fun v w' h => ⟨by rw [h.1], h.2.below (Nat.le_refl _)⟩)
  rintro wa rfl
  have hz := alloc_new W (.cells #[.slice none 0 0, .int .u64 0, .int .i64 0] T_bitin_Writer)
  have f1 : Fr (fun k => W.heap.size ≤ k) W (W.alloc (.cells #[.slice none 0 0, .int .u64 0, .int .i64 0] T_bitin_Writer)) := .alloc _ _ _
  generalize W.alloc (.cells #[.slice none 0 0, .int .u64 0, .int .i64 0] T_bitin_Writer) = wa at hz f1 ⊢
  generalize hB : W.heap.size = B at hz f1 ⊢
  obtain ⟨K, hK0, hK1, hK60, hK⟩ : ∃ K : Nat, K ≤ len0 ∧ K ≤ len1 ∧ K ≤ 60 ∧ (if 60 < if (len1 : Int) < (len0 : Int) then (len1 : Int) else (len0 : Int) then 60 else if (len1 : Int) < (len0 : Int) then (len1 : Int) else (len0 : Int)) = (K : Int) := by
    refine ⟨min (min len0 len1) 60, by omega, by omega, by omega, ?_⟩
    split <;> split at * <;> omega
  rw [hK]
  have wfx : ∀ {i : Nat}, i < len0 → 0 ≤ z0.getD i 0 ∧ z0.getD i 0 ≤ 4294967295 := by
    intro i hi
    obtain ⟨_, hl, hw⟩ := w0.reads
    rcases w0 with ⟨_, h, _⟩ | ⟨x, _, h1, _, h2, _, h3⟩
    · omega
    · have hlt : i < z0.length := by omega
      rw [List.getD_eq_getElem?_getD, List.getElem?_eq_getElem hlt]
      exact wf_u32 (h3 _ (List.getElem_mem hlt))
  refine ⟨fun n w => ∃ (i : Nat) (sl : Sl), i ≤ K ∧ n = (i : Int) ∧ Wrt w B sl (putB z0 z1 i) ∧ Fr (fun k => B ≤ k) W w, fun n _ => ((K : Int) - n).toNat, ⟨0, _, Nat.zero_le _, rfl, Wrt.zero hz, f1⟩, ?_⟩
  rintro n4 w5 ⟨i, sl, hi, rfl, hw, hf⟩
  have hlen := putB_length z0 z1 i
  refine ⟨fun hlt => ?_, fun hge => ?_⟩
  · have hlt := of_decide_eq_true hlt
    intro w6 d6
    have f6 : Fr (fun k => B ≤ k) W w6 := hf.trans' (.drew _ d6)
    have hw6 : Wrt w6 B sl (putB z0 z1 i) := hw.keep (.drew (fun _ => False) d6) (by simp) (by simp)
    obtain ⟨x, hx, hcx⟩ := w0.at (i := i) (by omega) (by rw [hB]; exact f6)
    obtain ⟨y, hy, hcy⟩ := w1.at (i := i) (by omega) (by rw [hB]; exact f6)
    refine ⟨fun w => w = w6, rfl, ⟨by omega, by omega⟩, x, hx, _, fun w hw => by rw [hw, Int.toNat_natCast, Nat.mul_one]; exact hcx, ⟨by omega, by omega⟩, y, hy, _, fun w hw => by rw [hw, Int.toNat_natCast, Nat.mul_one]; exact hcy, ?_⟩
    have hxv := wfx (i := i) (by omega)
    have e1 : IntKind.i64.wrap ((i : Int) + 1) = ((i + 1 : Nat) : Int) := by rw [wrap_i64 (by omega) (by omega)]; omega
    rw [e1]
    have hput : putB z0 z1 (i + 1) = putB z0 z1 i ++ (if 0 ≤ z1.getD i 0 ∧ z1.getD i 0 ≤ 32 then lowB (z1.getD i 0).toNat (z0.getD i 0).toNat else []) := rfl
    revert hput
    generalize z0.getD i 0 = vx at hxv ⊢
    generalize z1.getD i 0 = vn
    intro hput
    obtain ⟨v, rfl⟩ := Int.eq_ofNat_of_zero_le hxv.1
    by_cases hc : 0 ≤ vn ∧ vn ≤ 32
    · obtain ⟨m, rfl⟩ := Int.eq_ofNat_of_zero_le hc.1
      rw [if_pos hc, Int.toNat_natCast, Int.toNat_natCast] at hput
      refine (wbits_spec hw6 (x := v) (n := m) (by omega) (by omega) (by omega)).mono ?_
      rintro e w15 ⟨rfl, sl2, h15, f15, s15⟩
      refine ⟨rfl, ⟨i + 1, sl2, by omega, rfl, by rw [hput]; exact h15, f6.trans f15 ?_⟩, by dsimp only; omega⟩
      rintro k hk (h1 | ⟨q, hq, h1⟩)
      · omega
      · have := (hw6.1.own.blk hq).1; omega
    · rw [if_neg hc, List.append_nil] at hput
      refine (wbits_bad (by omega)).mono ?_
      rintro e w15 ⟨rfl, rfl⟩
      exact ⟨rfl, ⟨i + 1, sl, by omega, rfl, by rw [hput]; exact hw6, f6⟩, by dsimp only; omega⟩
  have hge := of_decide_eq_false hge
  have hiK : i = K := by omega
  subst hiK
  refine (wtext_spec hw).mono ?_
  rintro e w17 ⟨rfl, f17⟩
  refine ⟨_, rfl, ?_⟩
  have hss : sbits (⟨(textOf (putB z0 z1 i)).toArray⟩ : ByteArray).data.toList = fill8 (putB z0 z1 i) := by
    rw [show (⟨(textOf (putB z0 z1 i)).toArray⟩ : ByteArray).data.toList = textOf (putB z0 z1 i) from rfl, sbits_textOf]
  have hsz : (⟨(textOf (putB z0 z1 i)).toArray⟩ : ByteArray).size = ((putB z0 z1 i).length + 7) / 8 := by
    show (textOf (putB z0 z1 i)).toArray.size = _
    rw [List.size_toArray, textOf_length]
  generalize (⟨(textOf (putB z0 z1 i)).toArray⟩ : ByteArray) = s at hss hsz ⊢
  refine (rnew_spec (s := s) (by omega) 0 w17).mono ?_
  rintro e w20 ⟨rfl, h20, f20⟩
  have p0 : 8 * min (0 : Int).toNat s.size = 0 := by simp
  have p1 : ((min (0 : Int).toNat s.size : Nat) : Int) = 0 := by simp
  rw [p0, p1] at h20
  have hrb : B ≤ w17.heap.size := by have := hw.lt; have := f17.size; omega
  generalize w17.heap.size = rb at h20 hrb ⊢
  have fW20 : Fr (fun k => B ≤ k) W w20 := (hf.trans f17 (by simp)).trans f20 (by simp)
  refine ⟨_, rfl, fun h => by simp at h, fun _ => ?_⟩
  refine ⟨fun n w => ∃ j : Nat, j ≤ i ∧ n = (j : Int) ∧ Rd w rb s (putB z0 z1 j).length 0 ∧ Fr (fun k => B ≤ k) W w, fun n _ => ((i : Int) - n).toNat, ⟨0, Nat.zero_le _, rfl, h20, fW20⟩, ?_⟩
  rintro n24 w25 ⟨j, hj, rfl, h25, f25⟩
  have e1 : IntKind.i64.wrap ((j : Int) + 1) = ((j + 1 : Nat) : Int) := by rw [wrap_i64 (by omega) (by omega)]; omega
  rw [e1]
  refine ⟨fun hlt => ?_, fun hge => ?_⟩
  · have hlt := of_decide_eq_true hlt
    obtain ⟨y, hy, hcy⟩ := w1.at (i := j) (by omega) (by rw [hB]; exact f25)
    have hxv := wfx (i := j) (by omega)
    obtain ⟨r, hr⟩ := putB_prefix z0 z1 (j + 1) (i - (j + 1))
    rw [show j + 1 + (i - (j + 1)) = i by omega] at hr
    have hput : putB z0 z1 (j + 1) = putB z0 z1 j ++ (if 0 ≤ z1.getD j 0 ∧ z1.getD j 0 ≤ 32 then lowB (z1.getD j 0).toNat (z0.getD j 0).toNat else []) := rfl
    have hcell : w25.cell? (y.add ((j : Int).toNat * 1)) = some (.int .i64 (z1.getD j 0)) := by rw [Int.toNat_natCast, Nat.mul_one]; exact hcy
    refine ⟨⟨by omega, by omega⟩, y, hy, _, hcell, fun hneg => ?_, fun hpos => ⟨⟨by omega, by omega⟩, y, hy, _, hcell, fun hbig => ?_, fun hsm => ⟨⟨by omega, by omega⟩, y, hy, _, hcell, ?_⟩⟩⟩
    · have hneg := of_decide_eq_true hneg
      rw [if_neg (by omega), List.append_nil] at hput
      exact ⟨⟨j + 1, by omega, rfl, by rw [hput]; exact h25, f25⟩, by dsimp only; omega⟩
    · have hbig := of_decide_eq_true hbig
      rw [if_neg (by omega), List.append_nil] at hput
      exact ⟨⟨j + 1, by omega, rfl, by rw [hput]; exact h25, f25⟩, by dsimp only; omega⟩
    have hpos := of_decide_eq_false hpos
    have hsm := of_decide_eq_false hsm
    have hat : ∀ w', Fr (fun k => B ≤ k) W w' → ∃ x, a0 = some x ∧ w'.cell? (x.add ((j : Int).toNat * 1)) = some (.int .u32 (z0.getD j 0)) := by
      intro w' f'
      obtain ⟨x, hx, hc⟩ := w0.at (i := j) (by omega) (by rw [hB]; exact f')
      exact ⟨x, hx, by rw [Int.toNat_natCast, Nat.mul_one]; exact hc⟩
    have hat1 : ∀ w', Fr (fun k => B ≤ k) W w' → ∃ x, a1 = some x ∧ w'.cell? (x.add ((j : Int).toNat * 1)) = some (.int .i64 (z1.getD j 0)) := by
      intro w' f'
      obtain ⟨x, hx, hc⟩ := w1.at (i := j) (by omega) (by rw [hB]; exact f')
      exact ⟨x, hx, by rw [Int.toNat_natCast, Nat.mul_one]; exact hc⟩
    clear hcell hcy
    revert hput hat hat1
    generalize z0.getD j 0 = vx at hxv ⊢
    generalize z1.getD j 0 = vn at hpos hsm ⊢
    intro hput hat hat1
    obtain ⟨v, rfl⟩ := Int.eq_ofNat_of_zero_le hxv.1
    obtain ⟨m, rfl⟩ := Int.eq_ofNat_of_zero_le (show 0 ≤ vn by omega)
    rw [if_pos ⟨by omega, by omega⟩, Int.toNat_natCast, Int.toNat_natCast] at hput
    refine (rbits_spec h25 (n := m) (by omega)).mono ?_
    rintro e w33 ⟨rfl, h33, f33⟩
    have hL : (putB z0 z1 i).length = (putB z0 z1 j).length + m + r.length := by rw [hr, hput]; simp only [List.length_append, lowB_length]
    have hyes : m ≤ left s (putB z0 z1 j).length := by unfold left; omega
    rw [if_pos hyes] at h33
    have hval : nbits s (putB z0 z1 j).length m = v % 2 ^ m := by
      rw [nbits_list, hss]
      unfold fill8
      rw [hr, hput]
      simp only [List.append_assoc]
      rw [List.drop_left, List.take_append_of_le_length (by rw [lowB_length]; omega), List.take_of_length_le (by rw [lowB_length]; omega), num_lowB]
    rw [if_pos hyes, decide_eq_true hyes, hval]
    have g33 : Fr (fun k => B ≤ k) W w33 := f25.trans f33 (by intros; omega)
    refine ⟨_, _, rfl, fun h => (by cases h), fun _ => ⟨⟨by omega, by omega⟩, ?_⟩⟩
    obtain ⟨x, hx, hcx⟩ := hat w33 g33
    obtain ⟨y2, hy2, hcy2⟩ := hat1 w33 g33
    refine ⟨x, hx, _, hcx, ⟨by omega, by omega⟩, y2, hy2, _, hcy2, by omega, ?_⟩
    have hm : min ((m : Int)).toNat 64 = m := by omega
    have hc : (2 : Int) ^ m = ((2 ^ m : Nat) : Int) := by push_cast; rfl
    have hp : 2 ^ m ≤ 2 ^ 32 := Nat.pow_le_pow_right (by decide) (by omega)
    have hp1 := Nat.two_pow_pos m
    rw [hm, hc, Int.one_mul]
    have hvm : v % 2 ^ m ≤ v := Nat.mod_le _ _
    have hlenj : (putB z0 z1 (j + 1)).length = (putB z0 z1 j).length + m := by rw [hput, List.length_append, lowB_length]
    generalize hq : 2 ^ m = q at hp hp1 hvm ⊢
    rw [wrap_u64 (x := (q : Int)) (by omega) (by omega), wrap_u64 (x := ((v % q : Nat) : Int)) (by omega) (by omega), wrap_u64 (x := (v : Int)) (by omega) (by omega)]
    refine ⟨by omega, fun w41 d41 => ⟨fun h => ?_, fun _ => ⟨⟨j + 1, by omega, rfl, by rw [hlenj]; exact h33.drew d41, g33.trans' (.drew _ d41)⟩, by dsimp only; omega⟩⟩⟩
    exfalso
    rw [Int.tmod_eq_emod_of_nonneg (by omega), ← Int.natCast_emod] at h
    simp at h
  · have hge := of_decide_eq_false hge
    have : j = i := by omega
    subst this
    refine (awake3_spec w25).mono ?_
    rintro e w43 ⟨rfl, f43⟩
    refine ⟨_, rfl, fun _ => ?_, fun h => by cases h⟩
    refine (left_spec (h25.keep f43 (by simp))).mono ?_
    rintro e w46 ⟨rfl, d46⟩
    refine ⟨_, rfl, ?_, (f25.trans f43 (by simp)).trans' (.drew _ d46)⟩
    congr 1
    unfold left
    exact decide_eq_true (by omega)
end Go.Proofs.Ytcboiljbkkleiaa

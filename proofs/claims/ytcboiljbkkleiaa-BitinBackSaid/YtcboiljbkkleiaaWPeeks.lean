/- The law 'looking ahead takes nothing' walked: it returns true and writes nothing that was there. Conditions: the text and the list are as Go's values are. -/
import Derived.Test.YtcboiljbkkleiaaRd
import Derived.Test.YtcboiljbkkleiaaLaw3
set_option linter.unusedVariables false
namespace Go.Proofs.Ytcboiljbkkleiaa
open Go Vc BitsM Go.Proofs

theorem awake3_spec (w : World) : Calls Try.prog F_cartularylaw03_awake #[] w fun e w' => e = .returned (.bool true) ∧ Fr (fun _ => False) w w' := by
  refine vc_cartularylaw03_awake_ok (R := fun v w' => v = .bool true ∧ Fr (fun _ => False) w w') ?_ (fun v w' h => ⟨by rw [h.1], h.2⟩)
  refine (rnew_spec (s := ⟨#[165, 15]⟩) (by decide) 0 w).mono ?_
  rintro e w2 ⟨rfl, h2, f2⟩
  refine ⟨_, rfl, fun h => by simp at h, fun _ => ?_⟩
  refine (rbits_spec (n := 4) h2 (by decide)).mono ?_
  rintro e w5 ⟨rfl, h5, f5⟩
  have hb := h2.lt
  refine ⟨_, _, rfl, ?_⟩
  have p1 : (if 4 ≤ left (⟨#[165, 15]⟩ : ByteArray) (8 * min (0 : Int).toNat (⟨#[165, 15]⟩ : ByteArray).size) then 8 * min (0 : Int).toNat (⟨#[165, 15]⟩ : ByteArray).size + 4 else 8 * min (0 : Int).toNat (⟨#[165, 15]⟩ : ByteArray).size) = 4 := by decide +kernel
  rw [p1] at h5
  refine (rbits_spec (n := 8) h5 (by decide)).mono ?_
  rintro e w9 ⟨rfl, h9, f9⟩
  refine ⟨_, _, rfl, fun _ => ⟨fun _ => ⟨fun _ => ⟨fun _ => ?_, fun h => ?_⟩, fun h => ?_⟩, fun h => ?_⟩, fun h => ?_⟩
  · have p2 : (if 8 ≤ left (⟨#[165, 15]⟩ : ByteArray) 4 then 4 + 8 else 4) = 12 := by decide +kernel
    rw [p2] at h9
    refine (left_spec h9).mono ?_
    rintro e w13 ⟨rfl, d⟩
    refine ⟨_, rfl, ?_, ?_⟩
    · have : ((left (⟨#[165, 15]⟩ : ByteArray) 12 : Nat) : Int) = 4 := by decide +kernel
      rw [this]; rfl
    · exact ((f2.trans f5 (fun k hk h => by omega)).trans f9 (fun k hk h => by omega)).trans (.drew (fun _ => False) d) (fun _ _ h => h)
  · exact absurd h (by decide +kernel)
  · exact absurd h (by decide +kernel)
  · exact absurd h (by decide +kernel)
  · exact absurd h (by decide +kernel)

theorem clamp_eq (n : Int) : ∃ m : Nat, m ≤ 32 ∧ (if (if (32 : Int) < n then 32 else n) > 0 then if (32 : Int) < n then 32 else n else 0) = (m : Int) := by
  refine ⟨(max 0 (min n 32)).toNat, by omega, ?_⟩
  split <;> split at * <;> omega

theorem peeks_walk (a0 : ByteArray) (a1 : Option Addr) (len1 cap1 : Nat) (z1 : List Int) (W : World) (w1 : IsRow .i64 W a1 len1 cap1 z1) :
    Calls Try.prog F_cartularylaw03_BitinPeeks #[.string a0, .slice a1 len1 cap1] W fun e w' => e = .returned (.bool true) ∧ RowKit.Below W.heap.size W w' := by
  refine vc_cartularylaw03_BitinPeeks_ok (R := fun v w' => v = .bool true ∧ Fr (fun k => W.heap.size ≤ k) W w') ?_ (fun v w' h => ⟨by rw [h.1], h.2.below (Nat.le_refl _)⟩)
  refine ⟨fun s w' => s.size ≤ 200 ∧ w' = W, ⟨fun h => ⟨⟨by decide, ?_⟩, ?_, rfl⟩, fun h => ⟨?_, rfl⟩⟩, ?_⟩
  · have := of_decide_eq_true h; omega
  · rw [ByteArray.size_extract]; show min 200 _ - 0 ≤ 200; omega
  · have := of_decide_eq_false h; omega
  rintro s w3 ⟨hs, rfl⟩
  refine (rnew_spec (s := s) (by omega) 0 w3).mono ?_
  rintro e w5 ⟨rfl, h5, f5⟩
  have p0 : 8 * min (0 : Int).toNat s.size = 0 := by simp
  have p1 : ((min (0 : Int).toNat s.size : Nat) : Int) = 0 := by simp
  rw [p0, p1] at h5
  generalize hb : w3.heap.size = b at h5 ⊢
  refine ⟨_, rfl, fun h => by simp at h, fun _ => ?_⟩
  refine ⟨fun n w => 0 ≤ n ∧ (∃ pos, Rd w b s pos 0) ∧ Fr (fun k => b ≤ k) w3 w, fun n _ => ((len1 : Int) - n).toNat, ⟨by decide, ⟨0, h5⟩, f5.mono (by simp)⟩, ?_⟩
  rintro n9 w10 ⟨hn0, ⟨pos, h10⟩, f10⟩
  obtain ⟨i, rfl⟩ := Int.eq_ofNat_of_zero_le hn0
  have tailp : ∀ w, Rd w b s pos 0 → Fr (fun k => b ≤ k) w3 w → Calls Try.prog (19 : Nat) (Array.mk []) w (fun e37 w38 =>
      ∃ b39 : Bool, (e37 = Ending.returned (Value.bool b39) ∧
       (((b39 = true →
          Calls Try.prog (20 : Nat) (Array.mk [Value.pointer (some ⟨b, 0, none⟩)]) (w38) (fun e40 w41 =>
            ∃ n42 : Int, (e40 = Ending.returned (Value.int IntKind.i64 n42) ∧
             (Value.bool (decide (n42 ≤ (↑(ByteArray.size s) : Int))) = .bool true ∧ Fr (fun k => b ≤ k) w3 w41))))) ∧
        (b39 = false →
          (Value.bool false = .bool true ∧ Fr (fun k => b ≤ k) w3 w38))))) := by
    intro w hr hf
    refine (awake3_spec w).mono ?_
    rintro e w' ⟨rfl, f'⟩
    have hr' : Rd w' b s pos 0 := hr.keep f' (by simp)
    refine ⟨_, rfl, fun _ => ?_, fun h => by cases h⟩
    refine (used_spec hr' (by decide) (by decide)).mono ?_
    rintro e w'' ⟨rfl, d⟩
    refine ⟨_, rfl, ?_, (hf.trans f' (by simp)).trans (.drew (fun _ => False) d) (by simp)⟩
    have := hr'.pos_le
    congr 1
    exact decide_eq_true (by omega)
  refine ⟨fun hlt => ⟨fun h60 => ?_, fun _ => tailp _ h10 f10⟩, fun _ => tailp _ h10 f10⟩
  have hlt := of_decide_eq_true hlt
  have hlt' : i < len1 := by omega
  obtain ⟨x, rfl, hc⟩ := w1.at hlt' (by rw [hb]; exact f10)
  refine ⟨⟨by omega, hlt⟩, x, rfl, _, by rw [Int.toNat_natCast, Nat.mul_one]; exact hc, ?_⟩
  generalize z1.getD i 0 = z
  obtain ⟨m, hm, hz⟩ := clamp_eq z
  simp only [hz]
  have next : ∀ w pos', Rd w b s pos' 0 → Fr (fun k => b ≤ k) w3 w → (0 ≤ IntKind.i64.wrap ((i : Int) + 1) ∧ (∃ pos, Rd w b s pos 0) ∧ Fr (fun k => b ≤ k) w3 w) ∧ ((len1 : Int) - IntKind.i64.wrap ((i : Int) + 1)).toNat < ((len1 : Int) - (i : Int)).toNat := by
    intro w pos' hr hf
    have h60 := of_decide_eq_true h60
    rw [wrap_i64 (by omega) (by omega)]
    exact ⟨⟨by omega, ⟨_, hr⟩, hf⟩, by omega⟩
  refine (left_spec h10).mono ?_
  rintro e w14 ⟨rfl, d14⟩
  refine ⟨_, rfl, ?_⟩
  refine (peek_spec (h10.drew d14) hm).mono ?_
  rintro e w17 ⟨rfl, h17, f17⟩
  refine ⟨_, _, rfl, ?_⟩
  refine (peek_spec h17 hm).mono ?_
  rintro e w21 ⟨rfl, h21, f21⟩
  have g21 : Fr (fun k => b ≤ k) w3 w21 := ((f10.trans (.drew (fun _ => False) d14) (by simp)).trans f17 (by intros; omega)).trans f21 (by intros; omega)
  refine ⟨_, _, rfl, fun h => by simp at h, fun _ => ⟨fun h => by simp at h, fun _ => ⟨fun h => ?_, fun _ => ?_⟩⟩⟩
  · exfalso
    revert h
    simp only [bne_iff_ne, ne_eq]
    intro h; apply h
    split <;> omega
  refine (left_spec h21).mono ?_
  rintro e w25 ⟨rfl, d25⟩
  refine ⟨_, rfl, fun h => by simp at h, fun _ => ?_⟩
  refine (rbits_spec (h21.drew d25) hm).mono ?_
  rintro e w28 ⟨rfl, h28, f28⟩
  have g28 : Fr (fun k => b ≤ k) w3 w28 := (g21.trans (.drew (fun _ => False) d25) (by simp)).trans f28 (by intros; omega)
  refine ⟨_, _, rfl, fun h => ?_, fun _ => ⟨fun hb30 => ⟨fun h => ?_, fun _ => ⟨fun h => ?_, fun _ => next _ _ h28 g28⟩⟩, fun hb30 => ⟨fun _ => ⟨fun h => ?_, fun _ => ?_⟩, fun h => ?_⟩⟩⟩
  · exfalso
    revert h
    by_cases hq : m ≤ left s pos
    · simp [hq]
    · simp [hq]
  · exfalso
    have hq : m ≤ left s pos := of_decide_eq_true hb30
    rw [if_pos hq] at h
    simp at h
  · simp [hb30] at h
  · exfalso
    have hq : ¬ m ≤ left s pos := of_decide_eq_false hb30
    rw [if_neg hq] at h
    simp at h
  · have hq : ¬ m ≤ left s pos := of_decide_eq_false hb30
    rw [if_neg hq] at h28
    refine (left_spec h28).mono ?_
    rintro e w35 ⟨rfl, d35⟩
    exact ⟨_, rfl, fun h => by simp at h, fun _ => next _ _ (h28.drew d35) (g28.trans (.drew (fun _ => False) d35) (by simp))⟩
  · simp [hb30] at h
end Go.Proofs.Ytcboiljbkkleiaa

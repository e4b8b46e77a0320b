/- EqualFold of any text against '.git'. Conditions: the table that folds ASCII letters lies as its initialiser lays it. -/
import Derived.Test.YtmihbbgojkbaeaaDoorStrB
set_option linter.unusedVariables false
namespace Go.Proofs.YtmihbbgojkbaeaaDoor
open Go Vc Go.Proofs

theorem wrap_i32 {x : Int} (h0 : -2147483648 ≤ x) (h1 : x < 2147483648) : IntKind.i32.wrap x = x := by
  unfold IntKind.wrap
  simp only [IntKind.bits, IntKind.signed, Bool.true_and]
  split <;> rename_i h <;> simp only [ge_iff_le, decide_eq_true_eq] at h <;> omega
/-- What of the table is read. -/
def FoldTab (w : World) : Prop := ∀ c d : Nat, (c, d) ∈ [(46, 46), (103, 71), (71, 103), (105, 73), (73, 105), (116, 84), (84, 116)] → w.cell? ⟨G_unicode_asciiFold, c, none⟩ = some (.int .u16 (d : Int))
theorem FoldTab.keep {w w1 : World} (h : FoldTab w) {X : Nat → Prop} (hf : Fr X w w1) (hx : ¬ X G_unicode_asciiFold) : FoldTab w1 := fun c d hcd => hf.cell (h c d hcd) hx
theorem simpleFold_spec {c d : Nat} {w : World} (hc : c < 128) (hd : d < 128) (h : w.cell? ⟨G_unicode_asciiFold, c, none⟩ = some (.int .u16 (d : Int))) :
    Calls Tryd.prog F_unicode_SimpleFold #[.int .i32 (c : Int)] w fun e w' => e = .returned (.int .i32 (d : Int)) ∧ w' = w := by
  refine vc_unicode_SimpleFold_ok (R := fun v w' => v = .int .i32 (d : Int) ∧ w' = w) ?_ (fun v w' h => ⟨by rw [h.1], h.2⟩)
  refine ⟨fun h => absurd (of_decide_eq_true h) (by omega), fun _ => ⟨fun h => absurd (of_decide_eq_true h) (by omega), fun _ => ⟨fun _ => ⟨⟨by omega, by omega⟩, d, ?_, ?_, rfl⟩, fun h => ?_⟩⟩⟩
  · rw [add_lit, Int.toNat_natCast, Nat.mul_one, Nat.zero_add]; exact h
  · rw [wrap_i32 (by omega) (by omega)]
  · have h := of_decide_eq_false h
    rw [wrap_i64 (by omega) (by omega)] at h; omega
abbrev gitS : ByteArray := ⟨#[46, 103, 105, 116]⟩
def low (c : Nat) : Nat := if 65 ≤ c ∧ c ≤ 90 then c + 32 else c
/-- Is it '.git', in whatever letters? -/
def isGit (s : ByteArray) : Bool := decide (s.size = 4) && (List.range 4).all fun j => low (byt s j) == byt gitS j
theorem isGit_iff {s : ByteArray} : isGit s = true ↔ s.size = 4 ∧ ∀ j, j < 4 → low (byt s j) = byt gitS j := by
  unfold isGit
  simp only [Bool.and_eq_true, decide_eq_true_eq, List.all_eq_true, List.mem_range, beq_iff_eq]
theorem isGit_no {s : ByteArray} (h : ¬ (s.size = 4 ∧ ∀ j, j < 4 → low (byt s j) = byt gitS j)) : isGit s = false := Bool.eq_false_iff.2 fun e => h (isGit_iff.1 e)
theorem git_cases {k : Nat} (h : k < 4) : (k = 0 ∧ byt gitS k = 46) ∨ (k = 1 ∧ byt gitS k = 103) ∨ (k = 2 ∧ byt gitS k = 105) ∨ (k = 3 ∧ byt gitS k = 116) := by
  match k, h with
  | 0, _ => exact .inl ⟨rfl, rfl⟩
  | 1, _ => exact .inr (.inl ⟨rfl, rfl⟩)
  | 2, _ => exact .inr (.inr (.inl ⟨rfl, rfl⟩))
  | 3, _ => exact .inr (.inr (.inr ⟨rfl, rfl⟩))
theorem not_git {s : ByteArray} {k : Nat} (hk : k < 4) (h : low (byt s k) ≠ byt gitS k) : isGit s = false := isGit_no fun h' => h (h'.2 k hk)
theorem or_high {a b : Nat} (ha : a < 256) (hb : b < 128) : 128 ≤ a ||| b ↔ 128 ≤ a := by
  have h7 : ∀ x, x < 256 → (128 ≤ x ↔ x.testBit 7 = true) := fun x hx => by
    rw [Nat.testBit_eq_decide_div_mod_eq, decide_eq_true_eq]; omega
  have hor : a ||| b < 256 := Nat.or_lt_two_pow (n := 8) ha (by omega)
  rw [h7 _ hor, h7 _ ha, Nat.testBit_or, Bool.or_eq_true]
  constructor
  · rintro (h | h)
    · exact h
    · rw [← h7 _ (by omega)] at h; omega
  · exact .inl
theorem decodeLow_spec (s : ByteArray) (h0 : 0 < s.size) (hb : byt s 0 < 128) (w : World) : Calls Tryd.prog F_utf8_DecodeRuneInString #[.string s] w fun e w' => e = .returned (.tuple #[.int .i32 (byt s 0 : Nat), .int .i64 1]) ∧ w' = w := by
  refine vc_utf8_DecodeRuneInString_ok (R := fun v w' => v = .tuple #[.int .i32 (byt s 0 : Nat), .int .i64 1] ∧ w' = w) ?_ (fun v w' h => ⟨by rw [h.1], h.2⟩)
  have hba : byteAt s 0 = (byt s 0 : Nat) := byteAt_nat s 0
  rw [vc_utf8_DecodeRuneInString, hba]
  refine ⟨fun _ => ⟨⟨by decide, by omega⟩, fun _ => ⟨⟨by decide, by omega⟩, by rw [wrap_i32 (by omega) (by omega)], rfl⟩, fun h => absurd (of_decide_eq_false h) (by omega)⟩, fun h => ?_⟩
  rw [bs_eq] at h
  have h : decide (s = ⟨#[]⟩) = true := by simpa using h
  have := of_decide_eq_true h
  rw [bs_empty] at this; omega
theorem equalFold_spec (s : ByteArray) (hs : s.size ≤ 140737488355328) (w : World) (ht : FoldTab w) (hG : G_unicode_asciiFold < w.heap.size) :
    Calls Tryd.prog F_strings_EqualFold #[.string s, .string gitS] w fun e w' => e = .returned (.bool (isGit s)) ∧ Fr (fun _ => False) w w' := by
  refine vc_strings_EqualFold_ok (R := fun v w' => v = .bool (isGit s) ∧ Fr (fun _ => False) w w') ?_ (fun v w' h => ⟨by rw [h.1], h.2⟩)
  have hg : gitS.size = 4 := rfl
  refine ⟨fun a b n w' => a = s ∧ b = gitS ∧ w' = w ∧ ∃ k : Nat, n = k ∧ k < s.size ∧ k < 4 ∧ 128 ≤ byt s k, fun _ _ _ _ => 0, ⟨fun n w' => w' = w ∧ ∃ k : Nat, n = k ∧ k ≤ s.size ∧ k ≤ 4 ∧ ∀ j, j < k → low (byt s j) = byt gitS j, fun n _ => 4 - n.toNat, ⟨rfl, 0, rfl, Nat.zero_le _, Nat.zero_le _, fun j hj => by omega⟩, ?_⟩, ?_, trivial⟩
  · rintro n w6 ⟨hw, k, rfl, hk, hk4, hall⟩
    replace hw := hw.symm
    subst hw
    have hmin : (if ((gitS.size : Nat) : Int) < (s.size : Int) then ((gitS.size : Nat) : Int) else (s.size : Int)) = ((min s.size 4 : Nat) : Int) := by rw [hg]; split <;> omega
    rw [hmin]
    refine ⟨fun hlt => ?_, fun hge => ?_⟩
    · have hlt := of_decide_eq_true hlt
      have hk4' : k < 4 := by omega
      have hks : k < s.size := by omega
      have hb := byt_lt s k
      rw [byteAt_nat, byteAt_nat]
      have hgc := git_cases hk4'
      have hor : (BitVec.ofInt 8 ((byt s k : Nat) : Int) ||| BitVec.ofInt 8 ((byt gitS k : Nat) : Int)).toNat = byt s k ||| byt gitS k := or_nat 8 _ _ (by omega) (by omega)
      have hol : byt s k ||| byt gitS k < 256 := Nat.or_lt_two_pow (n := 8) hb (by omega)
      have hoh := or_high (a := byt s k) (b := byt gitS k) hb (by omega)
      rw [hor, wrap_u8 (by omega) (by omega)]
      refine ⟨⟨by omega, by omega⟩, ⟨by omega, by rw [hg]; omega⟩, fun h => ?_, fun h => ?_⟩
      · have h := of_decide_eq_true h
        exact ⟨rfl, rfl, rfl, k, rfl, hks, hk4', hoh.1 (by omega)⟩
      · have h := of_decide_eq_false h
        have hlo : byt s k < 128 := by
          by_cases hh : 128 ≤ byt s k
          · have := hoh.2 hh; omega
          · omega
        have e1 : IntKind.i64.wrap ((k : Int) + 1) = ((k + 1 : Nat) : Int) := by rw [wrap_i64 (by omega) (by omega)]; omega
        rw [e1]
        have step : low (byt s k) = byt gitS k → (w = w ∧ ∃ k' : Nat, ((k + 1 : Nat) : Int) = k' ∧ k' ≤ s.size ∧ k' ≤ 4 ∧ ∀ j, j < k' → low (byt s j) = byt gitS j) := fun he =>
          ⟨rfl, k + 1, rfl, by omega, by omega, fun j hj => by
            by_cases hjk : j = k
            · rw [hjk]; exact he
            · exact hall j (by omega)⟩
        refine ⟨fun he => ⟨step ?_, by dsimp only; omega⟩, fun hne => ?_⟩
        · have he := eq_of_beq he
          unfold low; split <;> omega
        · have hne : byt gitS k ≠ byt s k := fun e => by rw [e] at hne; simp at hne
          refine ⟨fun a b w' => w' = w ∧ ((a = (byt s k : Nat) ∧ b = (byt gitS k : Nat) ∧ byt s k < byt gitS k) ∨ (a = (byt gitS k : Nat) ∧ b = (byt s k : Nat) ∧ byt gitS k < byt s k)), ⟨fun hl => ⟨rfl, .inr ⟨rfl, rfl, ?_⟩⟩, fun hl => ⟨rfl, .inl ⟨rfl, rfl, ?_⟩⟩⟩, ?_⟩
          · have := of_decide_eq_true hl; omega
          · have := of_decide_eq_false hl; omega
          · rintro a b w10 ⟨hw, hab⟩
            replace hw := hw.symm
            subst hw
            have bad : ¬ (65 ≤ byt s k ∧ byt s k ≤ 90 ∧ byt gitS k = byt s k + 32) → isGit s = false := fun hn => not_git hk4' (by unfold low; split <;> omega)
            have hret : isGit s = false → (Value.bool false = .bool (isGit s) ∧ Fr (fun _ => False) w w) := fun h => ⟨by rw [h], .refl _ _⟩
            rcases hab with ⟨rfl, rfl, hlt2⟩ | ⟨rfl, rfl, hlt2⟩
            · refine ⟨fun h65 => ⟨fun h90 => ?_, fun h90 => hret (bad ?_)⟩, fun h65 => hret (bad ?_)⟩
              · have h65 := of_decide_eq_true h65
                have h90 := of_decide_eq_true h90
                have e2 : IntKind.u8.wrap (IntKind.u8.wrap ((byt s k : Int) + 97) - 65) = ((byt s k + 32 : Nat) : Int) := by rw [wrap_u8 (x := (byt s k : Int) + 97) (by omega) (by omega), wrap_u8 (by omega) (by omega)]; omega
                rw [e2]
                refine ⟨fun he => ⟨step ?_, by dsimp only; omega⟩, fun he => hret (bad ?_)⟩
                · have he := eq_of_beq he
                  unfold low; rw [if_pos (by omega)]; omega
                · have he : byt gitS k ≠ byt s k + 32 := fun e => by rw [e] at he; simp at he
                  omega
              · have := of_decide_eq_false h90; omega
              · have := of_decide_eq_false h65; omega
            · refine ⟨fun h65 => ⟨fun h90 => ?_, fun h90 => hret (bad ?_)⟩, fun h65 => hret (bad ?_)⟩
              · have h65 := of_decide_eq_true h65
                have h90 := of_decide_eq_true h90
                exfalso
                clear step hret bad
                omega
              · exact fun hh => by have := hh.2.2; clear step hret bad hh; omega
              · exact fun hh => by have := hh.2.2; clear step hret bad hh; omega
    · have hge := of_decide_eq_false hge
      rw [hg]
      refine ⟨?_, .refl _ _⟩
      by_cases h4 : s.size = 4
      · have hk : k = 4 := by omega
        have : isGit s = true := isGit_iff.2 ⟨h4, fun j hj => hall j (by omega)⟩
        rw [this, h4]; rfl
      · have : isGit s = false := isGit_no fun h => h4 h.1
        rw [this]
        congr 1
        rw [beq_eq_false_iff_ne]
        omega
  · rintro a b n w14 ⟨rfl, rfl, rfl, k, rfl, hks, hk4, hhi⟩
    have hgc := git_cases hk4
    have hng : isGit a = false := not_git hk4 (by unfold low; split <;> omega)
    rw [Int.toNat_natCast]
    have hxs : (a.extract k a.size).size = a.size - k := by simp
    have hgx : (gitS.extract k gitS.size).size = 4 - k := by rw [ByteArray.size_extract, hg]; omega
    obtain ⟨w15, hr15, hi15, hf15⟩ := iter_new (P := Tryd.prog) (w := w14) (t := 9) (s := a.extract k a.size) (by kernel_rfl)
    refine ⟨⟨by omega, by omega⟩, ⟨by omega, by rw [hg]; omega⟩, w15, _, hr15, fun t w' => t = gitS.extract k gitS.size ∧ w' = w15, fun _ _ => 0, ⟨rfl, rfl⟩, ?_⟩
    rintro t w20 ⟨rfl, rfl⟩
    refine .inr ?_
    have hx0 : byt (a.extract k a.size) 0 = byt a k := by rw [byt_extract (Nat.le_refl _) (by omega), Nat.add_zero]
    obtain ⟨d1, d2, d3, d4, d5⟩ := dec_high (s := a.extract k a.size) (p := 0) (by omega) (by rw [hx0]; exact hhi)
    obtain ⟨w22, hr22, hi22, hf22⟩ := iter_next (P := Tryd.prog) hi15 (show 0 < (a.extract k a.size).size by omega) 0
    have hfr : Fr (fun _ => False) w14 w22 := hf15.trans hf22 fun k' hk' e => by omega
    have ht22 : FoldTab w22 := ht.keep hfr (by simp)
    generalize (Utf8.decode (a.extract k a.size) 0).1 = r at d1 d2 hr22
    refine ⟨w22, _, _, hr22, fun _ => ⟨fun h => ?_, fun _ => ?_⟩, fun h => (by cases h)⟩
    · have := eq_of_beq h; omega
    have hg0 : byt (gitS.extract k gitS.size) 0 = byt gitS k := by rw [byt_extract (Nat.le_refl _) (by rw [hg]; omega), Nat.add_zero]
    refine (decodeLow_spec (gitS.extract k gitS.size) (by omega) (by omega) w22).mono ?_
    rw [hg0]
    rintro e w26 ⟨rfl, hw⟩
    replace hw := hw.symm
    subst hw
    have hret : Value.bool false = .bool (isGit a) ∧ Fr (fun _ => False) w14 w22 := ⟨by rw [hng], hfr⟩
    refine ⟨_, _, rfl, ⟨by decide, by omega⟩, fun h => ?_, fun _ => ⟨fun p q w' => p = (byt gitS k : Nat) ∧ q = (r : Int) ∧ w' = w22, ⟨fun _ => ⟨rfl, rfl, rfl⟩, fun h => ?_⟩, ?_⟩⟩
    · have := eq_of_beq h; omega
    · have := of_decide_eq_false h; omega
    rintro p q w32 ⟨rfl, rfl, hw⟩
    subst hw
    refine ⟨fun h => ?_, fun _ => ?_⟩
    · have := of_decide_eq_true h; omega
    have fold1 : ∃ d : Nat, d < 128 ∧ w32.cell? ⟨G_unicode_asciiFold, byt gitS k, none⟩ = some (.int .u16 (d : Int)) ∧ (d = byt gitS k ∨ (byt gitS k = d + 32 ∧ w32.cell? ⟨G_unicode_asciiFold, d, none⟩ = some (.int .u16 ((byt gitS k : Nat) : Int)))) := by
      rcases hgc with ⟨_, h⟩ | ⟨_, h⟩ | ⟨_, h⟩ | ⟨_, h⟩ <;> rw [h]
      · exact ⟨46, by decide, ht22 46 46 (by decide), .inl rfl⟩
      · exact ⟨71, by decide, ht22 103 71 (by decide), .inr ⟨rfl, ht22 71 103 (by decide)⟩⟩
      · exact ⟨73, by decide, ht22 105 73 (by decide), .inr ⟨rfl, ht22 73 105 (by decide)⟩⟩
      · exact ⟨84, by decide, ht22 116 84 (by decide), .inr ⟨rfl, ht22 84 116 (by decide)⟩⟩
    obtain ⟨d, hd, hcd, hdd⟩ := fold1
    refine (simpleFold_spec (by omega) hd hcd).mono ?_
    rintro e w34 ⟨rfl, hw⟩
    replace hw := hw.symm
    subst hw
    refine ⟨_, rfl, fun n w' => w' = w32 ∧ (n = (d : Int) ∨ n = ((byt gitS k : Nat) : Int)), fun n w' => if n = ((byt gitS k : Nat) : Int) then 0 else 1, ⟨rfl, .inl rfl⟩, ?_⟩
    rintro n w39 ⟨hw, hn⟩
    replace hw := hw.symm
    subst hw
    refine ⟨fun hne => ⟨fun _ => ?_, fun h => ⟨fun h2 => ?_, fun _ => hret⟩⟩, fun heq => ⟨fun h2 => ?_, fun _ => hret⟩⟩
    · have hne : n ≠ ((byt gitS k : Nat) : Int) := fun e => by rw [e] at hne; simp at hne
      have hnd : n = (d : Int) := by omega
      subst hnd
      rcases hdd with hdd | ⟨h32, hc2⟩
      · rw [hdd] at hne; exact absurd rfl hne
      · refine (simpleFold_spec hd (by omega) hc2).mono ?_
        rintro e w41 ⟨rfl, hw⟩
        subst hw
        refine ⟨_, rfl, ⟨rfl, .inr rfl⟩, ?_⟩
        dsimp only
        rw [if_pos rfl, if_neg (by omega)]; decide
    · have := eq_of_beq h2; omega
    · have := eq_of_beq h2
      omega
end Go.Proofs.YtmihbbgojkbaeaaDoor

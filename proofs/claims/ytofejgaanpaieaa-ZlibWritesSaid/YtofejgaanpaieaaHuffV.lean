/- What Code of a table of codes does, and what law 4 takes of a list. -/
import Derived.Test.YtofejgaanpaieaaHuffF
import Derived.Test.YtofejgaanpaieaaGenA
set_option linter.unusedVariables false
namespace Go.Proofs.Ytofejgaanpaieaa
open Go Vc BitsM HuffM Go.Proofs

theorem hcode_spec {w : World} {lo hi b : Nat} {ls : List Nat} (h : Tab w lo hi b ls) (x : Int) :
    Calls Try.prog F_huff_Table_Code #[.pointer (some ⟨b, 0, none⟩), .int .i64 x] w fun e w' =>
      e = .returned (.tuple #[.int .u32 (((cd ls x).1 : Nat) : Int), .int .i64 (((cd ls x).2 : Nat) : Int)]) ∧ w' = w := by
  obtain ⟨l1, l2, ht, hb, hh⟩ := h.at_
  have hfits := h.fits
  have hls := h.small
  refine vc_huff_Table_Code_ok (R := fun v w' => v = .tuple #[.int .u32 (((cd ls x).1 : Nat) : Int), .int .i64 (((cd ls x).2 : Nat) : Int)] ∧ w' = w) ?_ (fun v w' h => ⟨by rw [h.1], h.2⟩)
  have ho1 := ht.o1
  rw [iv_ofNat] at ho1
  have hlen1 : l1.len = ls.length := by rw [ho1.len, List.length_map]
  have none_ : ¬ (0 ≤ x ∧ ls.getD x.toNat 0 ≠ 0) → cd ls x = (0, 0) := fun h => if_neg h
  refine ⟨fun hlt => ?_, fun hge => ⟨l1, ht.c0, fun hgt => ?_, fun hle => ⟨l1, ht.c0, ?_⟩⟩⟩
  · have hlt := of_decide_eq_true hlt
    rw [none_ (by omega)]; exact ⟨rfl, rfl⟩
  · have hge := of_decide_eq_false hge
    have hgt := of_decide_eq_true hgt
    rw [none_ (fun h => h.2 (by rw [List.getD_eq_getElem?_getD, List.getElem?_eq_none (by omega)]; rfl))]; exact ⟨rfl, rfl⟩
  have hge := of_decide_eq_false hge
  have hle := of_decide_eq_false hle
  obtain ⟨q, rfl⟩ := Int.eq_ofNat_of_zero_le (show 0 ≤ x by omega)
  have hq : q < ls.length := by omega
  have hgq : ls[q]? = some (ls.getD q 0) := by rw [List.getD_eq_getElem?_getD, List.getElem?_eq_getElem hq]; rfl
  obtain ⟨y, hy, hcy⟩ := ho1.reads q _ (nv_get hgq)
  refine ⟨⟨by omega, by omega⟩, y, hy, _, by rw [Int.toNat_natCast, Nat.mul_one]; exact hcy, fun h0 => ?_, fun h0 => ?_⟩
  · have h0 : ls.getD q 0 = 0 := by simpa using h0
    rw [none_ (fun h => h.2 (by rw [Int.toNat_natCast]; exact h0))]; exact ⟨rfl, rfl⟩
  have h0 : ls.getD q 0 ≠ 0 := by simpa using h0
  have hcd : cd ls (q : Int) = (code ls q, ls.getD q 0) := by unfold cd; rw [if_pos ⟨by omega, by rw [Int.toNat_natCast]; exact h0⟩, Int.toNat_natCast]
  rw [hcd]
  generalize hN : ls.getD q 0 = N at hgq h0
  have hN15 := hfits.mem hgq
  have hcode : code ls q = 2 * fin ls (N - 1) + (ls.take q).count N := by rw [code, getD_of hgq]
  have ho2 := ht.o2
  have hlen2 : l2.len = (sorted ls 15).length := by rw [ho2.len, List.length_map]
  have hfle : ∀ {m : Nat}, m ≤ 15 → fin ls m ≤ 32768 := fun {m} hm => by
    have := hfits.le hm
    have : 2 ^ m ≤ 2 ^ 15 := Nat.pow_le_pow_right (by decide) hm
    omega
  have hsl := sorted_le ls
  refine ⟨fun cde at_ n w' => w' = w ∧ ∃ m : Nat, m < N ∧ n = (m : Int) + 1 ∧ cde = ((fin ls m : Nat) : Int) ∧ at_ = (((sorted ls m).length : Nat) : Int), fun _ _ n _ => (17 - n).toNat,
    ⟨rfl, 0, by omega, rfl, rfl, rfl⟩, ?_⟩
  rintro cde at_ n w10 ⟨rfl, m, hm, rfl, rfl, rfl⟩
  refine ⟨fun _ => ?_, fun hgt => absurd (of_decide_eq_false hgt) (by omega)⟩
  have htn : ((m : Int) + 1).toNat = m + 1 := by omega
  have hfs : fin ls (m + 1) = 2 * fin ls m + ls.count (m + 1) := rfl
  have hss : (sorted ls (m + 1)).length = (sorted ls m).length + ls.count (m + 1) := by rw [sorted, List.length_append, syms_length]
  have hf1 := hfle (m := m + 1) (by omega)
  have hf0 := hfle (m := m) (by omega)
  have hs1 := hsl (m + 1)
  have e1 : IntKind.u32.wrap (((fin ls m : Nat) : Int) * 2 ^ min (Int.toNat 1) 32) = ((2 * fin ls m : Nat) : Int) := by
    have : (2 : Int) ^ min (Int.toNat 1) 32 = 2 := rfl
    rw [this, wrap_u32 (by omega) (by omega)]; omega
  rw [htn, e1]
  refine ⟨by decide, ⟨by omega, by omega⟩, _, ht.cnt (by omega), ?_⟩
  refine ⟨fun cde at_ j w' => w' = w10 ∧ ∃ k : Nat, k ≤ ls.count (m + 1) ∧ j = (k : Int) ∧ cde = ((2 * fin ls m + k : Nat) : Int) ∧ at_ = (((sorted ls m).length + k : Nat) : Int) ∧ (m + 1 = N → k ≤ (ls.take q).count N), fun _ _ j _ => (((ls.count (m + 1) : Nat) : Int) - j).toNat,
    ⟨rfl, 0, by omega, rfl, rfl, rfl, fun _ => Nat.zero_le _⟩, ?_⟩
  rintro cde at_ j w17 ⟨rfl, k, hk, rfl, rfl, rfl, hkN⟩
  refine ⟨fun hlt => ?_, fun hge => ?_⟩
  · have hlt := of_decide_eq_true hlt
    have hk' : k < (syms ls (m + 1)).length := by rw [syms_length]; omega
    have hsy := List.getElem?_eq_getElem hk'
    generalize (syms ls (m + 1))[k] = s at hsy
    obtain ⟨hs1', hs2⟩ := syms_get hsy
    have hso := sorted_get (by omega) hsy (15 - (m + 1))
    rw [show m + 1 + (15 - (m + 1)) = 15 by omega, Nat.add_sub_cancel] at hso
    obtain ⟨z, hz, hcz⟩ := ho2.reads _ _ (nv_get hso)
    have hsz := hsl 15
    have hso15 := (List.getElem?_eq_some_iff.1 hso).1
    refine ⟨l2, ht.c17, ⟨by omega, by omega⟩, z, hz, _, by rw [Int.toNat_natCast, Nat.mul_one]; exact hcz, fun heq => ?_, fun hne => ?_⟩
    · have heq : s = q := by have : (s : Int) = (q : Int) := by simpa using heq
                             omega
      subst heq
      have : m + 1 = N := by rw [hgq] at hs1'; exact (Option.some.inj hs1').symm
      subst this
      rw [hs2] at hcode
      rw [hcode, Nat.add_sub_cancel]
      exact ⟨rfl, rfl⟩
    · have hne : ¬ s = q := fun h => by subst h; simp at hne
      have e1 : IntKind.u32.wrap (((2 * fin ls m + k : Nat) : Int) + 1) = ((2 * fin ls m + (k + 1) : Nat) : Int) := by rw [wrap_u32 (by omega) (by omega)]; omega
      have e2 : IntKind.i64.wrap ((((sorted ls m).length + k : Nat) : Int) + 1) = (((sorted ls m).length + (k + 1) : Nat) : Int) := by rw [wrap_i64 (by omega) (by omega)]; omega
      have e3 : IntKind.i64.wrap ((k : Int) + 1) = ((k + 1 : Nat) : Int) := by rw [wrap_i64 (by omega) (by omega)]; omega
      rw [e1, e2, e3]
      refine ⟨⟨rfl, k + 1, by omega, rfl, rfl, rfl, fun hmN => ?_⟩, by dsimp only; omega⟩
      have h1 := hkN hmN
      rcases Nat.lt_or_ge k ((ls.take q).count N) with h2 | h2
      · exact h2
      · exfalso
        subst hmN
        have h3 : (ls.take s).count (m + 1) = (ls.take q).count (m + 1) := by omega
        rcases Nat.lt_trichotomy s q with h | h | h
        · have := count_take_step hs1' h; omega
        · exact hne h
        · have := count_take_step hgq h; omega
  · have hge := of_decide_eq_false hge
    have : k = ls.count (m + 1) := by omega
    subst this
    have hmN : m + 1 ≠ N := fun h => by
      have h1 := hkN h
      have h2 := count_take_lt hgq
      subst h; omega
    have e1 : IntKind.i64.wrap ((m : Int) + 1 + 1) = ((m + 1 : Nat) : Int) + 1 := by rw [wrap_i64 (by omega) (by omega)]; omega
    rw [e1]
    exact ⟨⟨rfl, m + 1, by omega, rfl, by rw [hfs], by rw [hss]⟩, by dsimp only; omega⟩
end Go.Proofs.Ytofejgaanpaieaa

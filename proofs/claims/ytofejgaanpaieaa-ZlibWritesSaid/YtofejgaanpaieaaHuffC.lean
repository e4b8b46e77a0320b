/- What Code and Read of a table of codes do, for every table and reader in order. -/
import Derived.Test.YtofejgaanpaieaaHuffT
set_option linter.unusedVariables false
namespace Go.Proofs.Ytofejgaanpaieaa
open Go Vc BitsM HuffM Go.Proofs

/-- A symbol's code and length; nought, nought: it has none. -/
def cd (ls : List Nat) (x : Int) : Nat × Nat := if 0 ≤ x ∧ ls.getD x.toNat 0 ≠ 0 then (code ls x.toNat, ls.getD x.toNat 0) else (0, 0)
theorem nv_get {l : List Nat} {k x : Nat} (h : l[k]? = some x) : (nv l)[k]? = some (.int .i64 (x : Int)) := by simp [nv, h]
theorem iv_ofNat (ls : List Nat) : iv (ls.map Int.ofNat) = nv ls := by simp [iv, nv]
theorem sorted_mono (ls : List Nat) (n : Nat) : ∀ d, (sorted ls n).length ≤ (sorted ls (n + d)).length
  | 0 => Nat.le_refl _
  | d + 1 => by rw [← Nat.add_assoc, sorted, List.length_append]; have := sorted_mono ls n d; omega
theorem sorted_lt {ls : List Nat} {z m : Nat} (hz : z ∈ ls) (hm : m < z) (h15 : z ≤ 15) : (sorted ls m).length < (sorted ls 15).length := by
  have h1 := sorted_mono ls m (z - 1 - m)
  have h2 := sorted_mono ls z (15 - z)
  rw [show m + (z - 1 - m) = z - 1 by omega] at h1
  rw [show z + (15 - z) = 15 by omega] at h2
  obtain ⟨q, rfl⟩ : ∃ q, z = q + 1 := ⟨z - 1, by omega⟩
  have h3 : (sorted ls (q + 1)).length = (sorted ls q).length + ls.count (q + 1) := by rw [sorted, List.length_append, syms_length]
  have h4 : 0 < ls.count (q + 1) := List.count_pos_iff.2 hz
  rw [Nat.add_sub_cancel] at h1; omega
theorem sorted_more {ls : List Nat} {m : Nat} (h : (sorted ls m).length < (sorted ls 15).length) : ∃ z ∈ ls, m < z := by
  rw [sorted_length, sorted_length] at h
  apply Classical.byContradiction
  intro hno
  have : ls.countP (fun x => decide (1 ≤ x ∧ x ≤ 15)) ≤ ls.countP (fun x => decide (1 ≤ x ∧ x ≤ m)) := List.countP_mono_left fun x hx hp => by
    have : x ≤ m := Nat.le_of_not_lt fun hl => hno ⟨x, hx, hl⟩
    simp only [decide_eq_true_eq] at hp ⊢; omega
  omega

/-- What reading the bits B comes to: a symbol, or an error; how many bits are taken. -/
def Res (ls : List Nat) (B : List Bool) (x err n : Nat) : Prop :=
  (err = 0 ∧ HuffM.At ls B x n) ∨ (err = 6 ∧ x = 0 ∧ n = B.length ∧ n < 15 ∧ fin ls n ≤ hv B ∧ ∃ z ∈ ls, n < z) ∨ (err = 3 ∧ x = 0 ∧ n ≤ B.length ∧ n ≤ 15 ∧ fin ls n ≤ hv (B.take n) ∧ ∀ z ∈ ls, z ≤ n)
theorem Res.le {ls : List Nat} {B : List Bool} {x err n : Nat} (h : Res ls B x err n) : n ≤ B.length := by
  rcases h with ⟨_, h⟩ | ⟨_, _, h, _⟩ | ⟨_, _, h, _⟩
  · exact h.2.2.1
  · omega
  · exact h

theorem or_bit (c b : Nat) (hb : b ≤ 1) : (2 * c) ||| b = 2 * c + b := by
  have := Nat.two_pow_add_eq_or_of_lt (i := 1) (b := b) (by omega) c
  simpa using this.symm
theorem shl_or {c b : Nat} (hc : c < 32768) (hb : b ≤ 1) :
    IntKind.i64.wrap (↑((BitVec.ofInt 64 (IntKind.i64.wrap ((c : Int) * 2 ^ min (Int.toNat 1) 64)) ||| BitVec.ofInt 64 (IntKind.i64.wrap (b : Int))).toNat) : Int) = ((2 * c + b : Nat) : Int) := by
  have h2 : (2 : Int) ^ min (Int.toNat 1) 64 = 2 := rfl
  have e : ((c : Int) * 2) = ((2 * c : Nat) : Int) := by omega
  rw [h2, e, wrap_i64 (x := ((2 * c : Nat) : Int)) (by omega) (by omega), wrap_i64 (x := (b : Int)) (by omega) (by omega), or_nat 64 _ _ (by omega) (by omega), or_bit c b hb, wrap_i64 (by omega) (by omega)]

theorem hread_spec {w : World} {lo hi b rb : Nat} {ls : List Nat} (h : Tab w lo hi b ls) {s : ByteArray} {pos : Nat} {from_ : Int} (hr : Rd w rb s pos from_) (hrb : rb < lo ∨ hi ≤ rb) :
    Calls Try.prog F_huff_Table_Read #[.pointer (some ⟨b, 0, none⟩), .pointer (some ⟨rb, 0, none⟩)] w fun e w' =>
      ∃ x err n, e = .returned (.tuple #[.int .i64 ((x : Nat) : Int), .int .i64 ((err : Nat) : Int)]) ∧ Res ls ((sbits s.data.toList).drop pos) x err n ∧ Rd w' rb s (pos + n) from_ ∧ Fr (· = rb) w w' := by
  obtain ⟨l1, l2, ht, hb, hh⟩ := h.at_
  have hfits := h.fits
  have hls := h.small
  refine vc_huff_Table_Read_ok (R := fun v w' => ∃ x err n, v = .tuple #[.int .i64 ((x : Nat) : Int), .int .i64 ((err : Nat) : Int)] ∧ Res ls ((sbits s.data.toList).drop pos) x err n ∧ Rd w' rb s (pos + n) from_ ∧ Fr (· = rb) w w') ?_
    (fun v w' ⟨x, err, n, h⟩ => ⟨x, err, n, by rw [h.1], h.2⟩)
  have hlen2 : l2.len = (sorted ls 15).length := by rw [ht.o2.len, List.length_map]
  have hsl := sorted_le ls
  have hBlen : ((sbits s.data.toList).drop pos).length = left s pos := by
    rw [List.length_drop, sbits_length]; unfold left; simp
  generalize hBd : (sbits s.data.toList).drop pos = B at hBlen
  refine ⟨l2, ht.c17, fun h0 => ?_, fun h0 => ?_⟩
  · have h0 : l2.len = 0 := by have : (l2.len : Int) = 0 := by simpa using h0
                               omega
    refine ⟨0, 3, 0, rfl, .inr (.inr ⟨rfl, rfl, Nat.zero_le _, by decide, by simp [fin], fun z hz => ?_⟩), hr, .refl _ _⟩
    rcases Nat.eq_zero_or_pos z with h | h
    · omega
    · have := sorted_lt hz (m := z - 1) (by omega) (hfits.2 z hz); omega
  have h0 : ¬ l2.len = 0 := fun h => by simp [h] at h0
  refine ⟨fun cde first at_ n w' => ∃ m : Nat, n = (m : Int) + 1 ∧ m ≤ B.length ∧ m ≤ 15 ∧ cde = ((hv (B.take m) : Nat) : Int) ∧ first = ((2 * fin ls m : Nat) : Int) ∧ at_ = (((sorted ls m).length : Nat) : Int) ∧
      fin ls m ≤ hv (B.take m) ∧ (sorted ls m).length < (sorted ls 15).length ∧ Rd w' rb s (pos + m) from_ ∧ Fr (· = rb) w w', fun _ _ _ n _ => (17 - n).toNat,
    ⟨0, rfl, Nat.zero_le _, by decide, rfl, rfl, rfl, by simp [fin], (by show 0 < (sorted ls 15).length; omega), hr, .refl _ _⟩, ?_⟩
  rintro cde first at_ n w8 ⟨m, rfl, hmB, hm15, rfl, rfl, rfl, hge, hmore, hr8, hf8⟩
  have hm14 : m < 15 := by
    rcases Nat.lt_or_ge m 15 with h | h
    · exact h
    · have : m = 15 := by omega
      subst this; omega
  refine ⟨fun _ => ?_, fun hgt => absurd (of_decide_eq_false hgt) (by omega)⟩
  refine (rbits_spec hr8 (n := 1) (by decide)).mono ?_
  rintro e w10 ⟨rfl, hr10, hf10⟩
  have ht10 := ht.keep2 hb hh (hf8.trans' hf10) (fun k h1 h2 h3 => by omega)
  have hlp : left s (pos + m) = B.length - m := by rw [hBlen]; unfold left; omega
  refine ⟨_, _, rfl, fun hno => ?_, fun hyes => ?_⟩
  · have hno : ¬ 1 ≤ left s (pos + m) := by simpa using hno
    rw [if_neg hno] at hr10
    have hmB : m = B.length := by omega
    refine ⟨0, 6, m, rfl, .inr (.inl ⟨rfl, rfl, hmB, hm14, ?_, sorted_more hmore⟩), hr10, hf8.trans' hf10⟩
    subst hmB; rwa [List.take_length] at hge
  have hyes : 1 ≤ left s (pos + m) := by simpa using hyes
  rw [if_pos hyes] at hr10
  have hmlt : m < B.length := by omega
  have hbit : nbits s (pos + m) 1 = B[m].toNat := by
    rw [nbits_list, ← List.drop_drop, hBd, List.drop_eq_getElem_cons hmlt]
    cases B[m] <;> rfl
  have htk : B.take (m + 1) = B.take m ++ [B[m]] := List.take_succ_eq_append_getElem hmlt
  have hhv : hv (B.take (m + 1)) = 2 * hv (B.take m) + B[m].toNat := by rw [htk, hv_snoc]
  have hb1 : B[m].toNat ≤ 1 := Bool.toNat_le _
  have hvl := hv_lt (B.take m)
  have hp : 2 ^ (B.take m).length ≤ 2 ^ 14 := Nat.pow_le_pow_right (by decide) (by rw [List.length_take]; omega)
  have hfle : fin ls (m + 1) ≤ 32768 := by
    have := hfits.le (n := m + 1) (by omega)
    have : 2 ^ (m + 1) ≤ 2 ^ 15 := Nat.pow_le_pow_right (by decide) (by omega)
    omega
  have hfs : fin ls (m + 1) = 2 * fin ls m + ls.count (m + 1) := rfl
  have hss : (sorted ls (m + 1)).length = (sorted ls m).length + ls.count (m + 1) := by rw [sorted, List.length_append, syms_length]
  have hs1 := hsl (m + 1)
  have htn : ((m : Int) + 1).toNat = m + 1 := by omega
  rw [if_pos hyes, hbit, shl_or (by omega) hb1, ← hhv, htn]
  generalize hC : hv (B.take (m + 1)) = C at hhv
  have e1 : IntKind.i64.wrap ((C : Int) - ((2 * fin ls m : Nat) : Int)) = ((C - 2 * fin ls m : Nat) : Int) := by rw [wrap_i64 (by omega) (by omega)]; omega
  rw [e1]
  refine ⟨by decide, ⟨by omega, by omega⟩, _, ht10.cnt (by omega), fun hlt => ?_, fun hge2 => ?_⟩
  · have hlt := of_decide_eq_true hlt
    have hk' : C - 2 * fin ls m < (syms ls (m + 1)).length := by rw [syms_length]; omega
    have hsy := List.getElem?_eq_getElem hk'
    generalize (syms ls (m + 1))[C - 2 * fin ls m] = x at hsy
    obtain ⟨hs1', hs2⟩ := syms_code hsy
    have hso := sorted_get (by omega) hsy (15 - (m + 1))
    rw [show m + 1 + (15 - (m + 1)) = 15 by omega, Nat.add_sub_cancel] at hso
    obtain ⟨z, hz, hcz⟩ := ht10.o2.reads _ _ (nv_get hso)
    have hso15 := (List.getElem?_eq_some_iff.1 hso).1
    have hsz := hsl 15
    have e2 : IntKind.i64.wrap ((((sorted ls m).length : Nat) : Int) + ((C - 2 * fin ls m : Nat) : Int)) = (((sorted ls m).length + (C - 2 * fin ls m) : Nat) : Int) := by rw [wrap_i64 (by omega) (by omega)]; omega
    rw [e2]
    refine ⟨l2, ht10.c17, ⟨by omega, by omega⟩, z, hz, _, by rw [Int.toNat_natCast, Nat.mul_one]; exact hcz, x, 0, m + 1, rfl, .inl ⟨rfl, hs1', by omega, by omega, ?_⟩, hr10, hf8.trans' hf10⟩
    rw [hC, hs2, Nat.add_sub_cancel]; omega
  · have hge2 := of_decide_eq_false hge2
    have e2 : IntKind.i64.wrap ((((sorted ls m).length : Nat) : Int) + ((ls.count (m + 1) : Nat) : Int)) = (((sorted ls (m + 1)).length : Nat) : Int) := by rw [wrap_i64 (by omega) (by omega)]; omega
    have h2 : (2 : Int) ^ min (Int.toNat 1) 64 = 2 := rfl
    have e3 : IntKind.i64.wrap (IntKind.i64.wrap (((2 * fin ls m : Nat) : Int) + ((ls.count (m + 1) : Nat) : Int)) * 2 ^ min (Int.toNat 1) 64) = ((2 * fin ls (m + 1) : Nat) : Int) := by
      rw [h2, wrap_i64 (x := _ + _) (by omega) (by omega), wrap_i64 (by omega) (by omega)]; omega
    have e4 : IntKind.i64.wrap ((m : Int) + 1 + 1) = ((m + 1 : Nat) : Int) + 1 := by rw [wrap_i64 (by omega) (by omega)]; omega
    have hge' : fin ls (m + 1) ≤ hv (B.take (m + 1)) := by rw [hC]; omega
    refine ⟨⟨by omega, by omega⟩, _, ht10.cnt (by omega), ⟨by omega, by omega⟩, _, ht10.cnt (by omega), by decide, l2, ht10.c17, ?_⟩
    rw [e2, e3, e4]
    refine ⟨fun heq => ?_, fun hne => ?_⟩
    · have heq : (((sorted ls (m + 1)).length : Nat) : Int) = (l2.len : Int) := by simpa using heq
      refine ⟨0, 3, m + 1, rfl, .inr (.inr ⟨rfl, rfl, by omega, by omega, hge', fun z hz => ?_⟩), hr10, hf8.trans' hf10⟩
      rcases Nat.lt_or_ge (m + 1) z with h | h
      · have := sorted_lt hz h (hfits.2 z hz); omega
      · exact h
    · have hne : ¬ (((sorted ls (m + 1)).length : Nat) : Int) = (l2.len : Int) := by simpa using hne
      have hmono := sorted_mono ls (m + 1) (15 - (m + 1))
      rw [show m + 1 + (15 - (m + 1)) = 15 by omega] at hmono
      exact ⟨⟨m + 1, rfl, by omega, by omega, by rw [hC], rfl, rfl, hge', by omega, hr10, hf8.trans' hf10⟩, by dsimp only; omega⟩
end Go.Proofs.Ytofejgaanpaieaa

/- Inflate: what it answers, for every text, place and limit. Condition: the text is one that Go can hold. -/
import Derived.Test.YtofejgaanpaieaaInfH
set_option linter.unusedVariables false
namespace Go.Proofs.Ytofejgaanpaieaa
open Go Vc BitsM HuffM Go.Proofs

/-- The three answers. -/
def ans3 (r : List UInt8 × Nat × Nat) : Value := .tuple #[.string ⟨r.1.toArray⟩, .int .i64 (r.2.1 : Int), .int .i64 (r.2.2 : Int)]
theorem infl_spec' (s : ByteArray) (hs : s.size ≤ 140737488351232) (at_ most : Int) (w : World) :
    Calls Try.prog F_inflate_Inflate #[.string s, .int .i64 at_, .int .i64 most] w fun e w' => e = .returned (ans3 (InfM.inflate s.data.toList at_ most)) ∧ ((InfM.inflate s.data.toList at_ most).2.2 = 0 → ((InfM.inflate s.data.toList at_ most).1.length : Int) ≤ most ∧ ∃ x, InfM.inf most.toNat (sbits (s.data.toList.drop at_.toNat)) = .ok x) ∧ Fr (fun _ => False) w w' := by
  refine vc_inflate_Inflate_ok (R := fun v w' => v = ans3 (InfM.inflate s.data.toList at_ most) ∧ ((InfM.inflate s.data.toList at_ most).2.2 = 0 → ((InfM.inflate s.data.toList at_ most).1.length : Int) ≤ most ∧ ∃ x, InfM.inf most.toNat (sbits (s.data.toList.drop at_.toNat)) = .ok x) ∧ Fr (fun _ => False) w w') ?_ (fun v w' h => ⟨by rw [h.1], h.2⟩)
  have hsl : (s.data.toList.length : Int) = (s.size : Int) := by simp
  have bad : (at_ < 0 ∨ (s.size : Int) < at_ ∨ most < 0 ∨ 65536 < most) → InfM.inflate s.data.toList at_ most = ([], 0, 1) := fun h => by
    unfold InfM.inflate; rw [hsl, if_pos h]
  refine ⟨fun h1 => ?_, fun h1 => ⟨fun h2 => ?_, fun h2 => ⟨fun h3 => ?_, fun h3 => ⟨fun h4 => ?_, fun h4 => ?_⟩⟩⟩⟩
  · rw [bad (.inl (of_decide_eq_true h1))]; exact ⟨rfl, fun h => (by cases h), .refl _ _⟩
  · rw [bad (.inr (.inl (of_decide_eq_true h2)))]; exact ⟨rfl, fun h => (by cases h), .refl _ _⟩
  · rw [bad (.inr (.inr (.inl (of_decide_eq_true h3))))]; exact ⟨rfl, fun h => (by cases h), .refl _ _⟩
  · rw [bad (.inr (.inr (.inr (of_decide_eq_true h4))))]; exact ⟨rfl, fun h => (by cases h), .refl _ _⟩
  have h1 := of_decide_eq_false h1
  have h2 := of_decide_eq_false h2
  have h3 := of_decide_eq_false h3
  have h4 := of_decide_eq_false h4
  obtain ⟨off, rfl⟩ : ∃ off : Nat, at_ = (off : Int) := ⟨at_.toNat, by omega⟩
  obtain ⟨mo, rfl⟩ : ∃ mo : Nat, most = (mo : Int) := ⟨most.toNat, by omega⟩
  have good : InfM.inflate s.data.toList off mo = match InfM.inf mo (bitsFrom s off) with
      | .error e => ([], 0, e)
      | .ok (out, p) => (out, (p + 7) / 8, 0) := by
    unfold InfM.inflate
    rw [hsl, if_neg (by omega), Int.toNat_natCast, Int.toNat_natCast, sbits_drop]
    rfl
  rw [good]
  refine (rnew_spec hs off w).mono ?_
  rw [Int.toNat_natCast, show min off s.size = off by omega]
  rintro e w2 ⟨rfl, hr, hf2⟩
  refine ⟨_, rfl, fun w4 h4' => ?_⟩
  have hlt := hr.lt
  have hf4 : Fr (fun _ => False) w2 w4 := h4' ▸ Fr.alloc _ _ _
  have hst : St w4 (w2.heap.size + 1) w2.heap.size w.heap.size ⟨none, 0, 0⟩ s off 0 [] mo :=
    ⟨by rw [h4']; exact alloc_new _ _, .nil _ _ _, hr.keep hf4 (by simp), by omega, by omega, by omega, by rw [h4']; simp, Nat.zero_le _, by omega⟩
  refine (run_spec hst (base0 := w.heap.size) (by omega) (Nat.le_refl _)).mono ?_
  rintro e w6 ⟨err, rfl, hf6, hres⟩
  have hfin : Fr (fun _ => False) w w6 := (hf2.trans' hf4).trans hf6 fun k hk h => by omega
  cases hi : InfM.inf mo (bitsFrom s off) with
  | error er =>
    rw [hi] at hres
    obtain ⟨rfl, hne⟩ := hres
    refine ⟨_, rfl, fun _ => ⟨rfl, fun h => absurd h hne, hfin⟩, fun hh => ?_⟩
    exact absurd hh (by simpa using hne)
  | ok x =>
    obtain ⟨out, p⟩ := x
    rw [hi] at hres
    obtain ⟨rfl, sl', h6⟩ := hres
    refine ⟨_, rfl, fun hh => (by simp at hh), fun _ w8 d8 => ?_⟩
    have h8 := h6.drew d8
    refine ⟨fun w' => Drew w8 w', .refl _, _, fun w' d => (h8.drew d).c1, _, fun w' d => (h8.drew d).c0, ⟨out.toArray⟩, fun w' d => ?_, ?_⟩
    · exact bytes_str (e := T_uint8) (by kernel_rfl) (by kernel_rfl) (by kernel_rfl) sl'.cap (h8.drew d).own.reads (h8.drew d).len.symm
    refine (used_spec h8.rd (by omega) (by omega)).mono ?_
    rintro e w17 ⟨rfl, d17⟩
    refine ⟨_, rfl, d17, ?_, fun _ => ⟨(by have := h8.fit; dsimp only; omega), (out, p), (by rw [Int.toNat_natCast, sbits_drop]; exact hi)⟩, (hfin.trans' (.drew _ d8)).trans' (.drew _ d17)⟩
    unfold ans3
    have : (((8 * off + p + 7) / 8 : Nat) : Int) - (off : Int) = (((p + 7) / 8 : Nat) : Int) := by omega
    rw [this]
    rfl

theorem infl_spec (s : ByteArray) (hs : s.size ≤ 140737488351232) (at_ most : Int) (w : World) :
    Calls Try.prog F_inflate_Inflate #[.string s, .int .i64 at_, .int .i64 most] w fun e w' => e = .returned (ans3 (InfM.inflate s.data.toList at_ most)) ∧ ((InfM.inflate s.data.toList at_ most).2.2 = 0 → ((InfM.inflate s.data.toList at_ most).1.length : Int) ≤ most) ∧ Fr (fun _ => False) w w' :=
  (infl_spec' s hs at_ most w).mono fun e w' h => ⟨h.1, fun h0 => (h.2.1 h0).1, h.2.2⟩

theorem awake_a : InfM.inflate [75, 4, 0] 0 9 = ([97], 3, 0) := by
  have hs1 : InfM.sym InfM.fixedLit (sbits [75, 4, 0]) 3 = .ok (97, 3 + 8) := InfM.sym_at (by unfold HuffM.At; decide +kernel)
  have hs2 : InfM.sym InfM.fixedLit (sbits [75, 4, 0]) 11 = .ok (256, 11 + 7) := InfM.sym_at (by unfold HuffM.At; decide +kernel)
  have ht : InfM.take (sbits [75, 4, 0]) 3 0 = .ok (3, 3) := by kernel_rfl
  have hl : (sbits [75, 4, 0]).length = 24 := by rw [sbits_length]; rfl
  have hd : sbits (([75, 4, 0] : List UInt8).drop (0 : Int).toNat) = sbits [75, 4, 0] := rfl
  unfold InfM.inflate InfM.inf
  rw [if_neg (by decide), hd]
  generalize sbits [75, 4, 0] = B at hs1 hs2 ht hl
  have hp : ∀ DD, InfM.packed InfM.fixedLit DD 9 B (24 + 1) 3 [] = .ok ([97], 18) := fun DD => by
    rw [InfM.packed, hs1]
    simp only
    rw [if_neg (by decide), if_pos (by decide), if_neg (by decide), InfM.packed, hs2]
    simp only
    rw [if_pos trivial]
    rfl
  have hb : InfM.block 9 B (3 / 2) 3 [] = .ok ([97], 18) := by
    rw [InfM.block, if_neg (by decide), if_pos (by decide), hl]
    exact hp _
  rw [hl, InfM.blocks, ht]
  simp only
  rw [show ((9 : Int).toNat) = 9 from rfl, hb]
  rfl
theorem awake_7 : InfM.inflate [7] 0 9 = ([], 0, 3) := by
  have ht : InfM.take (sbits [7]) 3 0 = .ok (7, 3) := by kernel_rfl
  have hl : (sbits [7]).length = 8 := by rw [sbits_length]; rfl
  have hd : sbits (([7] : List UInt8).drop (0 : Int).toNat) = sbits [7] := rfl
  unfold InfM.inflate InfM.inf
  rw [if_neg (by decide), hd]
  generalize sbits [7] = B at ht hl
  rw [hl, InfM.blocks, ht]
  rfl
end Go.Proofs.Ytofejgaanpaieaa

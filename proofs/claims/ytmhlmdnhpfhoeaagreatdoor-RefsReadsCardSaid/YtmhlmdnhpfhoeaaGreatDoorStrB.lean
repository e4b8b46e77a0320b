/- Go's text functions of this seat: IndexRune, IndexAny and ContainsAny where what is looked for is ASCII; any text. -/
import Derived.Test.YtmhlmdnhpfhoeaaGreatDoorStrA
import Derived.Shelf.Strings.IndexAnyAll
set_option linter.unusedVariables false
namespace Go.Proofs.YtmhlmdnhpfhoeaaGreatDoor
open Go Vc Go.Proofs

theorem validRune_spec (r : Int) (w : World) : Calls Tryz.prog F_utf8_ValidRune #[.int .i32 r] w fun e w' => (∃ b : Bool, e = .returned (.bool b)) ∧ w' = w := by
  refine vc_utf8_ValidRune_ok (R := fun v w' => (∃ b : Bool, v = .bool b) ∧ w' = w) ?_ (fun v w' ⟨⟨b, h⟩, h2⟩ => ⟨⟨b, by rw [h]⟩, h2⟩)
  have t : ∀ b : Bool, (∃ b' : Bool, Value.bool b = .bool b') ∧ w = w := fun b => ⟨⟨b, rfl⟩, rfl⟩
  exact ⟨fun _ => ⟨fun _ => t _, fun _ => ⟨fun _ => ⟨fun _ => t _, fun _ => t _⟩, fun _ => t _⟩⟩, fun _ => ⟨fun _ => ⟨fun _ => t _, fun _ => t _⟩, fun _ => t _⟩⟩
/-- All bytes are ASCII. -/
def Ascii (s : ByteArray) : Prop := ∀ j, j < s.size → byt s j < 128
theorem indexRune_low (s : ByteArray) (r : Nat) (hr : r < 128) (w : World) : Calls Tryz.prog F_strings_IndexRune #[.string s, .int .i32 (r : Int)] w fun e w' => e = .returned (.int .i64 (Lib.indexByte s.data.toList (UInt8.ofNat r))) ∧ w' = w := by
  refine vc_strings_IndexRune_ok (R := fun v w' => v = .int .i64 (Lib.indexByte s.data.toList (UInt8.ofNat r)) ∧ w' = w) ?_ (fun v w' h => ⟨by rw [h.1], h.2⟩)
  refine ⟨fun b w' => b = true ∧ w' = w, ⟨fun _ => ⟨by simp; omega, rfl⟩, fun h => absurd (of_decide_eq_false h) (by omega)⟩, ?_⟩
  rintro b w3 ⟨rfl, rfl⟩
  refine ⟨fun _ => ?_, fun h => by cases h⟩
  rw [wrap_u8 (by omega) (by omega)]
  refine (indexByte_spec s r (by omega) w3).mono ?_
  rintro e w5 ⟨rfl, rfl⟩
  exact ⟨_, rfl, rfl, rfl⟩
theorem ascii_none {s : ByteArray} (hs : Ascii s) {c : UInt8} (hc : 128 ≤ c.toNat) (i j : Nat) (hj : j ≤ s.size) : Lib.indexByte (s.extract i j).data.toList c = -1 := by
  refine fnd_no fun k hk he => ?_
  have hk' : k < j - i := by rw [ByteArray.size_extract] at hk; omega
  rw [byt_extract hj hk'] at he
  have := hs (i + k) (by omega)
  omega
theorem indexRune_high (s : ByteArray) (hs : Ascii s) (hl : s.size ≤ 1000000) (r : Nat) (hr : 128 ≤ r) (hr2 : r ≤ 1114111) (w : World) : Calls Tryz.prog F_strings_IndexRune #[.string s, .int .i32 (r : Int)] w fun e w' => e = .returned (.int .i64 (-1)) ∧ Fr (fun _ => False) w w' := by
  refine vc_strings_IndexRune_ok (R := fun v w' => v = .int .i64 (-1) ∧ Fr (fun _ => False) w w') ?_ (fun v w' h => ⟨by rw [h.1], h.2⟩)
  refine ⟨fun b w' => b = false ∧ w' = w, ⟨fun _ => ⟨by simp; omega, rfl⟩, fun _ => ⟨rfl, rfl⟩⟩, ?_⟩
  rintro b w3 ⟨rfl, rfl⟩
  refine ⟨fun h => (by cases h), fun _ => ⟨fun _ => ?_, fun _ => ?_⟩⟩
  · obtain ⟨w7, hr7, hi7, hf7⟩ := iter_new (P := Tryz.prog) (w := w3) (t := 9) (s := s) (by kernel_rfl)
    refine ⟨w7, _, hr7, fun w' => ∃ p, IsIter w' w3.heap.size s p ∧ p ≤ s.size ∧ Fr (fun _ => False) w3 w', itLeft w3.heap.size, ⟨0, hi7, Nat.zero_le _, hf7⟩, ?_⟩
    rintro w11 ⟨p, hi, hp, hf⟩
    by_cases hps : p < s.size
    · refine .inr ?_
      obtain ⟨w13, hr13, hi13, hf13⟩ := iter_next (P := Tryz.prog) hi hps 0
      have hd := dec_low hps (hs p hps)
      rw [hd] at hr13 hi13
      have hb := hs p hps
      refine ⟨w13, _, _, hr13, fun _ => ⟨fun h => ?_, fun _ => ⟨⟨p + 1, hi13, by omega, hf.trans hf13 fun k hk e => by omega⟩, ?_⟩⟩, fun h => (by cases h)⟩
      · exfalso
        have := eq_of_beq h
        simp only at this
        omega
      · rw [hi13.left, hi.left]; omega
    · exact .inl ⟨w11, iter_end hi (by omega) 0, fun h => (by cases h), fun _ => ⟨rfl, hf⟩⟩
  · refine (validRune_spec _ w3).mono ?_
    rintro e w17 ⟨⟨b, rfl⟩, rfl⟩
    refine ⟨b, rfl, fun _ => ⟨rfl, .refl _ _⟩, fun _ => ?_⟩
    obtain ⟨e1, e2, e3⟩ := enc_high hr
    refine ⟨w17, Utf8.encode r, run_convert_int_string w17 _ _ _ _ (by kernel_rfl) (by kernel_rfl), ?_⟩
    generalize Utf8.encode (r : Int) = t at e1 e2 e3 ⊢
    have ew : IntKind.i64.wrap ((t.size : Int) - 1) = ((t.size - 1 : Nat) : Int) := by rw [wrap_i64 (by omega) (by omega)]; omega
    rw [ew]
    refine ⟨fun i w' => i = ((t.size - 1 : Nat) : Int) ∧ w' = w17, fun _ _ => 0, ⟨rfl, rfl⟩, ?_⟩
    rintro i w24 ⟨rfl, rfl⟩
    refine ⟨fun hlt => ?_, fun _ => ⟨rfl, .refl _ _⟩⟩
    have hlt := of_decide_eq_true hlt
    have hne : (byteAt s ((t.size - 1 : Nat) : Int) != byteAt t ((t.size - 1 : Nat) : Int)) = true := by
      rw [byteAt_nat, byteAt_nat]
      have := hs (t.size - 1) (by omega)
      simp; omega
    refine ⟨fun _ _ => False, ⟨⟨by omega, by omega⟩, ⟨by omega, by omega⟩, fun w26 d26 => ⟨fun _ w27 d27 => ?_, fun h => (by rw [hne] at h; cases h)⟩⟩, fun _ _ h => h.elim⟩
    have ew2 : IntKind.i64.wrap (((t.size - 1 : Nat) : Int) + 1) = ((t.size : Nat) : Int) := by rw [wrap_i64 (by omega) (by omega)]; omega
    rw [ew2]
    refine ⟨fun w' => True, trivial, ⟨by omega, by omega⟩, ⟨by omega, by omega⟩, ?_⟩
    rw [byteAt_nat]
    refine (indexByte_spec _ _ (byt_lt _ _) w27).mono ?_
    rintro e w30 ⟨rfl, hw⟩
    rw [ascii_none hs (by rw [toNat_of _ (byt_lt _ _)]; exact e3) _ _ (Nat.le_refl _)]
    refine ⟨_, rfl, trivial, fun _ => ⟨rfl, ?_⟩, fun h => absurd h (by decide)⟩
    subst hw
    exact (Fr.drew _ d26).trans' (.drew _ d27)
theorem shouldSet_spec (n : Int) (w : World) : Calls Tryz.prog F_strings_shouldUseASCIISet #[.int .i64 n] w fun e w' => e = .returned (.bool (decide (n > 8))) ∧ w' = w :=
  vc_strings_shouldUseASCIISet_ok (R := fun v w' => v = .bool (decide (n > 8)) ∧ w' = w) ⟨rfl, rfl⟩ (fun v w' h => ⟨by rw [h.1], h.2⟩)
theorem indexAny_spec (s cs : ByteArray) (hs : s.size ≤ 4000000000) (h2 : 2 ≤ cs.size) (hl : cs.size ≤ 1000000) (hc : Ascii cs) (w : World) :
    Calls Tryz.prog F_strings_IndexAny #[.string s, .string cs] w fun e w' => e = .returned (.int .i64 (Lib.indexAny s.data.toList cs.data.toList)) ∧ Fr (fun _ => False) w w' := by
  by_cases h8 : 8 < s.size
  · refine (Any.strings_IndexAny_long lays153 (fun w => by kernel_rfl) (by kernel_rfl) s cs w h2 h8 (by omega) (by omega) (fun j b hb => ?_)).mono ?_
    · obtain ⟨h1, h3⟩ := bs_get? hb
      have := hc j h1; omega
    · rintro e w' ⟨rfl, rfl⟩
      exact ⟨rfl, (Fr.alloc _ _ _).trans' (.alloc _ _ _)⟩
  · refine vc_strings_IndexAny_ok (R := fun v w' => v = .int .i64 (Lib.indexAny s.data.toList cs.data.toList) ∧ Fr (fun _ => False) w w') ?_ (fun v w' h => ⟨by rw [h.1], h.2⟩)
    refine ⟨fun h => ?_, fun _ => ⟨fun h => ?_, fun _ => ⟨fun w' => w' = w, ?_, ?_⟩⟩⟩
    · rw [bs_eq] at h
      have := of_decide_eq_true h
      rw [bs_empty] at this; omega
    · have := eq_of_beq h; omega
    · refine (shouldSet_spec _ w).mono ?_
      rintro e w9 ⟨rfl, rfl⟩
      rw [decide_eq_false (show ¬ ((s.size : Int) > 8) by omega)]
      exact ⟨_, rfl, fun h => (by cases h), fun _ => rfl⟩
    · rintro w24 rfl
      obtain ⟨w7, hr7, hi7, hf7⟩ := iter_new (P := Tryz.prog) (w := w24) (t := 9) (s := s) (by kernel_rfl)
      refine ⟨w7, _, hr7, fun w' => ∃ p, IsIter w' w24.heap.size s p ∧ p ≤ s.size ∧ Fr (fun _ => False) w24 w' ∧ Lib.NoAny s.data.toList cs.data.toList p, itLeft w24.heap.size, ⟨0, hi7, Nat.zero_le _, hf7, .zero _ _⟩, ?_⟩
      rintro w11 ⟨p, hi, hp, hf, hn⟩
      by_cases hps : p < s.size
      · refine .inr ?_
        obtain ⟨w13, hr13, hi13, hf13⟩ := iter_next (P := Tryz.prog) hi hps 0
        have hfn : Fr (fun _ => False) w24 w13 := hf.trans hf13 fun k hk e => by omega
        refine ⟨w13, _, _, hr13, fun _ => ?_, fun h => (by cases h)⟩
        by_cases hb : byt s p < 128
        · rw [dec_low hps hb]
          rw [dec_low hps hb] at hi13
          refine (indexRune_low cs (byt s p) hb w13).mono ?_
          rintro e w35 ⟨rfl, rfl⟩
          have hcon := Lib.contains_iff_indexByte cs.data.toList (UInt8.ofNat (byt s p))
          refine ⟨_, rfl, fun h => ⟨?_, hfn⟩, fun h => ⟨⟨p + 1, hi13, by omega, hfn, hn.succ (bs_get hps) ?_⟩, ?_⟩⟩
          · have h := of_decide_eq_true h
            rw [decide_eq_true (show (0 : Int) ≤ Lib.indexByte cs.data.toList (UInt8.ofNat (byt s p)) from h)] at hcon
            rw [Lib.indexAny_hit hn (bs_get hps) hcon]
          · have h := of_decide_eq_false h
            rw [hcon]
            exact decide_eq_false h
          · rw [hi13.left, hi.left]; omega
        · obtain ⟨d1, d2, d3, d4, d5⟩ := dec_high hps (by omega)
          refine (indexRune_high cs hc hl _ d1 d2 w13).mono ?_
          rintro e w35 ⟨rfl, hf35⟩
          refine ⟨_, rfl, fun h => absurd h (by decide), fun h => ⟨⟨_, hi13.keep hf35 (by simp), d4, hfn.trans' hf35, ?_⟩, ?_⟩⟩
          · intro j b hj hb'
            by_cases hjp : j < p
            · exact hn j b hjp hb'
            · obtain ⟨h1, h3⟩ := bs_get? hb'
              have h4 := d5 j (by omega) hj
              refine Bool.eq_false_iff.2 fun hcont => ?_
              obtain ⟨k, hk, hkb⟩ := List.getElem_of_mem (List.contains_iff_mem.1 hcont)
              have := bs_get? (s := cs) (i := k) (c := b) (by rw [List.getElem?_eq_getElem hk, hkb])
              have := hc k this.1
              omega
          · rw [(hi13.keep hf35 (by simp)).left, hi.left]; omega
      · refine .inl ⟨w11, iter_end hi (by omega) 0, fun h => (by cases h), fun _ => ⟨?_, hf⟩⟩
        have : p = s.size := by omega
        subst this
        rw [Lib.indexAny_none (by rw [bs_len]; exact hn)]
theorem containsAny_eq (s cs : List UInt8) : decide (Lib.indexAny s cs ≥ 0) = s.any fun c => cs.contains c := by
  induction s with
  | nil => rfl
  | cons b l ih =>
    have hg := Lib.indexAny_ge cs l
    rw [Lib.indexAny, List.any_cons, ← ih]
    cases hb : cs.contains b
    · simp only [Bool.false_eq_true, if_false, Bool.false_or]
      by_cases h : Lib.indexAny l cs = -1
      · rw [h]; rfl
      · rw [if_neg (by simpa using h)]
        refine decide_eq_decide.2 ?_
        omega
    · simp
theorem containsAny_spec (s cs : ByteArray) (hs : s.size ≤ 4000000000) (h2 : 2 ≤ cs.size) (hl : cs.size ≤ 1000000) (hc : Ascii cs) (w : World) :
    Calls Tryz.prog F_strings_ContainsAny #[.string s, .string cs] w fun e w' => e = .returned (.bool (s.data.toList.any fun c => cs.data.toList.contains c)) ∧ Fr (fun _ => False) w w' := by
  refine vc_strings_ContainsAny_ok (R := fun v w' => v = .bool (s.data.toList.any fun c => cs.data.toList.contains c) ∧ Fr (fun _ => False) w w') ?_ (fun v w' h => ⟨by rw [h.1], h.2⟩)
  refine (indexAny_spec s cs hs h2 hl hc w).mono ?_
  rintro e w2 ⟨rfl, hf⟩
  exact ⟨_, rfl, by rw [containsAny_eq], hf⟩
end Go.Proofs.YtmhlmdnhpfhoeaaGreatDoor

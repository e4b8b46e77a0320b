/- Texts of this seat in one: made by a program of ours. -/
import Derived.Test.YtllegkmadljmaaaGreatDoorCartularyLabelsQ0
import Derived.Test.YtllegkmadljmaaaGreatDoorCartularyLabelsQ1
import Derived.Test.YtllegkmadljmaaaGreatDoorCartularyLabelsQ2
import Derived.Test.YtllegkmadljmaaaGreatDoorCartularyLabelsQ3
import Derived.Test.YtllegkmadljmaaaGreatDoorCartularyLabelsQ4
import Derived.Test.YtllegkmadljmaaaGreatDoorProg
import Derived.Defers
import Derived.Recover
/- A stream of stored blocks: 'Stored' of the program. Condition: the text is no longer than a slice may be. -/
set_option linter.unusedVariables false
namespace SumM
/-- A stored block's first bytes. -/
def shead (f n : Nat) : List UInt8 := [UInt8.ofNat f] ++ (littleB 2 n ++ littleB 2 (65535 - n))
/-- A stream of stored blocks. -/
def storedS (s : List UInt8) : List UInt8 :=
  if h : s.length ≤ 65535 then shead 1 s.length ++ s else shead 0 65535 ++ s.take 65535 ++ storedS (s.drop 65535)
termination_by s.length
decreasing_by simp; omega
theorem storedS_last {s : List UInt8} (h : s.length ≤ 65535) : storedS s = shead 1 s.length ++ s := by rw [storedS, dif_pos h]
theorem storedS_more {s : List UInt8} (h : ¬ s.length ≤ 65535) : storedS s = shead 0 65535 ++ s.take 65535 ++ storedS (s.drop 65535) := by rw [storedS, dif_neg h]
theorem shead_length (f n : Nat) : (shead f n).length = 5 := by simp [shead, littleB_length]
theorem storedS_len : ∀ (n : Nat) (s : List UInt8), s.length = n → (storedS s).length ≤ 2 * n + 5 := fun n => by
  induction n using Nat.strongRecOn with
  | ind n ih =>
    intro s hs
    by_cases h : s.length ≤ 65535
    · rw [storedS_last h, List.length_append, shead_length]; omega
    · have := ih (n - 65535) (by omega) (s.drop 65535) (by rw [List.length_drop]; omega)
      rw [storedS_more h, List.length_append, List.length_append, shead_length, List.length_take]
      omega
end SumM
namespace Go.Proofs.YtllegkmadljmaaaGreatDoor
open Go Vc BitsM SumM Go.Proofs

theorem fill8_head (l : List UInt8) (f : Nat) (h : f ≤ 1) : fill8 (sbits l ++ lowB 3 f) = sbits (l ++ [UInt8.ofNat f]) := by
  unfold fill8
  rw [List.length_append, sbits_length, lowB_length, show 8 * ((8 * l.length + 3 + 7) / 8) - (8 * l.length + 3) = 5 by omega, sbits_append, List.append_assoc]
  congr 1
  rcases (show f = 0 ∨ f = 1 by omega) with rfl | rfl <;> rfl
/-- 'Stored'. -/
theorem stored5_spec (s : ByteArray) (hs : s.size ≤ 100000000) (w : World) :
    Calls Tryz.prog F_inflate_Stored #[.string s] w fun e w' => e = .returned (.string ⟨(storedS s.data.toList).toArray⟩) ∧ Fr (fun _ => False) w w' := by
  refine vc_inflate_Stored_ok (R := fun v w' => v = .string ⟨(storedS s.data.toList).toArray⟩ ∧ Fr (fun _ => False) w w') ?_ (fun v w' h => ⟨by rw [h.1], h.2⟩)
  intro w1 h1
  have hf1 : Fr (fun _ => False) w w1 := h1 ▸ Fr.alloc _ _ _
  have hw1 : Wrt w1 w.heap.size ⟨none, 0, 0⟩ (sbits []) := Wrt.zero (by rw [h1]; exact alloc_new _ _)
  have far : ∀ {w1 w2 : World} {sl : Sl} {l : List Bool}, Fr (fun _ => False) w w1 → Wrt w1 w.heap.size sl l → Fr (WX w.heap.size sl) w1 w2 → Fr (fun _ => False) w w2 := fun h1 hx h2 => h1.trans h2 fun k hk hh => by
    rcases hh with hh | ⟨y, hy, e⟩
    · omega
    · have := (hx.1.own.blk hy).1; omega
  refine ⟨fun t w' => ∃ sl done, Fr (fun _ => False) w w' ∧ Wrt w' w.heap.size sl (sbits done) ∧ done ++ storedS t.data.toList = storedS s.data.toList ∧ t.size ≤ s.size ∧ done.length ≤ 2 * (s.size - t.size), fun t _ => t.size, ⟨_, [], hf1, hw1, rfl, Nat.le_refl _, by simp⟩, ?_⟩
  rintro t w5 ⟨sl, done, hf5, hw5, hdone, hts, hdl⟩
  have htl : t.data.toList.length = t.size := by simp
  obtain ⟨n, hn⟩ : ∃ n, min t.size 65535 = n := ⟨_, rfl⟩
  have en : (if (65535 : Int) < (t.size : Int) then 65535 else (t.size : Int)) = ((n : Nat) : Int) := by split <;> omega
  rw [en]
  obtain ⟨f, hfn⟩ : ∃ f : Nat, f ≤ 1 ∧ (f = 1 ↔ n = t.size) := by
    by_cases h : n = t.size
    · exact ⟨1, by omega, by omega⟩
    · exact ⟨0, by omega, by omega⟩
  refine ⟨fun z w' => z = (f : Int) ∧ w' = w5, ⟨fun h => ⟨?_, rfl⟩, fun h => ⟨?_, rfl⟩⟩, ?_⟩
  · have := eq_of_beq h
    omega
  · have h : ¬ ((n : Int) = (t.size : Int)) := by simpa using h
    omega
  rintro z w8 ⟨rfl, hw⟩
  replace hw := hw.symm
  subst hw
  refine (wbits_spec hw5 (x := f) (n := 3) (by omega) (by omega) (by rw [sbits_length]; omega)).mono ?_
  rintro e w10 ⟨rfl, sl10, hw10, hf10, hs10⟩
  have hf10' := far hf5 hw5 hf10
  refine ⟨rfl, fun w11 d11 => ⟨fun w' => True, trivial, ⟨by omega, by omega⟩, ?_⟩⟩
  have hx : IntKind.i64.wrap (((BitVec.ofInt 64 (n : Int) ^^^ BitVec.ofInt 64 65535).toNat : Nat) : Int) = ((65535 - n : Nat) : Int) := by
    have := xor_nat 64 n 65535 (by omega) (by decide)
    rw [show ((65535 : Nat) : Int) = 65535 from rfl, xor_ones n (by omega)] at this
    rw [this, wrap_i64 (by omega) (by omega)]
  rw [hx, wrap_u64 (x := ((n : Nat) : Int)) (by omega) (by omega), wrap_u64 (x := ((65535 - n : Nat) : Int)) (by omega) (by omega), Int.toNat_natCast]
  have hw11 : Wrt w11 w.heap.size sl10 (sbits done ++ lowB 3 f) := hw10.keep (.drew (fun _ => False) d11) (by simp) (by simp)
  have hf11 := hf10'.trans' (.drew _ d11)
  refine (littleS_spec n 2 (by omega) (by decide) w11).mono ?_
  rintro e w14 ⟨rfl, hf14⟩
  refine ⟨_, rfl, trivial, (littleS_spec (65535 - n) 2 (by omega) (by decide) w14).mono ?_⟩
  rintro e w17 ⟨rfl, hf17⟩
  have hw17 := (hw11.keep hf14 (by simp) (by simp)).keep hf17 (by simp) (by simp)
  have hf17' := (hf11.trans' hf14).trans' hf17
  have h2a : ByteArray.size ⟨(littleB 2 n).toArray⟩ = 2 := by simp [ByteArray.size, littleB_length]
  have h2b : ByteArray.size ⟨(littleB 2 (65535 - n)).toArray⟩ = 2 := by simp [ByteArray.size, littleB_length]
  have hxe : (t.extract 0 n).size = n := by simp; omega
  have hsa : ∀ a b : ByteArray, (a ++ b).size = a.size + b.size := fun a b => by simp
  have htx : ((⟨(littleB 2 n).toArray⟩ : ByteArray) ++ ⟨(littleB 2 (65535 - n)).toArray⟩ ++ t.extract 0 n).data.toList = littleB 2 n ++ littleB 2 (65535 - n) ++ t.data.toList.take n := by
    simp only [ByteArray.data_append, Array.toList_append, extract_list, List.drop_zero, Nat.sub_zero]
  refine ⟨_, rfl, trivial, by rw [h2a, h2b]; omega, by rw [hsa, h2a, h2b, hxe]; omega, ?_⟩
  refine (wbytes_spec hw17 _ (by rw [hsa, hsa, h2a, h2b, hxe, List.length_append, sbits_length, lowB_length]; omega)).mono ?_
  rintro e w20 ⟨rfl, sl20, hw20, hf20, hs20⟩
  have hf20' := far hf17' hw17 hf20
  have hdone2 : fill8 (sbits done ++ lowB 3 f) ++ sbits ((⟨(littleB 2 n).toArray⟩ : ByteArray) ++ ⟨(littleB 2 (65535 - n)).toArray⟩ ++ t.extract 0 n).data.toList = sbits (done ++ shead f n ++ t.data.toList.take n) := by
    rw [htx, fill8_head _ _ hfn.1, ← sbits_append]
    congr 1
    simp [shead]
  rw [hdone2] at hw20
  refine ⟨rfl, ⟨by omega, by omega⟩, fun h1 => ?_, fun hn1 => ?_⟩
  · have h1 : f = 1 := by have := eq_of_beq h1; omega
    have hnt := hfn.2.1 h1
    refine (wtext_spec hw20).mono ?_
    rintro e w22 ⟨rfl, hf22⟩
    refine ⟨_, rfl, ?_, hf20'.trans' hf22⟩
    rw [textOf_sbits, ← hdone, storedS_last (by omega), h1, htl, hnt, List.take_of_length_le (by omega), List.append_assoc]
  · have hn1 : f ≠ 1 := fun hh => by rw [hh] at hn1; simp at hn1
    have hnt : n ≠ t.size := fun hh => hn1 (hfn.2.2 hh)
    have hn5 : n = 65535 := by omega
    have hf0 : f = 0 := by omega
    subst hn5
    subst hf0
    have hex : (t.extract 65535 t.size).data.toList = t.data.toList.drop 65535 := by rw [extract_list, List.take_of_length_le (by simp)]
    have hes : (t.extract 65535 t.size).size = t.size - 65535 := by simp
    refine ⟨⟨sl20, done ++ shead 0 65535 ++ t.data.toList.take 65535, hf20', hw20, ?_, by omega, ?_⟩, by dsimp only; omega⟩
    · rw [hex, ← hdone, storedS_more (s := t.data.toList) (by omega)]
      simp only [List.append_assoc]
    · rw [List.length_append, List.length_append, shead_length, List.length_take, hes]; omega
end Go.Proofs.YtllegkmadljmaaaGreatDoor

/- What Code of a table of codes does, and what law 4 takes of a list. -/
set_option linter.unusedVariables false
namespace Go.Proofs.YtllegkmadljmaaaGreatDoor
open Go Vc BitsM HuffM Go.Proofs

theorem hcode_spec {w : World} {lo hi b : Nat} {ls : List Nat} (h : Tab w lo hi b ls) (x : Int) :
    Calls Tryz.prog F_huff_Table_Code #[.pointer (some ⟨b, 0, none⟩), .int .i64 x] w fun e w' =>
      e = .returned (.tuple #[.int .u32 (((cd ls x).1 : Nat) : Int), .int .i64 (((cd ls x).2 : Nat) : Int)]) ∧ w' = w := by
  obtain ⟨l1, l2, ht, hb, hh⟩ := h.at_
  have hfits := h.fits
  have hls := h.small
  refine vc_huff_Table_Code_ok (R := fun v w' => v = .tuple #[.int .u32 (((cd ls x).1 : Nat) : Int), .int .i64 (((cd ls x).2 : Nat) : Int)] ∧ w' = w) ?_ (fun v w' h => ⟨by rw [h.1], h.2⟩)
  have ho1 := ht.o1
  rw [iv_ofNat] at ho1
  have hlen1 : l1.len = ls.length := by rw [ho1.len, List.length_map]
  have none_ : ¬ (0 ≤ x ∧ ls.getD x.toNat 0 ≠ 0) → cd ls x = (0, 0) := fun h => if_neg h
  refine ⟨fun hlt => ?_, fun hge => ⟨l1, ht.c0, fun hgt => ?_, fun hle => ⟨l1, ht.c0, ?_⟩⟩⟩
  · have hlt := of_decide_eq_true hlt
    rw [none_ (by omega)]; exact ⟨rfl, rfl⟩
  · have hge := of_decide_eq_false hge
    have hgt := of_decide_eq_true hgt
    rw [none_ (fun h => h.2 (by rw [List.getD_eq_getElem?_getD, List.getElem?_eq_none (by omega)]; rfl))]; exact ⟨rfl, rfl⟩
  have hge := of_decide_eq_false hge
  have hle := of_decide_eq_false hle
  obtain ⟨q, rfl⟩ := Int.eq_ofNat_of_zero_le (show 0 ≤ x by omega)
  have hq : q < ls.length := by omega
  have hgq : ls[q]? = some (ls.getD q 0) := by rw [List.getD_eq_getElem?_getD, List.getElem?_eq_getElem hq]; rfl
  obtain ⟨y, hy, hcy⟩ := ho1.reads q _ (nv_get hgq)
  refine ⟨⟨by omega, by omega⟩, y, hy, _, by rw [Int.toNat_natCast, Nat.mul_one]; exact hcy, fun h0 => ?_, fun h0 => ?_⟩
  · have h0 : ls.getD q 0 = 0 := by simpa using h0
    rw [none_ (fun h => h.2 (by rw [Int.toNat_natCast]; exact h0))]; exact ⟨rfl, rfl⟩
  have h0 : ls.getD q 0 ≠ 0 := by simpa using h0
  have hcd : cd ls (q : Int) = (code ls q, ls.getD q 0) := by unfold cd; rw [if_pos ⟨by omega, by rw [Int.toNat_natCast]; exact h0⟩, Int.toNat_natCast]
  rw [hcd]
  generalize hN : ls.getD q 0 = N at hgq h0
  have hN15 := hfits.mem hgq
  have hcode : code ls q = 2 * fin ls (N - 1) + (ls.take q).count N := by rw [code, getD_of hgq]
  have ho2 := ht.o2
  have hlen2 : l2.len = (sorted ls 15).length := by rw [ho2.len, List.length_map]
  have hfle : ∀ {m : Nat}, m ≤ 15 → fin ls m ≤ 32768 := fun {m} hm => by
    have := hfits.le hm
    have : 2 ^ m ≤ 2 ^ 15 := Nat.pow_le_pow_right (by decide) hm
    omega
  have hsl := sorted_le ls
  refine ⟨fun cde at_ n w' => w' = w ∧ ∃ m : Nat, m < N ∧ n = (m : Int) + 1 ∧ cde = ((fin ls m : Nat) : Int) ∧ at_ = (((sorted ls m).length : Nat) : Int), fun _ _ n _ => (17 - n).toNat,
    ⟨rfl, 0, by omega, rfl, rfl, rfl⟩, ?_⟩
  rintro cde at_ n w10 ⟨rfl, m, hm, rfl, rfl, rfl⟩
  refine ⟨fun _ => ?_, fun hgt => absurd (of_decide_eq_false hgt) (by omega)⟩
  have htn : ((m : Int) + 1).toNat = m + 1 := by omega
  have hfs : fin ls (m + 1) = 2 * fin ls m + ls.count (m + 1) := rfl
  have hss : (sorted ls (m + 1)).length = (sorted ls m).length + ls.count (m + 1) := by rw [sorted, List.length_append, syms_length]
  have hf1 := hfle (m := m + 1) (by omega)
  have hf0 := hfle (m := m) (by omega)
  have hs1 := hsl (m + 1)
  have e1 : IntKind.u32.wrap (((fin ls m : Nat) : Int) * 2 ^ min (Int.toNat 1) 32) = ((2 * fin ls m : Nat) : Int) := by
    have : (2 : Int) ^ min (Int.toNat 1) 32 = 2 := rfl
    rw [this, wrap_u32 (by omega) (by omega)]; omega
  rw [htn, e1]
  refine ⟨by decide, ⟨by omega, by omega⟩, _, ht.cnt (by omega), ?_⟩
  refine ⟨fun cde at_ j w' => w' = w10 ∧ ∃ k : Nat, k ≤ ls.count (m + 1) ∧ j = (k : Int) ∧ cde = ((2 * fin ls m + k : Nat) : Int) ∧ at_ = (((sorted ls m).length + k : Nat) : Int) ∧ (m + 1 = N → k ≤ (ls.take q).count N), fun _ _ j _ => (((ls.count (m + 1) : Nat) : Int) - j).toNat,
    ⟨rfl, 0, by omega, rfl, rfl, rfl, fun _ => Nat.zero_le _⟩, ?_⟩
  rintro cde at_ j w17 ⟨rfl, k, hk, rfl, rfl, rfl, hkN⟩
  refine ⟨fun hlt => ?_, fun hge => ?_⟩
  · have hlt := of_decide_eq_true hlt
    have hk' : k < (syms ls (m + 1)).length := by rw [syms_length]; omega
    have hsy := List.getElem?_eq_getElem hk'
    generalize (syms ls (m + 1))[k] = s at hsy
    obtain ⟨hs1', hs2⟩ := syms_get hsy
    have hso := sorted_get (by omega) hsy (15 - (m + 1))
    rw [show m + 1 + (15 - (m + 1)) = 15 by omega, Nat.add_sub_cancel] at hso
    obtain ⟨z, hz, hcz⟩ := ho2.reads _ _ (nv_get hso)
    have hsz := hsl 15
    have hso15 := (List.getElem?_eq_some_iff.1 hso).1
    refine ⟨l2, ht.c17, ⟨by omega, by omega⟩, z, hz, _, by rw [Int.toNat_natCast, Nat.mul_one]; exact hcz, fun heq => ?_, fun hne => ?_⟩
    · have heq : s = q := by have : (s : Int) = (q : Int) := by simpa using heq
                             omega
      subst heq
      have : m + 1 = N := by rw [hgq] at hs1'; exact (Option.some.inj hs1').symm
      subst this
      rw [hs2] at hcode
      rw [hcode, Nat.add_sub_cancel]
      exact ⟨rfl, rfl⟩
    · have hne : ¬ s = q := fun h => by subst h; simp at hne
      have e1 : IntKind.u32.wrap (((2 * fin ls m + k : Nat) : Int) + 1) = ((2 * fin ls m + (k + 1) : Nat) : Int) := by rw [wrap_u32 (by omega) (by omega)]; omega
      have e2 : IntKind.i64.wrap ((((sorted ls m).length + k : Nat) : Int) + 1) = (((sorted ls m).length + (k + 1) : Nat) : Int) := by rw [wrap_i64 (by omega) (by omega)]; omega
      have e3 : IntKind.i64.wrap ((k : Int) + 1) = ((k + 1 : Nat) : Int) := by rw [wrap_i64 (by omega) (by omega)]; omega
      rw [e1, e2, e3]
      refine ⟨⟨rfl, k + 1, by omega, rfl, rfl, rfl, fun hmN => ?_⟩, by dsimp only; omega⟩
      have h1 := hkN hmN
      rcases Nat.lt_or_ge k ((ls.take q).count N) with h2 | h2
      · exact h2
      · exfalso
        subst hmN
        have h3 : (ls.take s).count (m + 1) = (ls.take q).count (m + 1) := by omega
        rcases Nat.lt_trichotomy s q with h | h | h
        · have := count_take_step hs1' h; omega
        · exact hne h
        · have := count_take_step hgq h; omega
  · have hge := of_decide_eq_false hge
    have : k = ls.count (m + 1) := by omega
    subst this
    have hmN : m + 1 ≠ N := fun h => by
      have h1 := hkN h
      have h2 := count_take_lt hgq
      subst h; omega
    have e1 : IntKind.i64.wrap ((m : Int) + 1 + 1) = ((m + 1 : Nat) : Int) + 1 := by rw [wrap_i64 (by omega) (by omega)]; omega
    rw [e1]
    exact ⟨⟨rfl, m + 1, by omega, rfl, by rw [hfs], by rw [hss]⟩, by dsimp only; omega⟩
end Go.Proofs.YtllegkmadljmaaaGreatDoor

/- Streams that are written say their text. Condition: the text is no longer than a slice may be. -/
set_option linter.unusedVariables false
namespace DefM
open BitsM HuffM InfM SumM Go.Proofs.YtllegkmadljmaaaGreatDoor

theorem sym_code {ls : List Nat} (hf : Fits ls) {s n : Nat} (h : ls[s]? = some n) (h1 : 1 ≤ n) (F rest : List Bool) : sym ls (F ++ (cbits ls s ++ rest)) F.length = .ok (s, F.length + n) := by
  refine sym_at ?_
  rw [List.drop_left]
  exact (cbits_prefix hf h h1 _).1 (List.prefix_append ..)
theorem take_low (F rest : List Bool) (n x : Nat) : take (F ++ (lowB n x ++ rest)) n F.length = .ok (x % 2 ^ n, F.length + n) := by
  have h1 : (lowB n x).length = n := lowB_length n x
  unfold take
  rw [if_pos (by simp only [List.length_append, h1]; omega), List.drop_left]
  have : (lowB n x ++ rest).take n = lowB n x := by
    have := List.take_left' (l₁ := lowB n x) (l₂ := rest) h1
    exact this
  rw [this, num_lowB]
theorem copy_take {s : List UInt8} {i back : Nat} (hb : 1 ≤ back) (hi : back ≤ i) (A : List UInt8) : ∀ n, i + n ≤ s.length → (∀ j, j < n → s[i - back + j]? = s[i + j]?) → copy back n (A ++ s.take i) = A ++ s.take (i + n)
  | 0, _, _ => rfl
  | n + 1, hl, hj => by
    rw [copy_succ, copy_take hb hi A n (by omega) fun j h => hj j (by omega)]
    have hlt : i + n < s.length := by omega
    rw [show i + (n + 1) = i + n + 1 by omega, List.take_succ_eq_append_getElem hlt, ← List.append_assoc]
    congr 2
    have h1 : (A ++ s.take (i + n)).length - back = A.length + (i - back + n) := by rw [List.length_append, List.length_take]; omega
    rw [h1, List.getD_eq_getElem?_getD, List.getElem?_append_right (by omega), Nat.add_sub_cancel_left, List.getElem?_take_of_lt (by omega), hj n (by omega), List.getElem?_eq_getElem hlt]
    rfl
/-- These bits are symbols, by the fixed codes, that say the first i bytes. -/
def Enc (s : List UInt8) (i : Nat) (L : List Bool) : Prop := ∀ (F : List Bool) (A : List UInt8) (most : Nat) (rest : List Bool), A.length ≤ most → ∃ k, k ≤ L.length ∧
  ∀ f, packed fixedLit fixedDist most (F ++ (L ++ rest)) (f + k) F.length A = if A.length + i ≤ most then packed fixedLit fixedDist most (F ++ (L ++ rest)) f (F.length + L.length) (A ++ s.take i) else .error 2
theorem enc_zero (s : List UInt8) : Enc s 0 [] := fun F A most rest hA => ⟨0, Nat.le_refl _, fun f => by
  rw [if_pos (by omega), List.take_zero, List.append_nil]; rfl⟩
theorem lit_fits : Fits fixedLit := chk_fits fixedLit_chk
theorem dist_fits : Fits fixedDist := chk_fits fixedDist_chk
theorem lit_get {s : Nat} (h : s < 288) : fixedLit[s]? = some (fixN s) := by
  rw [fixedLit_eq, List.getElem?_map, List.getElem?_range h]; rfl
theorem dist_get {s : Nat} (h : s < 32) : fixedDist[s]? = some 5 := by
  rw [fixedDist_eq, List.getElem?_map, List.getElem?_range h]; rfl
theorem fixN_le (s : Nat) : 7 ≤ fixN s ∧ fixN s ≤ 9 := by unfold fixN; split <;> (try split) <;> omega
theorem lit_len {s : Nat} (h : s < 288) : (cbits fixedLit s).length = fixN s := by rw [cbits_length, getD_of (lit_get h)]
theorem dist_len {s : Nat} (h : s < 32) : (cbits fixedDist s).length = 5 := by rw [cbits_length, getD_of (dist_get h)]
/-- One more step, whatever it is. -/
theorem enc_step {s : List UInt8} {i i2 : Nat} {L X : List Bool} (h : Enc s i L) (hi : i ≤ i2) (hs : i ≤ s.length) (hX : 1 ≤ X.length)
    (step : ∀ (G : List Bool) (A : List UInt8) (most f : Nat) (rest : List Bool), A.length + i ≤ most → packed fixedLit fixedDist most (G ++ (X ++ rest)) (f + 1) G.length (A ++ s.take i) = if A.length + i2 ≤ most then packed fixedLit fixedDist most (G ++ (X ++ rest)) f (G.length + X.length) (A ++ s.take i2) else .error 2) : Enc s i2 (L ++ X) := fun F A most rest hA => by
  obtain ⟨k, hk, hp⟩ := h F A most (X ++ rest) hA
  refine ⟨k + 1, by rw [List.length_append]; omega, fun f => ?_⟩
  rw [List.append_assoc L X rest, show f + (k + 1) = f + 1 + k by omega, hp]
  by_cases hle : A.length + i ≤ most
  · rw [if_pos hle]
    have := step (F ++ L) A most f rest hle
    rw [List.append_assoc F L, List.length_append] at this
    rw [this, List.length_append, Nat.add_assoc]
  · rw [if_neg hle, if_neg (by omega)]
theorem enc_lit {s : List UInt8} {i : Nat} {L : List Bool} (h : Enc s i L) {c : UInt8} (hc : s[i]? = some c) : Enc s (i + 1) (L ++ cbits fixedLit c.toNat) := by
  obtain ⟨hlt, hc'⟩ := List.getElem?_eq_some_iff.1 hc
  have hb := c.toNat_lt
  refine enc_step h (by omega) (by omega) (by rw [lit_len (by omega)]; have := fixN_le c.toNat; omega) fun G A most f rest hle => ?_
  rw [packed, sym_code lit_fits (lit_get (by omega)) (by have := fixN_le c.toNat; omega)]
  dsimp only
  rw [if_neg (by omega), if_pos (by omega), UInt8.ofNat_toNat, lit_len (by omega)]
  have hl : (A ++ s.take i).length = A.length + i := by rw [List.length_append, List.length_take]; omega
  rw [hl]
  by_cases hm : A.length + i = most
  · rw [if_pos hm, if_neg (by omega)]
  · rw [if_neg hm, if_pos (by omega), List.append_assoc, List.take_succ_eq_append_getElem hlt, hc']
/-- The bits of a repeat. -/
def repB (a more d far : Nat) : List Bool := cbits fixedLit (257 + a) ++ (lowB (lenBase a).2 more ++ (cbits fixedDist d ++ lowB (distBase d).2 far))
theorem repB_length {a more d far : Nat} (ha : a ≤ 28) (hd : d ≤ 29) : (repB a more d far).length = fixN (257 + a) + (lenBase a).2 + 5 + (distBase d).2 := by
  unfold repB
  simp only [List.length_append, lit_len (show 257 + a < 288 by omega), dist_len (show d < 32 by omega), lowB_length]
  omega
theorem enc_rep {s : List UInt8} {i : Nat} {L : List Bool} (h : Enc s i L) {a more d far : Nat} (ha : a ≤ 28) (hd : d ≤ 29) (hm : more < 2 ^ (lenBase a).2) (hfar : far < 2 ^ (distBase d).2)
    (hback : (distBase d).1 + far ≤ i) (hn : i + ((lenBase a).1 + more) ≤ s.length) (hj : ∀ j, j < (lenBase a).1 + more → s[i - ((distBase d).1 + far) + j]? = s[i + j]?) : Enc s (i + ((lenBase a).1 + more)) (L ++ repB a more d far) := by
  have hb1 := (distBase_le d hd).1
  refine enc_step h (by omega) (by omega) (by rw [repB_length ha hd]; omega) fun G A most f rest hle => ?_
  have hG1 : G ++ (repB a more d far ++ rest) = G ++ (cbits fixedLit (257 + a) ++ (lowB (lenBase a).2 more ++ (cbits fixedDist d ++ (lowB (distBase d).2 far ++ rest)))) := by
    unfold repB; simp only [List.append_assoc]
  have f1 := sym_code lit_fits (lit_get (show 257 + a < 288 by omega)) (by have := fixN_le (257 + a); omega) G (lowB (lenBase a).2 more ++ (cbits fixedDist d ++ (lowB (distBase d).2 far ++ rest)))
  have f2 := take_low (G ++ cbits fixedLit (257 + a)) (cbits fixedDist d ++ (lowB (distBase d).2 far ++ rest)) (lenBase a).2 more
  have f3 := sym_code dist_fits (dist_get (show d < 32 by omega)) (by omega) (G ++ cbits fixedLit (257 + a) ++ lowB (lenBase a).2 more) (lowB (distBase d).2 far ++ rest)
  have f4 := take_low (G ++ cbits fixedLit (257 + a) ++ lowB (lenBase a).2 more ++ cbits fixedDist d) rest (distBase d).2 far
  simp only [List.append_assoc, List.length_append, lit_len (show 257 + a < 288 by omega), dist_len (show d < 32 by omega), lowB_length, Nat.mod_eq_of_lt hm, Nat.mod_eq_of_lt hfar] at f1 f2 f3 f4
  rw [hG1, repB_length ha hd]
  generalize G ++ (cbits fixedLit (257 + a) ++ (lowB (lenBase a).2 more ++ (cbits fixedDist d ++ (lowB (distBase d).2 far ++ rest)))) = B at f1 f2 f3 f4 ⊢
  rw [packed, f1]
  dsimp only
  rw [if_neg (by omega), if_neg (by omega), rep, if_neg (by omega), show 257 + a - 257 = a by omega, f2]
  dsimp only
  rw [show G.length + (fixN (257 + a)) + (lenBase a).2 = G.length + (fixN (257 + a) + (lenBase a).2) by omega] at *
  rw [f3]
  dsimp only
  rw [if_neg (by omega)]
  rw [show G.length + (fixN (257 + a) + (lenBase a).2) + 5 = G.length + (fixN (257 + a) + ((lenBase a).2 + 5)) by omega] at *
  rw [f4]
  dsimp only
  have hl : (A ++ s.take i).length = A.length + i := by rw [List.length_append, List.length_take]; omega
  rw [hl, if_neg (by omega), copy_take (by omega) hback A _ hn hj]
  by_cases hmm : most < A.length + i + ((lenBase a).1 + more)
  · rw [if_pos hmm, if_neg (by omega)]
  · rw [if_neg hmm, if_pos (by omega)]
    dsimp only
    congr 1
    omega
/-- This stream says this text, at whatever place and behind whatever came out before. -/
def StreamAt (t s : List UInt8) (p : Nat) : Prop := ∀ (F : List Bool) (A : List UInt8) (most : Nat) (back : List UInt8) (f : Nat), F.length % 8 = 0 → A.length ≤ most → t.length < f →
  blocks most (F ++ sbits (t ++ back)) f F.length A = if A.length + s.length ≤ most then .ok (A ++ s, F.length + p) else .error 2
def Stream (t s : List UInt8) : Prop := ∃ p, (p + 7) / 8 = t.length ∧ StreamAt t s p
theorem stream_packed {s : List UInt8} {L : List Bool} (h : Enc s s.length L) : Stream (textOf (lowB 3 3 ++ (L ++ cbits fixedLit 256))) s := by
  refine ⟨3 + (L.length + 7), ?_, fun F A most back f hF hA hf => ?_⟩
  · rw [textOf_length, List.length_append, List.length_append, lowB_length, lit_len (by omega)]
    rfl
  obtain ⟨g, rfl⟩ : ∃ g, f = g + 1 := ⟨f - 1, by omega⟩
  obtain ⟨Z, hZ⟩ : ∃ Z, sbits (textOf (lowB 3 3 ++ (L ++ cbits fixedLit 256)) ++ back) = lowB 3 3 ++ (L ++ (cbits fixedLit 256 ++ Z)) := by
    refine ⟨List.replicate (8 * (((lowB 3 3 ++ (L ++ cbits fixedLit 256)).length + 7) / 8) - (lowB 3 3 ++ (L ++ cbits fixedLit 256)).length) false ++ sbits back, ?_⟩
    rw [sbits_append, sbits_textOf]
    unfold fill8
    simp only [List.append_assoc]
  rw [hZ]
  have ht := take_low F (L ++ (cbits fixedLit 256 ++ Z)) 3 3
  have hs := sym_code lit_fits (lit_get (show 256 < 288 by omega)) (by have := fixN_le 256; omega) (F ++ (lowB 3 3 ++ L)) Z
  obtain ⟨k, hk, hp⟩ := h (F ++ lowB 3 3) A most (cbits fixedLit 256 ++ Z) hA
  have hBl : (F ++ (lowB 3 3 ++ (L ++ (cbits fixedLit 256 ++ Z)))).length = F.length + (3 + (L.length + (7 + Z.length))) := by
    simp only [List.length_append, lowB_length, lit_len (show 256 < 288 by omega)]; rfl
  simp only [List.append_assoc, List.length_append, lowB_length] at hs hp
  generalize F ++ (lowB 3 3 ++ (L ++ (cbits fixedLit 256 ++ Z))) = B at ht hs hp hBl ⊢
  rw [blocks, ht]
  dsimp only
  rw [block, if_neg (by decide), if_pos (by decide), hBl]
  obtain ⟨j, hj⟩ : ∃ j, F.length + (3 + (L.length + (7 + Z.length))) + 1 = j + 1 + k := ⟨F.length + (3 + (L.length + (7 + Z.length))) - k, by omega⟩
  rw [hj, hp]
  by_cases hm : A.length + s.length ≤ most
  · rw [if_pos hm, if_pos hm, packed, show F.length + 3 + L.length = F.length + (3 + L.length) by omega, hs]
    dsimp only
    rw [if_pos rfl]
    dsimp only
    rw [if_pos (by decide), List.take_length]
    congr 2
  · rw [if_neg hm, if_neg hm]
theorem num_little2 (n : Nat) (h : n < 65536) (rest : List UInt8) : num ((sbits (littleB 2 n ++ rest)).take 16) = n := by
  have hl : (sbits (littleB 2 n)).length = 16 := by rw [sbits_length, littleB_length]
  rw [sbits_append]
  have : (sbits (littleB 2 n) ++ sbits rest).take 16 = sbits (littleB 2 n) := List.take_left' hl
  rw [this, show littleB 2 n = [UInt8.ofNat n, UInt8.ofNat (n / 256)] by simp [littleB, List.range_succ]]
  simp only [sbits, List.append_nil, num_append, num_lowB, lowB_length]
  simp
  omega
theorem bytes_here (c rest : List UInt8) : bytesAt (sbits (c ++ rest)) c.length 0 = c := by
  rw [bytesAt_of, List.drop_zero]
  have := bytesOf_sbits [] 0 rfl (c ++ rest) c.length (by rw [List.length_append]; omega)
  rw [List.nil_append, Nat.zero_add] at this
  rw [this, List.take_left]
  rfl
theorem bytesAt_drop (B : List Bool) (n p : Nat) : bytesAt B n p = bytesAt (B.drop p) n 0 := by
  rw [bytesAt_of, bytesAt_of, List.drop_zero]
theorem stored_block {most : Nat} {F : List Bool} {A c rest : List UInt8} {fl f : Nat} (hF : F.length % 8 = 0) (hfl : fl ≤ 1) (hc : c.length ≤ 65535) :
    blocks most (F ++ sbits (shead fl c.length ++ (c ++ rest))) (f + 1) F.length A =
      if A.length + c.length ≤ most then (if fl = 1 then .ok (A ++ c, F.length + 8 * (5 + c.length)) else blocks most (F ++ sbits (shead fl c.length ++ (c ++ rest))) f (F.length + 8 * (5 + c.length)) (A ++ c)) else .error 2 := by
  have hsp : sbits (shead fl c.length ++ (c ++ rest)) = lowB 3 fl ++ (List.replicate 5 false ++ sbits (littleB 2 c.length ++ (littleB 2 (65535 - c.length) ++ (c ++ rest)))) := by
    have hb : sbits [UInt8.ofNat fl] = lowB 3 fl ++ List.replicate 5 false := by rcases (show fl = 0 ∨ fl = 1 by omega) with rfl | rfl <;> rfl
    unfold shead
    rw [List.append_assoc, sbits_append, hb, List.append_assoc, List.append_assoc]
  have ht := take_low F (List.replicate 5 false ++ sbits (littleB 2 c.length ++ (littleB 2 (65535 - c.length) ++ (c ++ rest)))) 3 fl
  rw [← hsp] at ht
  have hX : (F ++ (lowB 3 fl ++ List.replicate 5 false)).length = F.length + 8 := by simp [lowB_length]
  have hd : (F ++ sbits (shead fl c.length ++ (c ++ rest))).drop (F.length + 8) = sbits (littleB 2 c.length ++ (littleB 2 (65535 - c.length) ++ (c ++ rest))) := by
    rw [hsp, ← List.append_assoc (lowB 3 fl), ← List.append_assoc F, ← hX, List.drop_left]
  have hBl : (F ++ sbits (shead fl c.length ++ (c ++ rest))).length = F.length + 8 * (5 + c.length + rest.length) := by
    rw [List.length_append, sbits_length, List.length_append, shead_length, List.length_append]; omega
  have hd2 : (F ++ sbits (shead fl c.length ++ (c ++ rest))).drop (F.length + 8 + 16) = sbits (littleB 2 (65535 - c.length) ++ (c ++ rest)) := by
    rw [← List.drop_drop, hd, show 16 = 8 * 2 from rfl, ← sbits_drop, List.drop_left' (littleB_length 2 _)]
  have hd3 : (F ++ sbits (shead fl c.length ++ (c ++ rest))).drop (F.length + 8 + 32) = sbits (c ++ rest) := by
    rw [show F.length + 8 + 32 = F.length + 8 + 16 + 16 by omega, ← List.drop_drop, hd2, show 16 = 8 * 2 from rfl, ← sbits_drop, List.drop_left' (littleB_length 2 _)]
  have hn1 := num_little2 c.length (by omega) (littleB 2 (65535 - c.length) ++ (c ++ rest))
  have hn2 := num_little2 (65535 - c.length) (by omega) (c ++ rest)
  rw [← hd] at hn1
  rw [← hd2] at hn2
  have hby := bytesAt_drop (F ++ sbits (shead fl c.length ++ (c ++ rest))) c.length (F.length + 8 + 32)
  rw [hd3, bytes_here] at hby
  generalize F ++ sbits (shead fl c.length ++ (c ++ rest)) = B at ht hBl hn1 hn2 hby ⊢
  rw [blocks, ht]
  dsimp only
  have hfl8 : fl % 2 ^ 3 = fl := by omega
  rw [hfl8, block, if_pos (by omega), stored]
  dsimp only
  rw [show (F.length + 3 + 7) / 8 * 8 = F.length + 8 by omega, if_pos (by omega), hn1, hn2, if_neg (by omega), if_pos (by omega), hby]
  by_cases hm : A.length + c.length ≤ most
  · rw [if_neg (by omega), if_pos hm]
    dsimp only
    rw [show F.length + 8 + 32 + 8 * c.length = F.length + 8 * (5 + c.length) by omega]
    by_cases h1 : fl = 1
    · rw [if_pos (by omega), if_pos h1]
    · rw [if_neg (by omega), if_neg h1]
  · rw [if_pos (by omega), if_neg hm]
theorem stream_stored : ∀ (n : Nat) (s : List UInt8), s.length = n → StreamAt (storedS s) s (8 * (storedS s).length) := fun n => by
  induction n using Nat.strongRecOn with
  | ind n ih =>
    intro s hs F A most back f hF hA hf
    obtain ⟨g, rfl⟩ : ∃ g, f = g + 1 := ⟨f - 1, by omega⟩
    by_cases h : s.length ≤ 65535
    · rw [storedS_last h, List.append_assoc, stored_block hF (by decide) h, if_pos rfl, List.length_append, shead_length]
    · have hc : (s.take 65535).length = 65535 := by rw [List.length_take]; omega
      have hb := stored_block (most := most) (F := F) (A := A) (c := s.take 65535) (rest := storedS (s.drop 65535) ++ back) (fl := 0) (f := g) hF (by decide) (by omega)
      rw [hc, if_neg (show ¬ ((0 : Nat) = 1) by decide)] at hb
      have hst := ih (n - 65535) (by omega) (s.drop 65535) (by rw [List.length_drop]; omega)
      have hlen : (storedS s).length = 5 + 65535 + (storedS (s.drop 65535)).length := by
        rw [storedS_more h, List.length_append, List.length_append, shead_length, hc]
      rw [hlen] at hf ⊢
      rw [storedS_more h]
      rw [show shead 0 65535 ++ s.take 65535 ++ storedS (s.drop 65535) ++ back = shead 0 65535 ++ (s.take 65535 ++ (storedS (s.drop 65535) ++ back)) by simp only [List.append_assoc], hb]
      have hF2 : (F ++ sbits (shead 0 65535 ++ s.take 65535)).length = F.length + 8 * (5 + 65535) := by rw [List.length_append, sbits_length, List.length_append, shead_length, hc]
      have h2 := fun hm => hst (F ++ sbits (shead 0 65535 ++ s.take 65535)) (A ++ s.take 65535) most back g (by rw [hF2]; omega) hm (by omega)
      rw [hF2, List.append_assoc, ← sbits_append, List.append_assoc, List.length_append, hc, List.length_drop, List.append_assoc, List.take_append_drop] at h2
      by_cases hm : A.length + 65535 ≤ most
      · rw [if_pos hm, h2 hm]
        by_cases hm2 : A.length + s.length ≤ most
        · rw [if_pos (by omega), if_pos hm2]
          congr 2
          omega
        · rw [if_neg (by omega), if_neg hm2]
      · rw [if_neg hm, if_neg (by omega)]
end DefM
namespace Go.Proofs.YtllegkmadljmaaaGreatDoor
open Go Vc BitsM HuffM InfM SumM Go.Proofs

/-- The last symbol whose base is not above a number. -/
def SymOf (base : Nat → Nat × Nat) (top n a : Nat) : Prop := a ≤ top ∧ (base a).1 ≤ n ∧ (a = top ∨ n < (base (a + 1)).1)
open Classical in
noncomputable def symF (base : Nat → Nat × Nat) (top n : Nat) : Nat := if h : ∃ a, SymOf base top n a then h.choose else 0
theorem symOf_one {base : Nat → Nat × Nat} {top n a b : Nat} (mono : ∀ i j, i < j → j ≤ top → (base i).1 < (base j).1) (h : SymOf base top n a) (h' : SymOf base top n b) : a = b := by
  obtain ⟨h1, h2, h3⟩ := h
  obtain ⟨g1, g2, g3⟩ := h'
  rcases Nat.lt_trichotomy a b with hlt | rfl | hlt
  · rcases h3 with rfl | h3
    · omega
    · by_cases hab : a + 1 = b
      · rw [hab] at h3; omega
      · have := mono (a + 1) b (by omega) g1; omega
  · rfl
  · rcases g3 with rfl | g3
    · omega
    · by_cases hab : b + 1 = a
      · rw [hab] at g3; omega
      · have := mono (b + 1) a (by omega) h1; omega
theorem symF_eq {base : Nat → Nat × Nat} {top n a : Nat} (mono : ∀ i j, i < j → j ≤ top → (base i).1 < (base j).1) (h : SymOf base top n a) : symF base top n = a := by
  have hx : ∃ a, SymOf base top n a := ⟨a, h⟩
  unfold symF
  rw [dif_pos hx]
  exact symOf_one mono hx.choose_spec h
theorem len_mono : ∀ i j, i < j → j ≤ 28 → (lenBase i).1 < (lenBase j).1 := fun i j hi hj => by
  have : ∀ j, j ≤ 28 → ∀ i, i < j → (lenBase i).1 < (lenBase j).1 := by decide +kernel
  exact this j hj i hi
theorem dist_mono : ∀ i j, i < j → j ≤ 29 → (distBase i).1 < (distBase j).1 := fun i j hi hj => by
  have : ∀ j, j ≤ 29 → ∀ i, i < j → (distBase i).1 < (distBase j).1 := by decide +kernel
  exact this j hj i hi
/-- How many bytes are alike. -/
def alike (s : List UInt8) (a i : Nat) : Nat → Nat → Nat
  | 0, m => m
  | f + 1, m => if i + m < s.length ∧ s[a + m]? = s[i + m]? then alike s a i f (m + 1) else m
/-- What is found at a place: how many bytes, how far back, the entries behind. -/
def dfind (s : ByteArray) (i : Nat) (ents : List (ByteArray × Value)) : Nat × Nat × List (ByteArray × Value) :=
  if i + 3 ≤ s.size then
    match mlook ents (s.extract i (i + 3)) with
    | some (.int _ v) => if i - v.toNat ≤ 32768 then (alike s.data.toList v.toNat i 258 0, i - v.toNat, mupd ents (s.extract i (i + 3)) (.int .i64 (i : Int))) else (0, 0, mupd ents (s.extract i (i + 3)) (.int .i64 (i : Int)))
    | _ => (0, 0, mupd ents (s.extract i (i + 3)) (.int .i64 (i : Int)))
  else (0, 0, ents)
/-- One symbol, or one repeat, more. -/
noncomputable def dstep (s : ByteArray) (x : Nat × List Bool × List (ByteArray × Value)) : Nat × List Bool × List (ByteArray × Value) :=
  if (dfind s x.1 x.2.2).1 < 3 then (x.1 + 1, x.2.1 ++ cbits fixedLit (byt s x.1), (dfind s x.1 x.2.2).2.2)
  else (x.1 + (dfind s x.1 x.2.2).1, x.2.1 ++ DefM.repB (symF lenBase 28 (dfind s x.1 x.2.2).1) ((dfind s x.1 x.2.2).1 - (lenBase (symF lenBase 28 (dfind s x.1 x.2.2).1)).1) (symF distBase 29 (dfind s x.1 x.2.2).2.1) ((dfind s x.1 x.2.2).2.1 - (distBase (symF distBase 29 (dfind s x.1 x.2.2).2.1)).1), (dfind s x.1 x.2.2).2.2)
noncomputable def diter (s : ByteArray) : Nat → Nat × List Bool × List (ByteArray × Value)
  | 0 => (0, [], [])
  | n + 1 => dstep s (diter s n)
theorem diter_lt (s : ByteArray) : ∀ n d, (diter s n).1 + d + 1 ≤ (diter s (n + d + 1)).1 := fun n d => by
  have step : ∀ m, (diter s m).1 + 1 ≤ (diter s (m + 1)).1 := fun m => by
    rw [diter, dstep]
    split <;> dsimp only <;> omega
  induction d with
  | zero => exact step n
  | succ d ih => have := step (n + d + 1); rw [show n + (d + 1) + 1 = n + d + 1 + 1 by omega]; omega
theorem diter_one {s : ByteArray} {n m : Nat} (h : (diter s n).1 = (diter s m).1) : n = m := by
  rcases Nat.lt_trichotomy n m with hlt | rfl | hlt
  · have := diter_lt s n (m - n - 1); rw [show n + (m - n - 1) + 1 = m by omega] at this; omega
  · rfl
  · have := diter_lt s m (n - m - 1); rw [show m + (n - m - 1) + 1 = n by omega] at this; omega
open Classical in
/-- The stream that is written. -/
noncomputable def deflT (s : ByteArray) : List UInt8 :=
  if h : ∃ n, (diter s n).1 = s.size then
    (if (textOf (lowB 3 3 ++ (diter s h.choose).2.1 ++ cbits fixedLit 256)).length < (storedS s.data.toList).length then textOf (lowB 3 3 ++ (diter s h.choose).2.1 ++ cbits fixedLit 256) else storedS s.data.toList)
  else []
theorem deflT_eq {s : ByteArray} {n : Nat} {L : List Bool} {ents : List (ByteArray × Value)} (h : diter s n = (s.size, L, ents)) :
    deflT s = if (textOf (lowB 3 3 ++ L ++ cbits fixedLit 256)).length < (storedS s.data.toList).length then textOf (lowB 3 3 ++ L ++ cbits fixedLit 256) else storedS s.data.toList := by
  have hx : ∃ n, (diter s n).1 = s.size := ⟨n, by rw [h]⟩
  unfold deflT
  rw [dif_pos hx]
  have : hx.choose = n := diter_one (hx.choose_spec.trans (by rw [h]))
  rw [this, h]
theorem len_next : ∀ k, k < 28 → (lenBase (k + 1)).1 ≤ (lenBase k).1 + 2 ^ (lenBase k).2 := by decide +kernel
theorem dist_next : ∀ k, k < 29 → (distBase (k + 1)).1 ≤ (distBase k).1 + 2 ^ (distBase k).2 := by decide +kernel
/-- The symbol of a length. -/
theorem symlen_spec {n : Nat} (h3 : 3 ≤ n) (hn : n ≤ 258) (w : World) :
    Calls Tryz.prog F_inflate_symbolOf #[.int .i64 (n : Int), .int .i64 28, .func (.func F_inflate_lengthBase) #[] #[]] w fun e w' => ∃ a more : Nat, e = .returned (.tuple #[.int .i64 (a : Int), .int .u32 (more : Int), .int .i64 (((lenBase a).2 : Nat) : Int)]) ∧
      a ≤ 28 ∧ (lenBase a).1 + more = n ∧ more < 2 ^ (lenBase a).2 ∧ SymOf lenBase 28 n a ∧ w' = w := by
  refine vc_inflate_symbolOf_len_ok (R := fun v w' => ∃ a more : Nat, v = .tuple #[.int .i64 (a : Int), .int .u32 (more : Int), .int .i64 (((lenBase a).2 : Nat) : Int)] ∧ a ≤ 28 ∧ (lenBase a).1 + more = n ∧ more < 2 ^ (lenBase a).2 ∧ SymOf lenBase 28 n a ∧ w' = w) ?_ (fun v w' ⟨a, more, h⟩ => ⟨a, more, by rw [h.1], h.2⟩)
  refine ⟨fun i w' => ∃ k : Nat, i = (k : Int) ∧ k ≤ 28 ∧ (k = 28 ∨ n < (lenBase (k + 1)).1) ∧ w' = w, fun i _ => i.toNat, ⟨28, rfl, by omega, .inl rfl, rfl⟩, ?_⟩
  rintro i w4 ⟨k, rfl, hk, hnext, hw⟩
  replace hw := hw.symm
  subst hw
  refine (lbase_spec k hk w).mono ?_
  rintro e w6 ⟨rfl, hw⟩
  replace hw := hw.symm
  subst hw
  have hb := lenBase_le k hk
  refine ⟨_, _, rfl, fun hle => ?_, fun hgt => ?_⟩
  · have hle := of_decide_eq_true hle
    refine ⟨k, n - (lenBase k).1, ?_, hk, by omega, ?_, ⟨hk, by omega, hnext⟩, rfl⟩
    · rw [wrap_i64 (by omega) (by omega), wrap_u32 (by omega) (by omega), show ((n : Int) - ((lenBase k).1 : Int)) = ((n - (lenBase k).1 : Nat) : Int) by omega]
    · have hp := Nat.two_pow_pos (lenBase k).2
      rcases hnext with rfl | hlt
      · have : (lenBase 28).1 = 258 := rfl
        omega
      · by_cases h28 : k = 28
        · subst h28
          have : (lenBase 28).1 = 258 := rfl
          omega
        · have := len_next k (by omega)
          omega
  · have hgt := of_decide_eq_false hgt
    have h0 : k ≠ 0 := fun hh => by subst hh; have : (lenBase 0).1 = 3 := rfl; omega
    obtain ⟨j, rfl⟩ : ∃ j, k = j + 1 := ⟨k - 1, by omega⟩
    have e1 : IntKind.i64.wrap (((j + 1 : Nat) : Int) - 1) = (j : Int) := by rw [wrap_i64 (by omega) (by omega)]; omega
    rw [e1]
    exact ⟨⟨j, rfl, by omega, .inr (by omega), rfl⟩, by dsimp only; omega⟩
/-- The symbol of a distance. -/
theorem symdist_spec {n : Nat} (h1 : 1 ≤ n) (hn : n ≤ 32768) (w : World) :
    Calls Tryz.prog F_inflate_symbolOf #[.int .i64 (n : Int), .int .i64 29, .func (.func F_inflate_distBase) #[] #[]] w fun e w' => ∃ a more : Nat, e = .returned (.tuple #[.int .i64 (a : Int), .int .u32 (more : Int), .int .i64 (((distBase a).2 : Nat) : Int)]) ∧
      a ≤ 29 ∧ (distBase a).1 + more = n ∧ more < 2 ^ (distBase a).2 ∧ SymOf distBase 29 n a ∧ w' = w := by
  refine vc_inflate_symbolOf_dist_ok (R := fun v w' => ∃ a more : Nat, v = .tuple #[.int .i64 (a : Int), .int .u32 (more : Int), .int .i64 (((distBase a).2 : Nat) : Int)] ∧ a ≤ 29 ∧ (distBase a).1 + more = n ∧ more < 2 ^ (distBase a).2 ∧ SymOf distBase 29 n a ∧ w' = w) ?_ (fun v w' ⟨a, more, h⟩ => ⟨a, more, by rw [h.1], h.2⟩)
  refine ⟨fun i w' => ∃ k : Nat, i = (k : Int) ∧ k ≤ 29 ∧ (k = 29 ∨ n < (distBase (k + 1)).1) ∧ w' = w, fun i _ => i.toNat, ⟨29, rfl, by omega, .inl rfl, rfl⟩, ?_⟩
  rintro i w4 ⟨k, rfl, hk, hnext, hw⟩
  replace hw := hw.symm
  subst hw
  refine (dbase_spec k hk w).mono ?_
  rintro e w6 ⟨rfl, hw⟩
  replace hw := hw.symm
  subst hw
  have hb := distBase_le k hk
  refine ⟨_, _, rfl, fun hle => ?_, fun hgt => ?_⟩
  · have hle := of_decide_eq_true hle
    refine ⟨k, n - (distBase k).1, ?_, hk, by omega, ?_, ⟨hk, by omega, hnext⟩, rfl⟩
    · rw [wrap_i64 (by omega) (by omega), wrap_u32 (by omega) (by omega), show ((n : Int) - ((distBase k).1 : Int)) = ((n - (distBase k).1 : Nat) : Int) by omega]
    · have hp := Nat.two_pow_pos (distBase k).2
      rcases hnext with rfl | hlt
      · have : (distBase 29).1 = 24577 := rfl
        have : 2 ^ (distBase 29).2 = 8192 := rfl
        omega
      · by_cases h28 : k = 29
        · subst h28
          have : (distBase 29).1 = 24577 := rfl
          have : 2 ^ (distBase 29).2 = 8192 := rfl
          omega
        · have := dist_next k (by omega)
          omega
  · have hgt := of_decide_eq_false hgt
    have h0 : k ≠ 0 := fun hh => by subst hh; have : (distBase 0).1 = 1 := rfl; omega
    obtain ⟨j, rfl⟩ : ∃ j, k = j + 1 := ⟨k - 1, by omega⟩
    have e1 : IntKind.i64.wrap (((j + 1 : Nat) : Int) - 1) = (j : Int) := by rw [wrap_i64 (by omega) (by omega)]; omega
    rw [e1]
    exact ⟨⟨j, rfl, by omega, .inr (by omega), rfl⟩, by dsimp only; omega⟩
/-- Deflating, in order. -/
structure DSt (w0 w : World) (b lo hi lb db r : Nat) (sl : Sl) (M : List Bool) (ents : List (ByteArray × Value)) : Prop where
  wr : Wrt w b sl M
  mp : MapOf w r ents
  lit : Tab w lo hi lb fixedLit
  dist : Tab w lo hi db fixedDist
  fr : Fr (fun _ => False) w0 w
  sls : ∀ y, sl.a = some y → hi ≤ y.block ∧ y.block ≠ r
  hb : w0.heap.size ≤ b
  hlo : b < lo
  hhi : hi ≤ r
  hbr : b < r
theorem DSt.wx {w0 w : World} {b lo hi lb db r : Nat} {sl : Sl} {M : List Bool} {ents : List (ByteArray × Value)} (h : DSt w0 w b lo hi lb db r sl M ents) {k : Nat} (hk : WX b sl k) : k = b ∨ (hi ≤ k ∧ k ≠ r) := by
  rcases hk with hk | ⟨y, hy, e⟩
  · exact .inl hk
  · have := h.sls y hy; exact .inr (by omega)
theorem DSt.put {w0 w w2 : World} {b lo hi lb db r : Nat} {sl sl' : Sl} {M M' : List Bool} {ents : List (ByteArray × Value)} (h : DSt w0 w b lo hi lb db r sl M ents) (hw : Wrt w2 b sl' M') (hf : Fr (WX b sl) w w2) (hs : Since w sl sl') : DSt w0 w2 b lo hi lb db r sl' M' ents := by
  have hlo := h.hlo
  have hhi := h.hhi
  have hbr := h.hbr
  refine ⟨hw, h.mp.keep hf fun hx => ?_, h.lit.keep hf fun k h1 h2 hx => ?_, h.dist.keep hf fun k h1 h2 hx => ?_, h.fr.trans hf fun k hk hx => ?_, fun y hy => ?_, h.hb, h.hlo, h.hhi, h.hbr⟩
  · have := h.wx hx; omega
  · have := h.wx hx; omega
  · have := h.wx hx; omega
  · rcases hx with hx | ⟨y, hy, e⟩
    · have := h.hb; omega
    · have := (h.wr.1.own.blk hy).1; have := h.hb; omega
  · rcases hs y hy with ⟨x, hx, he⟩ | hn
    · have := h.sls x hx; omega
    · have := h.mp.lt; omega
theorem DSt.keep {w0 w w2 : World} {b lo hi lb db r : Nat} {sl : Sl} {M : List Bool} {ents : List (ByteArray × Value)} (h : DSt w0 w b lo hi lb db r sl M ents) (hf : Fr (fun _ => False) w w2) : DSt w0 w2 b lo hi lb db r sl M ents :=
  ⟨h.wr.keep hf (by simp) (by simp), h.mp.keep hf (by simp), h.lit.keep hf (by simp), h.dist.keep hf (by simp), h.fr.trans' hf, h.sls, h.hb, h.hlo, h.hhi, h.hbr⟩
theorem DSt.drew {w0 w w2 : World} {b lo hi lb db r : Nat} {sl : Sl} {M : List Bool} {ents : List (ByteArray × Value)} (h : DSt w0 w b lo hi lb db r sl M ents) (d : Drew w w2) : DSt w0 w2 b lo hi lb db r sl M ents := h.keep (.drew _ d)
theorem DSt.map {w0 w w2 : World} {b lo hi lb db r : Nat} {sl : Sl} {M : List Bool} {ents ents' : List (ByteArray × Value)} (h : DSt w0 w b lo hi lb db r sl M ents) (hm : MapOf w2 r ents') (hf : Fr (· = r) w w2) : DSt w0 w2 b lo hi lb db r sl M ents' := by
  have hhi := h.hhi
  have hbr := h.hbr
  have hb := h.hb
  refine ⟨h.wr.keep hf (by omega) (fun y hy => (h.sls y hy).2), hm, h.lit.keep hf (fun k h1 h2 => by omega), h.dist.keep hf (fun k h1 h2 => by omega), h.fr.trans hf fun k hk hx => by omega, h.sls, hb, h.hlo, hhi, hbr⟩
/-- A code put. -/
theorem code_put {w : World} {b : Nat} {sl : Sl} {M : List Bool} (h : Wrt w b sl M) {lo hi tb : Nat} {ls : List Nat} (ht : Tab w lo hi tb ls) {s n : Nat} (hs : ls[s]? = some n) (h1 : 1 ≤ n) (hl : M.length + 32 ≤ 1099511627776) {Q : World → Prop}
    (hQ : ∀ w2 sl', Wrt w2 b sl' (M ++ cbits ls s) → Fr (WX b sl) w w2 → Since w sl sl' → Q w2) :
    Calls Tryz.prog F_huff_Table_Code #[.pointer (some ⟨tb, 0, none⟩), .int .i64 (s : Int)] w fun e w' => ∃ x k : Int, e = .returned (.tuple #[.int .u32 x, .int .i64 k]) ∧
      Calls Tryz.prog F_bitin_Writer_Code #[.pointer (some ⟨b, 0, none⟩), .int .u32 x, .int .i64 k] w' fun e w2 => e = .returned (.tuple #[]) ∧ Q w2 := by
  refine (hcode_spec ht (s : Int)).mono ?_
  rintro e w' ⟨rfl, hw⟩
  replace hw := hw.symm
  subst hw
  have hg : ls.getD s 0 = n := getD_of hs
  have hn15 := ht.fits.mem hs
  have hcd : cd ls (s : Int) = (code ls s, n) := by
    unfold cd
    rw [Int.toNat_natCast, hg, if_pos ⟨by omega, by omega⟩]
  rw [hcd]
  have hc1 := code_lt hs h1
  have hc2 := ht.fits.le hn15
  have hp : 2 ^ n ≤ 2 ^ 15 := Nat.pow_le_pow_right (by decide) hn15
  refine ⟨_, _, rfl, (wcode_spec h (x := code ls s) (n := n) (by omega) h1 (by omega) (by omega)).mono ?_⟩
  rintro e w2 ⟨rfl, sl', hw', hf, hsn⟩
  refine ⟨rfl, hQ w2 sl' ?_ hf hsn⟩
  unfold cbits
  rw [hg]
  exact hw'
theorem get_byt {s : ByteArray} {i : Nat} (h : i < s.size) : s.data.toList[i]? = some (UInt8.ofNat (byt s i)) := by
  have hlt : i < s.data.toList.length := by simp only [Array.length_toList]; exact h
  rw [List.getElem?_eq_getElem hlt]
  unfold byt
  rw [List.getElem?_eq_getElem hlt]
  simp
/-- What stands under every key is a place before this one. -/
def Before (ents : List (ByteArray × Value)) (i : Nat) : Prop := ∀ x ∈ ents, ∃ v : Nat, x.2 = .int .i64 (v : Int) ∧ v < i
theorem Before.upd {ents : List (ByteArray × Value)} {i : Nat} (h : Before ents i) (k : ByteArray) : Before (mupd ents k (.int .i64 (i : Int))) (i + 1) :=
  mupd_all ⟨i, rfl, by omega⟩ ents fun x hx => by obtain ⟨v, h1, h2⟩ := h x hx; exact ⟨v, h1, by omega⟩
theorem Before.more {ents : List (ByteArray × Value)} {i j : Nat} (h : Before ents i) (hj : i ≤ j) : Before ents j := fun x hx => by
  obtain ⟨v, h1, h2⟩ := h x hx; exact ⟨v, h1, by omega⟩
/-- 'Deflate'. -/
theorem deflate_spec (s : ByteArray) (hs : s.size ≤ 100000000) (w : World) :
    Calls Tryz.prog F_inflate_Deflate #[.string s] w fun e w' => e = .returned (.string ⟨(deflT s).toArray⟩) ∧ DefM.Stream (deflT s) s.data.toList ∧ (deflT s).length ≤ (storedS s.data.toList).length ∧ Fr (fun _ => False) w w' := by
  refine vc_inflate_Deflate_ok (R := fun v w' => v = .string ⟨(deflT s).toArray⟩ ∧ DefM.Stream (deflT s) s.data.toList ∧ (deflT s).length ≤ (storedS s.data.toList).length ∧ Fr (fun _ => False) w w') ?_ (fun v w' h => ⟨by rw [h.1], h.2⟩)
  have hsl : s.data.toList.length = s.size := by simp
  intro w1 h1
  have hf1 : Fr (fun _ => False) w w1 := h1 ▸ Fr.alloc _ _ _
  have hw1 : Wrt w1 w.heap.size ⟨none, 0, 0⟩ [] := Wrt.zero (by rw [h1]; exact alloc_new _ _)
  have hs1 : w1.heap.size = w.heap.size + 1 := by rw [h1]; exact Array.size_push ..
  refine (fixed_spec w1).mono ?_
  rintro e w3 ⟨lb, db, rfl, hlit, hdist, hf3⟩
  have hs3 := hf3.size
  refine ⟨_, _, rfl, ?_⟩
  refine (wbits_spec (hw1.keep hf3 (by simp) (by simp)) (x := 3) (n := 3) (by decide) (by decide) (by simp)).mono ?_
  rintro e w7 ⟨rfl, sl7, hw7, hf7, hs7⟩
  refine ⟨rfl, fun w8 h8 => ?_⟩
  have hs7s := hf7.size
  have hf8 : Fr (fun _ => False) w7 w8 := h8 ▸ Fr.alloc _ _ _
  have hsl7 : ∀ y, sl7.a = some y → w3.heap.size ≤ y.block := fun y hy => by
    rcases hs7 y hy with ⟨x, hx, _⟩ | hn
    · cases hx
    · exact hn
  have hwx : ∀ k, WX w.heap.size ⟨none, 0, 0⟩ k → k = w.heap.size := fun k hk => by
    rcases hk with hk | ⟨y, hy, _⟩
    · exact hk
    · cases hy
  have hD0 : DSt w w8 w.heap.size w1.heap.size w3.heap.size lb db w7.heap.size sl7 (lowB 3 3) [] := by
    refine ⟨hw7.keep hf8 (by simp) (by simp), h8 ▸ MapOf.new, ?_, ?_, ?_, fun y hy => ⟨hsl7 y hy, ?_⟩, Nat.le_refl _, by omega, hs7s, by omega⟩
    · exact (hlit.keep hf7 fun k h1 h2 hx => by have := hwx k hx; omega).keep hf8 (by simp)
    · exact (hdist.keep hf7 fun k h1 h2 hx => by have := hwx k hx; omega).keep hf8 (by simp)
    · exact ((hf1.trans' hf3).trans hf7 fun k hk hx => by have := hwx k hx; omega).trans' hf8
    · have := (hw7.1.own.blk hy).2; omega
  generalize w7.heap.size = r at *
  generalize w.heap.size = b at *
  generalize w1.heap.size = lo at *
  generalize w3.heap.size = hi at *
  refine ⟨fun i w' => ∃ (k : Nat) (sl : Sl) (L : List Bool) (ents : List (ByteArray × Value)), i = (k : Int) ∧ k ≤ s.size ∧ DSt w w' b lo hi lb db r sl (lowB 3 3 ++ L) ents ∧ DefM.Enc s.data.toList k L ∧ L.length ≤ 32 * k ∧ Before ents k ∧ ∃ it, diter s it = (k, L, ents),
    fun i _ => s.size - i.toNat, ⟨0, sl7, [], [], rfl, Nat.zero_le _, hD0, DefM.enc_zero _, Nat.le_refl _, (by intro x hx; cases hx), 0, rfl⟩, ?_⟩
  rintro i w12 ⟨k, sl, L, ents, rfl, hk, hD, hE, hL, hB, it, hit⟩
  have hLl : (lowB 3 3 ++ L).length = 3 + L.length := by rw [List.length_append, lowB_length]
  refine ⟨fun hlt => ?_, fun hge => ?_⟩
  rotate_left 1
  · have hge := of_decide_eq_false hge
    have hkk : k = s.size := by omega
    subst hkk
    refine code_put hD.wr hD.lit (s := 256) (DefM.lit_get (by omega)) (by decide) (by omega) fun w69 sl69 hw69 hf69 hs69 => ?_
    have hD69 := hD.put hw69 hf69 hs69
    refine (wtext_spec hw69).mono ?_
    rintro e w71 ⟨rfl, hf71⟩
    refine ⟨_, rfl, ?_⟩
    have hst := DefM.stream_packed (L := L) (s := s.data.toList) (by rw [hsl]; exact hE)
    rw [← List.append_assoc] at hst
    have hdt := deflT_eq hit
    generalize textOf (lowB 3 3 ++ L ++ cbits fixedLit 256) = t at hst hdt
    have hfin := hD69.fr.trans' hf71
    have hsz : ∀ l : List UInt8, ByteArray.size ⟨l.toArray⟩ = l.length := fun l => by simp [ByteArray.size]
    refine (stored5_spec s hs w71).mono ?_
    rintro e w74 ⟨rfl, hf74⟩
    refine ⟨_, rfl, fun hlt => ?_, fun hge => ?_⟩
    · have hlt := of_decide_eq_true hlt
      rw [hsz, hsz] at hlt
      rw [if_pos (by omega)] at hdt
      rw [hdt]
      exact ⟨rfl, hst, by omega, hfin.trans' hf74⟩
    · have hge := of_decide_eq_false hge
      rw [hsz, hsz] at hge
      rw [if_neg (by omega)] at hdt
      rw [hdt]
      refine (stored5_spec s hs w74).mono ?_
      rintro e w77 ⟨rfl, hf77⟩
      exact ⟨_, rfl, rfl, ⟨8 * (storedS s.data.toList).length, by omega, DefM.stream_stored _ _ rfl⟩, Nat.le_refl _, (hfin.trans' hf74).trans' hf77⟩
  have hlt := of_decide_eq_true hlt
  have hks : k < s.size := by omega
  have e3 : IntKind.i64.wrap ((k : Int) + 3) = ((k + 3 : Nat) : Int) := by rw [wrap_i64 (by omega) (by omega)]; omega
  -- what is found
  refine ⟨fun n back w' => ∃ (m q : Nat) (ents' : List (ByteArray × Value)), n = (m : Int) ∧ back = (q : Int) ∧ DSt w w' b lo hi lb db r sl (lowB 3 3 ++ L) ents' ∧ Before ents' (k + 1) ∧ dfind s k ents = (m, q, ents') ∧
      (m < 3 ∨ (m ≤ 258 ∧ 1 ≤ q ∧ q ≤ k ∧ q ≤ 32768 ∧ k + m ≤ s.size ∧ ∀ j, j < m → s.data.toList[k - q + j]? = s.data.toList[k + j]?)), ⟨fun hle => ?_, fun hgt => ?_⟩, ?_⟩
  · have hle := of_decide_eq_true hle
    rw [e3] at hle ⊢
    refine ⟨⟨by omega, by omega, by omega⟩, ?_⟩
    rw [Int.toNat_natCast, Int.toNat_natCast]
    have hdf : dfind s k ents = match mlook ents (s.extract k (k + 3)) with
      | some (.int _ v) => if k - v.toNat ≤ 32768 then (alike s.data.toList v.toNat k 258 0, k - v.toNat, mupd ents (s.extract k (k + 3)) (.int .i64 (k : Int))) else (0, 0, mupd ents (s.extract k (k + 3)) (.int .i64 (k : Int)))
      | _ => (0, 0, mupd ents (s.extract k (k + 3)) (.int .i64 (k : Int))) := by unfold dfind; rw [if_pos (by omega)]
    generalize s.extract k (k + 3) = key at hdf ⊢
    have hlk := map_lookup (P := Tryz.prog) (mt := T_map_string_int) (kt := T_string) (et := T_int) (by kernel_rfl) (by kernel_rfl) (z := .int .i64 0) (w := w12) (by kernel_rfl) hD.mp key true
    have upd : ∀ {wx : World}, DSt w wx b lo hi lb db r sl (lowB 3 3 ++ L) ents → ∃ w', (Instr.mapUpdate T_map_string_int (.map (some r)) (.string key) (.int .i64 (k : Int))).run Tryz.prog wx = .ok () w' ∧ DSt w w' b lo hi lb db r sl (lowB 3 3 ++ L) (mupd ents key (.int .i64 (k : Int))) := fun hx => by
      obtain ⟨w', hr, hm, hf⟩ := map_update (P := Tryz.prog) (mt := T_map_string_int) (kt := T_string) (et := T_int) (by kernel_rfl) (by kernel_rfl) hx.mp key (.int .i64 (k : Int))
      exact ⟨w', hr, hx.map hm hf⟩
    have hlast : ∀ (n back : Int) (wx : World), DSt w wx b lo hi lb db r sl (lowB 3 3 ++ L) ents → (∃ m q : Nat, n = (m : Int) ∧ back = (q : Int) ∧ dfind s k ents = (m, q, mupd ents key (.int .i64 (k : Int))) ∧ (m < 3 ∨ (m ≤ 258 ∧ 1 ≤ q ∧ q ≤ k ∧ q ≤ 32768 ∧ k + m ≤ s.size ∧ ∀ j, j < m → s.data.toList[k - q + j]? = s.data.toList[k + j]?))) →
        ∃ w', (Instr.mapUpdate T_map_string_int (.map (some r)) (.string key) (.int .i64 (k : Int))).run Tryz.prog wx = .ok () w' ∧ ∃ (m q : Nat) (ents' : List (ByteArray × Value)), n = (m : Int) ∧ back = (q : Int) ∧ DSt w w' b lo hi lb db r sl (lowB 3 3 ++ L) ents' ∧ Before ents' (k + 1) ∧ dfind s k ents = (m, q, ents') ∧
          (m < 3 ∨ (m ≤ 258 ∧ 1 ≤ q ∧ q ≤ k ∧ q ≤ 32768 ∧ k + m ≤ s.size ∧ ∀ j, j < m → s.data.toList[k - q + j]? = s.data.toList[k + j]?)) := fun n back wx hx hmq => by
      obtain ⟨w', hr, hx'⟩ := upd hx
      obtain ⟨m, q, h1, h2, h4, h3⟩ := hmq
      exact ⟨w', hr, m, q, _, h1, h2, hx', hB.upd key, h4, h3⟩
    have hbnd : (0 ≤ (k : Int) ∧ (k : Int) ≤ ((k + 3 : Nat) : Int) ∧ ((k + 3 : Nat) : Int) ≤ (s.size : Int)) := ⟨by omega, by omega, by omega⟩
    cases hml : mlook ents key with
    | none =>
      rw [hml] at hlk hdf
      exact ⟨w12, 0, false, hlk, fun hh => (by cases hh), fun _ => ⟨hbnd, hlast 0 0 w12 hD ⟨0, 0, rfl, rfl, hdf, .inl (by decide)⟩⟩⟩
    | some v =>
      rw [hml] at hlk hdf
      obtain ⟨at_, hv, hat⟩ := hB _ (mlook_mem hml)
      simp only at hv
      subst hv
      dsimp only at hdf
      rw [Int.toNat_natCast] at hdf
      refine ⟨w12, at_, true, hlk, fun _ => ?_, fun hh => (by cases hh)⟩
      have e4 : IntKind.i64.wrap ((k : Int) - (at_ : Int)) = ((k - at_ : Nat) : Int) := by rw [wrap_i64 (by omega) (by omega)]; omega
      rw [e4]
      refine ⟨fun h32 => ?_, fun h32 => ⟨hbnd, hlast 0 0 w12 hD ⟨0, 0, rfl, rfl, by rw [hdf, if_neg (by have := of_decide_eq_false h32; omega)], .inl (by decide)⟩⟩⟩
      have h32 := of_decide_eq_true h32
      rw [if_pos (by omega)] at hdf
      refine ⟨fun n w' => ∃ m : Nat, n = (m : Int) ∧ m ≤ 258 ∧ k + m ≤ s.size ∧ (∀ j, j < m → s.data.toList[at_ + j]? = s.data.toList[k + j]?) ∧ alike s.data.toList at_ k 258 0 = alike s.data.toList at_ k (258 - m) m ∧ DSt w w' b lo hi lb db r sl (lowB 3 3 ++ L) ents, fun n _ => 258 - n.toNat, ⟨0, rfl, by omega, by omega, fun j hj => by omega, rfl, hD⟩, ?_⟩
      rintro n w20 ⟨m, rfl, hm, hkm, hj, hal, hD20⟩
      have e5 : IntKind.i64.wrap ((k : Int) + (m : Int)) = ((k + m : Nat) : Int) := by rw [wrap_i64 (by omega) (by omega)]; omega
      have e6 : IntKind.i64.wrap ((at_ : Int) + (m : Int)) = ((at_ + m : Nat) : Int) := by rw [wrap_i64 (by omega) (by omega)]; omega
      have e7 : IntKind.i64.wrap ((m : Int) + 1) = ((m + 1 : Nat) : Int) := by rw [wrap_i64 (by omega) (by omega)]; omega
      rw [e5, e6, e7]
      have found : alike s.data.toList at_ k 258 0 = m → ∃ m' q : Nat, (m : Int) = (m' : Int) ∧ ((k - at_ : Nat) : Int) = (q : Int) ∧ dfind s k ents = (m', q, mupd ents key (.int .i64 (k : Int))) ∧ (m' < 3 ∨ (m' ≤ 258 ∧ 1 ≤ q ∧ q ≤ k ∧ q ≤ 32768 ∧ k + m' ≤ s.size ∧ ∀ j, j < m' → s.data.toList[k - q + j]? = s.data.toList[k + j]?)) := fun hm0 =>
        ⟨m, k - at_, rfl, rfl, by rw [hdf, hm0], .inr ⟨hm, by omega, by omega, by omega, hkm, fun j h => by rw [show k - (k - at_) = at_ by omega]; exact hj j h⟩⟩
      refine ⟨fun hlt => ?_, fun hge w25 d25 => ⟨hbnd, hlast _ _ w25 (hD20.drew d25) (found ?_)⟩⟩
      rotate_left 1
      · have hge := of_decide_eq_false hge
        rw [hal, show 258 - m = 0 by omega]; rfl
      have hlt := of_decide_eq_true hlt
      obtain ⟨f, hf⟩ : ∃ f, 258 - m = f + 1 := ⟨258 - m - 1, by omega⟩
      rw [hf] at hal
      have hsa : alike s.data.toList at_ k (f + 1) m = if k + m < s.data.toList.length ∧ s.data.toList[at_ + m]? = s.data.toList[k + m]? then alike s.data.toList at_ k f (m + 1) else m := rfl
      rw [hsa] at hal
      refine ⟨fun hin => ?_, fun hout w23 d23 => ⟨hbnd, hlast _ _ w23 (hD20.drew d23) (found ?_)⟩⟩
      rotate_left 1
      · have hout := of_decide_eq_false hout
        rw [hal, if_neg (fun hh => by omega)]
      have hin := of_decide_eq_true hin
      refine ⟨⟨by omega, by omega⟩, ⟨by omega, by omega⟩, fun w21 d21 => ?_⟩
      rw [byteAt_nat, byteAt_nat]
      have g1 := get_byt (s := s) (i := at_ + m) (by omega)
      have g2 := get_byt (s := s) (i := k + m) (by omega)
      refine ⟨fun heq => ?_, fun hne => ⟨hbnd, hlast _ _ w21 (hD20.drew d21) (found ?_)⟩⟩
      · have heq : byt s (at_ + m) = byt s (k + m) := by have := eq_of_beq heq; omega
        have hsame : s.data.toList[at_ + m]? = s.data.toList[k + m]? := by rw [g1, g2, heq]
        rw [if_pos ⟨by omega, hsame⟩] at hal
        refine ⟨⟨m + 1, rfl, by omega, by omega, fun j h => ?_, by rw [hal, show 258 - (m + 1) = f by omega], hD20.drew d21⟩, by dsimp only; omega⟩
        by_cases hjm : j = m
        · subst hjm; exact hsame
        · exact hj j (by omega)
      · rw [hal, if_neg]
        rintro ⟨_, hh⟩
        rw [g1, g2, Option.some.injEq, ← UInt8.toNat_inj, toNat_byt, toNat_byt] at hh
        rw [hh] at hne
        simp at hne
  · have hgt := of_decide_eq_false hgt
    rw [e3] at hgt
    exact ⟨0, 0, ents, rfl, rfl, hD, hB.more (by omega), by unfold dfind; rw [if_neg (by omega)], .inl (by decide)⟩
  -- what is written
  rintro n back w31 ⟨m, q, ents', rfl, rfl, hD31, hB31, hdf, hmq⟩
  have hstep : diter s (it + 1) = dstep s (k, L, ents) := by rw [diter, hit]
  unfold dstep at hstep
  dsimp only at hstep
  rw [hdf] at hstep
  dsimp only at hstep
  refine ⟨fun hlt3 => ?_, fun hge3 => ?_⟩
  · have hlt3 := of_decide_eq_true hlt3
    have hb := byt_lt s k
    rw [byteAt_nat, wrap_i64 (by omega) (by omega)]
    have e1 : IntKind.i64.wrap ((k : Int) + 1) = ((k + 1 : Nat) : Int) := by rw [wrap_i64 (by omega) (by omega)]; omega
    rw [e1]
    refine ⟨⟨by omega, by omega⟩, ?_⟩
    have hfx := DefM.fixN_le (byt s k)
    refine code_put hD31.wr hD31.lit (s := byt s k) (DefM.lit_get (by omega)) (by omega) (by omega) fun w37 sl37 hw37 hf37 hs37 => ?_
    have hD37 := hD31.put hw37 hf37 hs37
    have hE37 := DefM.enc_lit hE (get_byt hks)
    rw [toNat_byt] at hE37
    rw [List.append_assoc] at hD37
    exact ⟨⟨k + 1, sl37, _, ents', rfl, by omega, hD37, hE37, by rw [List.length_append, DefM.lit_len (by omega)]; omega, hB31, it + 1, by rw [hstep, if_pos (by omega)]⟩, by dsimp only; omega⟩
  · have hge3 := of_decide_eq_false hge3
    obtain ⟨hm258, hq1, hqk, hq32, hkm, hj⟩ := hmq.resolve_left (by omega)
    refine (symlen_spec (n := m) (by omega) hm258 w31).mono ?_
    rintro e w39 ⟨a, more, rfl, ha, ham, hmore, hsa, hw⟩
    replace hw := hw.symm
    subst hw
    have e1 : IntKind.i64.wrap (257 + (a : Int)) = ((257 + a : Nat) : Int) := by rw [wrap_i64 (by omega) (by omega)]; omega
    have e2 : IntKind.i64.wrap ((k : Int) + (m : Int)) = ((k + m : Nat) : Int) := by rw [wrap_i64 (by omega) (by omega)]; omega
    obtain ⟨hl1, hl2⟩ := lenBase_le a ha
    have hp5 : 2 ^ (lenBase a).2 ≤ 2 ^ 5 := Nat.pow_le_pow_right (by decide) hl2
    refine ⟨_, _, _, rfl, ?_⟩
    rw [e1, e2]
    have hfx := DefM.fixN_le (257 + a)
    refine code_put hD31.wr hD31.lit (s := 257 + a) (DefM.lit_get (by omega)) (by omega) (by omega) fun w48 sl48 hw48 hf48 hs48 => ?_
    have hD48 := hD31.put hw48 hf48 hs48
    have hl48 : (lowB 3 3 ++ L ++ cbits fixedLit (257 + a)).length = 3 + L.length + fixN (257 + a) := by rw [List.length_append, hLl, DefM.lit_len (by omega)]
    refine (wbits_spec hD48.wr (x := more) (n := (lenBase a).2) (by omega) (by omega) (by omega)).mono ?_
    rintro e w50 ⟨rfl, sl50, hw50, hf50, hs50⟩
    have hD50 := hD48.put hw50 hf50 hs50
    refine ⟨rfl, (symdist_spec (n := q) hq1 hq32 w50).mono ?_⟩
    rintro e w52 ⟨d, far', rfl, hd, hdd, hfar, hsd, hw⟩
    replace hw := hw.symm
    subst hw
    obtain ⟨hd1, hd2, hd3⟩ := distBase_le d hd
    have hp13 : 2 ^ (distBase d).2 ≤ 2 ^ 13 := Nat.pow_le_pow_right (by decide) hd3
    have hl50 : (lowB 3 3 ++ L ++ cbits fixedLit (257 + a) ++ lowB (lenBase a).2 more).length = 3 + L.length + fixN (257 + a) + (lenBase a).2 := by rw [List.length_append, hl48, lowB_length]
    refine ⟨_, _, _, rfl, ?_⟩
    refine code_put hD50.wr hD50.dist (s := d) (DefM.dist_get (by omega)) (by decide) (by omega) fun w61 sl61 hw61 hf61 hs61 => ?_
    have hD61 := hD50.put hw61 hf61 hs61
    have hl61 : (lowB 3 3 ++ L ++ cbits fixedLit (257 + a) ++ lowB (lenBase a).2 more ++ cbits fixedDist d).length = 3 + L.length + fixN (257 + a) + (lenBase a).2 + 5 := by rw [List.length_append, hl50, DefM.dist_len (by omega)]
    refine (wbits_spec hD61.wr (x := far') (n := (distBase d).2) (by omega) (by omega) (by omega)).mono ?_
    rintro e w63 ⟨rfl, sl63, hw63, hf63, hs63⟩
    have hD63 := hD61.put hw63 hf63 hs63
    have hE63 := DefM.enc_rep hE (a := a) (more := more) (d := d) (far := far') ha hd hmore hfar (by omega) (by rw [ham, hsl]; omega) (by rw [ham, hdd]; exact hj)
    rw [ham] at hE63
    rw [show lowB 3 3 ++ L ++ cbits fixedLit (257 + a) ++ lowB (lenBase a).2 more ++ cbits fixedDist d ++ lowB (distBase d).2 far' = lowB 3 3 ++ (L ++ DefM.repB a more d far') by unfold DefM.repB; simp only [List.append_assoc]] at hD63
    have hrl := DefM.repB_length (more := more) (far := far') ha hd
    exact ⟨rfl, ⟨k + m, sl63, _, ents', rfl, by omega, hD63, hE63, by rw [List.length_append, hrl]; omega, hB31.more (by omega), it + 1, by rw [hstep, if_neg (by omega), symF_eq len_mono hsa, symF_eq dist_mono hsd, show m - (lenBase a).1 = more by omega, show q - (distBase d).1 = far' by omega]⟩, by dsimp only; omega⟩
end Go.Proofs.YtllegkmadljmaaaGreatDoor

/- A stream is inflated wherever it stands. No condition. -/
set_option linter.unusedVariables false
namespace DefM
open BitsM HuffM InfM SumM Go.Proofs.YtllegkmadljmaaaGreatDoor
/-- A stream is inflated wherever it stands. -/
theorem stream_inflate {t s : List UInt8} (h : Stream t s) (front back : List UInt8) {most : Nat} (hm : most ≤ 65536) : InfM.inflate (front ++ (t ++ back)) (front.length : Int) (most : Int) = if s.length ≤ most then (s, t.length, 0) else ([], 0, 2) := by
  obtain ⟨p, hp, hst⟩ := h
  unfold InfM.inflate
  rw [if_neg (by rw [List.length_append]; omega), Int.toNat_natCast, Int.toNat_natCast, List.drop_left]
  unfold InfM.inf
  have := hst [] [] most back ((sbits (t ++ back)).length + 1) rfl (Nat.zero_le _) (by rw [sbits_length, List.length_append]; omega)
  simp only [List.nil_append, List.length_nil, Nat.zero_add] at this
  rw [this]
  by_cases hl : s.length ≤ most
  · rw [if_pos hl, if_pos hl]
    dsimp only
    rw [hp]
  · rw [if_neg hl, if_neg hl]
end DefM
namespace Go.Proofs.YtllegkmadljmaaaGreatDoor
theorem size_mk (l : List UInt8) : ByteArray.size ⟨l.toArray⟩ = l.length := by simp [ByteArray.size]
theorem data_mk (l : List UInt8) : (⟨l.toArray⟩ : ByteArray).data.toList = l := by simp
end Go.Proofs.YtllegkmadljmaaaGreatDoor

/- zlib's frames: written, and read back. Conditions: texts no longer than memory. -/
set_option linter.unusedVariables false
namespace Go.Proofs.YtllegkmadljmaaaGreatDoor
open Go Vc BitsM HuffM SumM Go.Proofs

/-- A frame round a stream. -/
def frameS (stream s : List UInt8) : List UInt8 := [120, 1] ++ stream ++ bigB 4 (adler s)
theorem zframe_spec (t s : ByteArray) (ht : t.size ≤ 1099511627776) (hs : s.size ≤ 1099511627776) (w : World) :
    Calls Tryz.prog F_zlib_frame #[.string t, .string s] w fun e w' => e = .returned (.string ⟨(frameS t.data.toList s.data.toList).toArray⟩) ∧ Fr (fun _ => False) w w' := by
  refine vc_zlib_frame_ok (R := fun v w' => v = .string ⟨(frameS t.data.toList s.data.toList).toArray⟩ ∧ Fr (fun _ => False) w w') ?_ (fun v w' h => ⟨by rw [h.1], h.2⟩)
  have hd : ByteArray.size ⟨#[120, 1]⟩ = 2 := rfl
  refine ⟨by rw [hd]; omega, (adler_spec s hs w).mono ?_⟩
  rintro e w2 ⟨rfl, hf2⟩
  have had := adler_lt s.data.toList
  refine ⟨_, rfl, ?_⟩
  rw [wrap_u64 (by omega) (by omega)]
  refine (big_spec (adler s.data.toList) 4 (by omega) (by decide) w2).mono ?_
  rintro e w5 ⟨rfl, hf5⟩
  have hb : ByteArray.size ⟨(bigB 4 (adler s.data.toList)).toArray⟩ = 4 := by simp [ByteArray.size, bigB_length]
  have hsa : (⟨#[120, 1]⟩ ++ t : ByteArray).size = 2 + t.size := by rw [ByteArray.size_append, hd]
  refine ⟨_, rfl, by rw [hsa, hb]; omega, ?_, hf2.trans' hf5⟩
  congr 1
theorem zwrite_spec (s : ByteArray) (hs : s.size ≤ 100000000) (w : World) :
    Calls Tryz.prog F_zlib_Write #[.string s] w fun e w' => e = .returned (.string ⟨(frameS (deflT s) s.data.toList).toArray⟩) ∧ DefM.Stream (deflT s) s.data.toList ∧ (deflT s).length ≤ 2 * s.size + 5 ∧ Fr (fun _ => False) w w' := by
  refine vc_zlib_Write_ok (R := fun v w' => v = .string ⟨(frameS (deflT s) s.data.toList).toArray⟩ ∧ DefM.Stream (deflT s) s.data.toList ∧ (deflT s).length ≤ 2 * s.size + 5 ∧ Fr (fun _ => False) w w') ?_ (fun v w' h => ⟨by rw [h.1], h.2⟩)
  refine (deflate_spec s hs w).mono ?_
  have hsl5 := storedS_len s.data.toList.length s.data.toList rfl
  rw [show s.data.toList.length = s.size by simp] at hsl5
  rintro e w2 ⟨rfl, hst, hlen, hf2⟩
  refine ⟨_, rfl, (zframe_spec ⟨(deflT s).toArray⟩ s (by rw [size_mk (deflT s)]; omega) (by omega) w2).mono ?_⟩
  rintro e w5 ⟨rfl, hf5⟩
  rw [data_mk]
  exact ⟨_, rfl, rfl, hst, by omega, hf2.trans' hf5⟩
/-- A frame is read wherever it stands; one whose sum is another is refused. -/
theorem zread_stream {t s front q back : List UInt8} (h : DefM.Stream t s) {most : Nat} (h1 : s.length ≤ most) (hm : most ≤ 65536) (hq : q.length = 4) :
    ZlM.read (front ++ ([120, 1] ++ t ++ q ++ back)) (front.length : Int) (most : Int) = if q = bigB 4 (adler s) then (s, t.length + 6, 0) else ([], 0, 5) := by
  have hl : (front ++ ([120, 1] ++ t ++ q ++ back)).length = front.length + (6 + t.length + back.length) := by
    simp only [List.length_append, hq, List.length_cons, List.length_nil]; omega
  have hi : InfM.inflate (front ++ ([120, 1] ++ t ++ q ++ back)) ((front.length : Int) + 2) (most : Int) = (s, t.length, 0) := by
    have := DefM.stream_inflate h (front ++ [120, 1]) (q ++ back) hm
    rw [if_pos h1, List.length_append, show (([120, 1] : List UInt8).length) = 2 from rfl] at this
    rw [show (front.length : Int) + 2 = ((front.length + 2 : Nat) : Int) by omega]
    rw [← this]
    simp only [List.append_assoc]
  have hg0 : (front ++ ([120, 1] ++ t ++ q ++ back)).getD front.length 0 = 120 := by
    rw [List.getD_eq_getElem?_getD, List.getElem?_append_right (Nat.le_refl _), Nat.sub_self]; rfl
  have hg1 : (front ++ ([120, 1] ++ t ++ q ++ back)).getD (front.length + 1) 0 = 1 := by
    rw [List.getD_eq_getElem?_getD, List.getElem?_append_right (by omega), Nat.add_sub_cancel_left]; rfl
  have hd : ((front ++ ([120, 1] ++ t ++ q ++ back)).drop (front.length + 2 + t.length)).take 4 = q := by
    rw [show front ++ ([120, 1] ++ t ++ q ++ back) = (front ++ [120, 1] ++ t) ++ (q ++ back) by simp only [List.append_assoc]]
    rw [show front.length + 2 + t.length = (front ++ [120, 1] ++ t).length by simp only [List.length_append, List.length_cons, List.length_nil], List.drop_left, List.take_left' hq]
  unfold ZlM.read
  rw [hi, hl, Int.toNat_natCast, hg0, hg1]
  dsimp only
  rw [hd, if_neg (by omega), if_neg (by omega), if_neg (by decide), if_neg (by omega), if_neg (by omega)]
  by_cases he : q = bigB 4 (adler s)
  · rw [if_neg (fun hh => hh he), if_pos he]
  · rw [if_pos he, if_neg he]
end Go.Proofs.YtllegkmadljmaaaGreatDoor

/- Formulas of 4 Go functions of this seat (written by a program of the author's, vcgen.py), and that each is enough for the call. No condition. -/
set_option linter.unusedVariables false
namespace Go.Proofs.YtllegkmadljmaaaGreatDoor
open Go Vc Go.Proofs
set_option maxRecDepth 100000
def vc_loose_Path (x0 : ByteArray) (w : World) (R : Value → World → Prop) : Prop :=
 Calls Tryz.prog (40 : Nat) (Array.mk [Value.string x0]) (w) (fun e1 w2 =>
 ∃ b3 : Bool, (e1 = Ending.returned (Value.bool b3) ∧
 ((((!b3) = true →
 R (Value.tuple (Array.mk [Value.string (ByteArray.mk (Array.mk [])), Value.int .i64 4])) w2)) ∧
 ((!b3) = false →
 (((0 : Int) ≤ (2 : Int) ∧
 2 ≤ (↑(ByteArray.size x0) : Int)) ∧
 (ByteArray.size (ByteArray.mk (Array.mk [111, 98, 106, 101, 99, 116, 115, 47])) + ByteArray.size (ByteArray.extract x0 0 (Int.toNat 2)) ≤ 9223372036854775807 ∧
 (ByteArray.size (ByteArray.mk (Array.mk [111, 98, 106, 101, 99, 116, 115, 47]) ++ ByteArray.extract x0 0 (Int.toNat 2)) + ByteArray.size (ByteArray.mk (Array.mk [47])) ≤ 9223372036854775807 ∧
 (((0 : Int) ≤ (2 : Int) ∧
 2 ≤ (↑(ByteArray.size x0) : Int)) ∧
 (ByteArray.size (ByteArray.mk (Array.mk [111, 98, 106, 101, 99, 116, 115, 47]) ++ ByteArray.extract x0 0 (Int.toNat 2) ++ ByteArray.mk (Array.mk [47])) + ByteArray.size (ByteArray.extract x0 (Int.toNat 2) (ByteArray.size x0)) ≤ 9223372036854775807 ∧
 ∀ w4 : World,
 (Drew w2 w4 →
 R (Value.tuple (Array.mk [Value.string (ByteArray.mk (Array.mk [111, 98, 106, 101, 99, 116, 115, 47]) ++ ByteArray.extract x0 0 (Int.toNat 2) ++ ByteArray.mk (Array.mk [47]) ++ ByteArray.extract x0 (Int.toNat 2) (ByteArray.size x0)), Value.int .i64 0])) w4))))))))))
theorem vc_loose_Path_ok {x0 : ByteArray} {w : World} {R : Value → World → Prop} {R' : Ending → World → Prop} (h : vc_loose_Path x0 w R) (hR : ∀ v w', R v w' → R' (.returned v) w') :
    Calls Tryz.prog 33 #[.string x0] w R' :=
  calls_of_body (vs := [(.string x0, false)]) (ty := ty) (ann := ⟨[], [], [(3, .quiet)], []⟩) (c := Tryz.f33.body.getD .skip) (by kernel_rfl) Tryz.func33 (by kernel_rfl) (by kernel_rfl) (Eq.mp (by kernel_rfl) h) hR
def vc_loose_Unpack (x0 : ByteArray) (w : World) (R : Value → World → Prop) : Prop :=
 ∀ w1 : World,
 (w1 = World.alloc w (Obj.cells (Array.mk [Value.int .i64 0, Value.string (ByteArray.mk (Array.mk []))]) 33) →
 Calls Tryz.prog (156 : Nat) (Array.mk [Value.string x0, Value.int .i64 0, Value.int .i64 65536]) (w1) (fun e2 w3 =>
 ∃ s4 : ByteArray, ∃ n5 : Int, ∃ n6 : Int, (e2 = Ending.returned (Value.tuple (Array.mk [Value.string s4, Value.int .i64 n5, Value.int .i64 n6])) ∧
 ((((n6 != 0) = true →
 ∃ w7 : World, (Sem.run Tryz.prog (storeVar 33 (Addr.mk (Array.size (World.heap w)) 0 none) (Value.agg (Array.mk [Value.int .i64 0, Value.string (ByteArray.mk (Array.mk []))]))) w3 = Result.ok PUnit.unit w7 ∧
 ∃ n8 : Int, ∃ s9 : ByteArray, (Sem.run Tryz.prog (loadVar 33 (Addr.mk (Array.size (World.heap w)) 0 none)) w7 = Result.ok (Value.agg (Array.mk [Value.int .i64 n8, Value.string s9])) w7 ∧
 R (Value.tuple (Array.mk [Value.agg (Array.mk [Value.int .i64 n8, Value.string s9]), Value.int .i64 n6])) w7)))) ∧
 ((n6 != 0) = false →
 ((((n5 != (↑(ByteArray.size x0) : Int)) = true →
 ∃ w10 : World, (Sem.run Tryz.prog (storeVar 33 (Addr.mk (Array.size (World.heap w)) 0 none) (Value.agg (Array.mk [Value.int .i64 0, Value.string (ByteArray.mk (Array.mk []))]))) w3 = Result.ok PUnit.unit w10 ∧
 ∃ n11 : Int, ∃ s12 : ByteArray, (Sem.run Tryz.prog (loadVar 33 (Addr.mk (Array.size (World.heap w)) 0 none)) w10 = Result.ok (Value.agg (Array.mk [Value.int .i64 n11, Value.string s12])) w10 ∧
 R (Value.tuple (Array.mk [Value.agg (Array.mk [Value.int .i64 n11, Value.string s12]), Value.int .i64 3])) w10)))) ∧
 ((n5 != (↑(ByteArray.size x0) : Int)) = false →
 Calls Tryz.prog (157 : Nat) (Array.mk [Value.string s4]) (w3) (fun e13 w14 =>
 ∃ n15 : Int, ∃ s16 : ByteArray, ∃ n17 : Int, (e13 = Ending.returned (Value.tuple (Array.mk [Value.agg (Array.mk [Value.int .i64 n15, Value.string s16]), Value.int .i64 n17])) ∧
 ∃ w18 : World, (Sem.run Tryz.prog (storeVar 33 (Addr.mk (Array.size (World.heap w)) 0 none) (Value.agg (Array.mk [Value.int .i64 n15, Value.string s16]))) w14 = Result.ok PUnit.unit w18 ∧
 ∃ n19 : Int, ∃ s20 : ByteArray, (Sem.run Tryz.prog (loadVar 33 (Addr.mk (Array.size (World.heap w)) 0 none)) w18 = Result.ok (Value.agg (Array.mk [Value.int .i64 n19, Value.string s20])) w18 ∧
 R (Value.tuple (Array.mk [Value.agg (Array.mk [Value.int .i64 n19, Value.string s20]), Value.int .i64 n17])) w18)))))))))))
theorem vc_loose_Unpack_ok {x0 : ByteArray} {w : World} {R : Value → World → Prop} {R' : Ending → World → Prop} (h : vc_loose_Unpack x0 w R) (hR : ∀ v w', R v w' → R' (.returned v) w') :
    Calls Tryz.prog 125 #[.string x0] w R' :=
  calls_of_body (vs := [(.string x0, false)]) (ty := ty) (ann := ⟨[], [], [], []⟩) (c := Tryz.f125.body.getD .skip) (by kernel_rfl) Tryz.func125 (by kernel_rfl) (by kernel_rfl) (Eq.mp (by kernel_rfl) h) hR
def vc_loose_Read (x0 : Nat) (x1 : ByteArray) (w : World) (R : Value → World → Prop) : Prop :=
 ∀ w1 : World,
 (w1 = World.alloc w (Obj.cells (Array.mk [Value.int .i64 0, Value.string (ByteArray.mk (Array.mk []))]) 33) →
 Calls Tryz.prog (33 : Nat) (Array.mk [Value.string x1]) (w1) (fun e2 w3 =>
 ∃ s4 : ByteArray, ∃ n5 : Int, (e2 = Ending.returned (Value.tuple (Array.mk [Value.string s4, Value.int .i64 n5])) ∧
 ((((n5 != 0) = true →
 ∃ w6 : World, (Sem.run Tryz.prog (storeVar 33 (Addr.mk (Array.size (World.heap w)) 0 none) (Value.agg (Array.mk [Value.int .i64 0, Value.string (ByteArray.mk (Array.mk []))]))) w3 = Result.ok PUnit.unit w6 ∧
 ∃ n7 : Int, ∃ s8 : ByteArray, (Sem.run Tryz.prog (loadVar 33 (Addr.mk (Array.size (World.heap w)) 0 none)) w6 = Result.ok (Value.agg (Array.mk [Value.int .i64 n7, Value.string s8])) w6 ∧
 R (Value.tuple (Array.mk [Value.agg (Array.mk [Value.int .i64 n7, Value.string s8]), Value.int .i64 n5])) w6)))) ∧
 ((n5 != 0) = false →
 Calls Tryz.prog (41 : Nat) (Array.mk [Value.pointer (some (Addr.mk x0 0 none)), Value.string s4]) (w3) (fun e9 w10 =>
 ∃ s11 : ByteArray, ∃ n12 : Int, (e9 = Ending.returned (Value.tuple (Array.mk [Value.string s11, Value.int .i64 n12])) ∧
 ((((n12 != 0) = true →
 ∃ w13 : World, (Sem.run Tryz.prog (storeVar 33 (Addr.mk (Array.size (World.heap w)) 0 none) (Value.agg (Array.mk [Value.int .i64 0, Value.string (ByteArray.mk (Array.mk []))]))) w10 = Result.ok PUnit.unit w13 ∧
 ∃ n14 : Int, ∃ s15 : ByteArray, (Sem.run Tryz.prog (loadVar 33 (Addr.mk (Array.size (World.heap w)) 0 none)) w13 = Result.ok (Value.agg (Array.mk [Value.int .i64 n14, Value.string s15])) w13 ∧
 R (Value.tuple (Array.mk [Value.agg (Array.mk [Value.int .i64 n14, Value.string s15]), Value.int .i64 n12])) w13)))) ∧
 ((n12 != 0) = false →
 Calls Tryz.prog (125 : Nat) (Array.mk [Value.string s11]) (w10) (fun e16 w17 =>
 ∃ n18 : Int, ∃ s19 : ByteArray, ∃ n20 : Int, (e16 = Ending.returned (Value.tuple (Array.mk [Value.agg (Array.mk [Value.int .i64 n18, Value.string s19]), Value.int .i64 n20])) ∧
 ∀ w21 : World,
 (w21 = World.alloc w17 (Obj.cells (Array.mk [Value.int .i64 0, Value.string (ByteArray.mk (Array.mk []))]) 33) →
 ∃ w22 : World, (Sem.run Tryz.prog (storeVar 33 (Addr.mk (Array.size (World.heap w17)) 0 none) (Value.agg (Array.mk [Value.int .i64 n18, Value.string s19]))) w21 = Result.ok PUnit.unit w22 ∧
 ((((n20 != 0) = true →
 ∃ w23 : World, (Sem.run Tryz.prog (storeVar 33 (Addr.mk (Array.size (World.heap w)) 0 none) (Value.agg (Array.mk [Value.int .i64 0, Value.string (ByteArray.mk (Array.mk []))]))) w22 = Result.ok PUnit.unit w23 ∧
 ∃ n24 : Int, ∃ s25 : ByteArray, (Sem.run Tryz.prog (loadVar 33 (Addr.mk (Array.size (World.heap w)) 0 none)) w23 = Result.ok (Value.agg (Array.mk [Value.int .i64 n24, Value.string s25])) w23 ∧
 R (Value.tuple (Array.mk [Value.agg (Array.mk [Value.int .i64 n24, Value.string s25]), Value.int .i64 n20])) w23)))) ∧
 ((n20 != 0) = false →
 ∃ n26 : Int, ∃ s27 : ByteArray, (Sem.run Tryz.prog (loadVar 33 (Addr.mk (Array.size (World.heap w17)) 0 none)) w22 = Result.ok (Value.agg (Array.mk [Value.int .i64 n26, Value.string s27])) w22 ∧
 Calls Tryz.prog (7 : Nat) (Array.mk [Value.agg (Array.mk [Value.int .i64 n26, Value.string s27])]) (w22) (fun e28 w29 =>
 ∃ s30 : ByteArray, ∃ n31 : Int, (e28 = Ending.returned (Value.tuple (Array.mk [Value.string s30, Value.int .i64 n31])) ∧
 ((((!ByteArray.toList s30 == ByteArray.toList x1) = true →
 ∃ w32 : World, (Sem.run Tryz.prog (storeVar 33 (Addr.mk (Array.size (World.heap w)) 0 none) (Value.agg (Array.mk [Value.int .i64 0, Value.string (ByteArray.mk (Array.mk []))]))) w29 = Result.ok PUnit.unit w32 ∧
 ∃ n33 : Int, ∃ s34 : ByteArray, (Sem.run Tryz.prog (loadVar 33 (Addr.mk (Array.size (World.heap w)) 0 none)) w32 = Result.ok (Value.agg (Array.mk [Value.int .i64 n33, Value.string s34])) w32 ∧
 R (Value.tuple (Array.mk [Value.agg (Array.mk [Value.int .i64 n33, Value.string s34]), Value.int .i64 5])) w32)))) ∧
 ((!ByteArray.toList s30 == ByteArray.toList x1) = false →
 ∃ n35 : Int, ∃ s36 : ByteArray, (Sem.run Tryz.prog (loadVar 33 (Addr.mk (Array.size (World.heap w17)) 0 none)) w29 = Result.ok (Value.agg (Array.mk [Value.int .i64 n35, Value.string s36])) w29 ∧
 ∃ w37 : World, (Sem.run Tryz.prog (storeVar 33 (Addr.mk (Array.size (World.heap w)) 0 none) (Value.agg (Array.mk [Value.int .i64 n35, Value.string s36]))) w29 = Result.ok PUnit.unit w37 ∧
 ∃ n38 : Int, ∃ s39 : ByteArray, (Sem.run Tryz.prog (loadVar 33 (Addr.mk (Array.size (World.heap w)) 0 none)) w37 = Result.ok (Value.agg (Array.mk [Value.int .i64 n38, Value.string s39])) w37 ∧
 R (Value.tuple (Array.mk [Value.agg (Array.mk [Value.int .i64 n38, Value.string s39]), Value.int .i64 0])) w37)))))))))))))))))))))))
theorem vc_loose_Read_ok {x0 : Nat} {x1 : ByteArray} {w : World} {R : Value → World → Prop} {R' : Ending → World → Prop} (h : vc_loose_Read x0 x1 w R) (hR : ∀ v w', R v w' → R' (.returned v) w') :
    Calls Tryz.prog 80 #[.pointer (some ⟨x0, 0, none⟩), .string x1] w R' :=
  calls_of_body (vs := [(.pointer (some ⟨x0, 0, none⟩), true), (.string x1, false)]) (ty := ty) (ann := ⟨[], [], [], []⟩) (c := Tryz.f80.body.getD .skip) (by kernel_rfl) Tryz.func80 (by kernel_rfl) (by kernel_rfl) (Eq.mp (by kernel_rfl) h) hR
def vc_loose_Write (x0_0 : Int) (x0_1 : ByteArray) (w : World) (R : Value → World → Prop) : Prop :=
 ∀ w1 : World,
 (w1 = World.alloc w (Obj.cells (Array.mk [Value.int .i64 x0_0, Value.string x0_1]) 33) →
 ∀ w2 : World,
 (w2 = World.alloc w1 (Obj.cells (Array.mk [Value.string (ByteArray.mk (Array.mk [])), Value.string (ByteArray.mk (Array.mk []))]) 39) →
 ∃ n3 : Int, ∃ s4 : ByteArray, (Sem.run Tryz.prog (loadVar 33 (Addr.mk (Array.size (World.heap w)) 0 none)) w2 = Result.ok (Value.agg (Array.mk [Value.int .i64 n3, Value.string s4])) w2 ∧
 Calls Tryz.prog (28 : Nat) (Array.mk [Value.agg (Array.mk [Value.int .i64 n3, Value.string s4])]) (w2) (fun e5 w6 =>
 ∃ s7 : ByteArray, ∃ n8 : Int, (e5 = Ending.returned (Value.tuple (Array.mk [Value.string s7, Value.int .i64 n8])) ∧
 ((((n8 != 0) = true →
 ∃ w9 : World, (Sem.run Tryz.prog (storeVar 39 (Addr.mk (Array.size (World.heap w1)) 0 none) (Value.agg (Array.mk [Value.string (ByteArray.mk (Array.mk [])), Value.string (ByteArray.mk (Array.mk []))]))) w6 = Result.ok PUnit.unit w9 ∧
 ∃ s10 : ByteArray, ∃ s11 : ByteArray, (Sem.run Tryz.prog (loadVar 39 (Addr.mk (Array.size (World.heap w1)) 0 none)) w9 = Result.ok (Value.agg (Array.mk [Value.string s10, Value.string s11])) w9 ∧
 R (Value.tuple (Array.mk [Value.agg (Array.mk [Value.string s10, Value.string s11]), Value.int .i64 n8])) w9)))) ∧
 ((n8 != 0) = false →
 ∃ n12 : Int, ∃ s13 : ByteArray, (Sem.run Tryz.prog (loadVar 33 (Addr.mk (Array.size (World.heap w)) 0 none)) w6 = Result.ok (Value.agg (Array.mk [Value.int .i64 n12, Value.string s13])) w6 ∧
 Calls Tryz.prog (7 : Nat) (Array.mk [Value.agg (Array.mk [Value.int .i64 n12, Value.string s13])]) (w6) (fun e14 w15 =>
 ∃ s16 : ByteArray, ∃ n17 : Int, (e14 = Ending.returned (Value.tuple (Array.mk [Value.string s16, Value.int .i64 n17])) ∧
 Calls Tryz.prog (33 : Nat) (Array.mk [Value.string s16]) (w15) (fun e18 w19 =>
 ∃ s20 : ByteArray, ∃ n21 : Int, (e18 = Ending.returned (Value.tuple (Array.mk [Value.string s20, Value.int .i64 n21])) ∧
 Calls Tryz.prog (34 : Nat) (Array.mk [Value.string s7]) (w19) (fun e22 w23 =>
 ∃ s24 : ByteArray, (e22 = Ending.returned (Value.string s24) ∧
 ∃ w25 : World, (Sem.run Tryz.prog (storeVar 39 (Addr.mk (Array.size (World.heap w1)) 0 none) (Value.agg (Array.mk [Value.string s20, Value.string s24]))) w23 = Result.ok PUnit.unit w25 ∧
 ∃ s26 : ByteArray, ∃ s27 : ByteArray, (Sem.run Tryz.prog (loadVar 39 (Addr.mk (Array.size (World.heap w1)) 0 none)) w25 = Result.ok (Value.agg (Array.mk [Value.string s26, Value.string s27])) w25 ∧
 R (Value.tuple (Array.mk [Value.agg (Array.mk [Value.string s26, Value.string s27]), Value.int .i64 0])) w25))))))))))))))))
theorem vc_loose_Write_ok {x0_0 : Int} {x0_1 : ByteArray} {w : World} {R : Value → World → Prop} {R' : Ending → World → Prop} (h : vc_loose_Write x0_0 x0_1 w R) (hR : ∀ v w', R v w' → R' (.returned v) w') :
    Calls Tryz.prog 9 #[.agg #[.int .i64 x0_0, .string x0_1]] w R' :=
  calls_of_body (vs := [(.agg #[.int .i64 x0_0, .string x0_1], false)]) (ty := ty) (ann := ⟨[], [], [], []⟩) (c := Tryz.f9.body.getD .skip) (by kernel_rfl) Tryz.func9 (by kernel_rfl) (by kernel_rfl) (Eq.mp (by kernel_rfl) h) hR
end Go.Proofs.YtllegkmadljmaaaGreatDoor

/- The package loose on an object of at most 65000 bytes: Path, Write, Unpack, Read. Conditions: as named. -/
set_option linter.unusedVariables false
namespace Go.Proofs.YtllegkmadljmaaaGreatDoor
open Go Vc HexM ShaM SumM Go.Proofs

theorem boxF_store {w : World} {g : Nat} {cs : Array Value} (h : w.heap[g]? = some (.cells cs T_api_File (0, 0))) (hc : cs.size = 2) (p d : ByteArray) :
    ∃ w', (storeVar T_api_File ⟨g, 0, none⟩ (.agg #[.string p, .string d])).run Tryz.prog w = .ok () w' ∧ w'.heap[g]? = some (.cells #[.string p, .string d] T_api_File (0, 0)) ∧ Fr (· = g) w w' :=
  ⟨_, run_storeVar_row (P := Tryz.prog) w g T_api_File T_api_File _ #[.string p, .string d] h (by kernel_rfl) (by rw [hc]; rfl) (by simp [Value.oneCell']), setRow_heap w g _ #[.string p, .string d] T_api_File (0, 0) h, setRow_fr (· = g) w g _ rfl⟩
theorem boxF_load {w : World} {g : Nat} {p d : ByteArray} (h : w.heap[g]? = some (.cells #[.string p, .string d] T_api_File (0, 0))) : (loadVar T_api_File ⟨g, 0, none⟩).run Tryz.prog w = .ok (.agg #[.string p, .string d]) w :=
  load_agg (vs := [.string p, .string d]) (agg_of (by kernel_rfl)) (by kernel_rfl) fun k v hv => by rw [add_lit, Nat.zero_add, cell_blk h]; simpa using hv
theorem lpath_spec (id : ByteArray) (h : isId id.data.toList = true) (w : World) : Calls Tryz.prog F_loose_Path #[.string id] w fun e w' => e = .returned (.tuple #[.string (pathO id), .int .i64 0]) ∧ Fr (fun _ => False) w w' := by
  refine vc_loose_Path_ok (R := fun v w' => v = .tuple #[.string (pathO id), .int .i64 0] ∧ Fr (fun _ => False) w w') ?_ (fun v w' h => ⟨by rw [h.1], h.2⟩)
  have h40 := (isId_parts h).1
  have hsz : ∀ i j, (id.extract i j).size ≤ 40 := fun i j => by rw [ByteArray.size_extract]; omega
  refine (id_spec id (by omega) w).mono ?_
  rintro e w2 ⟨rfl, f2⟩
  rw [h]
  refine ⟨_, rfl, fun hb => (by cases hb), fun _ => ⟨⟨by omega, by omega⟩, ?_, ?_, ⟨by omega, by omega⟩, ?_, fun w4 d4 => ⟨rfl, f2.trans' (.drew _ d4)⟩⟩⟩
  · exact Nat.le_trans (Nat.add_le_add (Nat.le_of_eq (rfl : _ = 8)) (hsz _ _)) (by decide)
  · rw [ByteArray.size_append]
    exact Nat.le_trans (Nat.add_le_add (Nat.add_le_add (Nat.le_of_eq (rfl : _ = 8)) (hsz _ _)) (Nat.le_of_eq (rfl : _ = 1))) (by decide)
  · rw [ByteArray.size_append, ByteArray.size_append]
    exact Nat.le_trans (Nat.add_le_add (Nat.add_le_add (Nat.add_le_add (Nat.le_of_eq (rfl : _ = 8)) (hsz _ _)) (Nat.le_of_eq (rfl : _ = 1))) (hsz _ _)) (by decide)
theorem idO (k : Int) (d : ByteArray) : isId (idS k d).data.toList = true := by
  unfold idS
  rw [bs_mk]
  exact isId_hex (dig1_len _)
/-- An object's file. -/
noncomputable def fileO (k : Int) (d : ByteArray) : ByteArray := ⟨(frameS (deflT (encS k d)) (encS k d).data.toList).toArray⟩
/-- What is known of the stream in it. -/
def FileOK (k : Int) (d : ByteArray) : Prop := DefM.Stream (deflT (encS k d)) (encS k d).data.toList ∧ (deflT (encS k d)).length ≤ 2 * (encS k d).size + 5
theorem fileO_len (k : Int) (d : ByteArray) : (fileO k d).size = (deflT (encS k d)).length + 6 := by
  unfold fileO frameS
  rw [bs_mksize, List.length_append, List.length_append, bigB_length]
  simp only [List.length_cons, List.length_nil]
  omega
theorem fileO_size {k : Int} (hk : isKind k) {d : ByteArray} (hd : d.size ≤ 65000) (h : FileOK k d) : (fileO k d).size ≤ 130100 := by
  have h1 := encS_size hk hd
  have h2 := h.2
  rw [fileO_len]; omega
theorem fileO_read {k : Int} (hk : isKind k) {d : ByteArray} (hd : d.size ≤ 65000) (h : FileOK k d) : ZlM.read (fileO k d).data.toList 0 65536 = ((encS k d).data.toList, (deflT (encS k d)).length + 6, 0) := by
  have h1 := encS_size hk hd
  have := zread_stream (front := []) (back := []) (q := bigB 4 (adler (encS k d).data.toList)) h.1 (most := 65536) (by rw [bs_len]; omega) (Nat.le_refl _) (bigB_length _ _)
  rw [if_pos rfl] at this
  unfold fileO frameS
  rw [bs_mk]
  simpa using this
theorem lwrite_spec (k : Int) (hk : isKind k) (d : ByteArray) (hd : d.size ≤ 65000) {w : World} (ht : Tab10 w) : Calls Tryz.prog F_loose_Write #[.agg #[.int .i64 k, .string d]] w fun e w' =>
    e = .returned (.tuple #[.agg #[.string (pathO (idS k d)), .string (fileO k d)], .int .i64 0]) ∧ FileOK k d ∧ Fr (fun _ => False) w w' := by
  refine vc_loose_Write_ok (x0_0 := k) (x0_1 := d) (R := fun v w' => v = .tuple #[.agg #[.string (pathO (idS k d)), .string (fileO k d)], .int .i64 0] ∧ FileOK k d ∧ Fr (fun _ => False) w w') ?_ (fun v w' h => ⟨by rw [h.1], h.2⟩)
  intro w1 h1 w2 h2
  have f1 : Fr (fun _ => False) w w1 := by rw [h1]; exact .alloc _ _ _
  have f2 : Fr (fun _ => False) w1 w2 := by rw [h2]; exact .alloc _ _ _
  have hO2 : w2.heap[w.heap.size]? = some (.cells #[.int .i64 k, .string d] T_api_Object (0, 0)) := f2.keep (by rw [h1]; exact alloc_new _ _) (by simp)
  have hF2 : w2.heap[w1.heap.size]? = some (.cells #[.string ⟨#[]⟩, .string ⟨#[]⟩] T_api_File (0, 0)) := by rw [h2]; exact alloc_new _ _
  have hs1 : w.heap.size < w1.heap.size := by rw [h1]; simp
  clear h1 h2
  have g2 := f1.trans' f2
  refine ⟨k, d, boxO_load hO2, (oencode_spec k d hd (ht.keep g2)).mono ?_⟩
  rintro e w6 ⟨⟨_, rfl⟩ | ⟨hno, rfl⟩, f6⟩
  rotate_left
  · exact absurd hk hno
  have g6 := g2.trans' f6
  refine ⟨_, _, rfl, fun h => (by cases h), fun _ => ⟨k, d, boxO_load (f6.keep hO2 (by simp)), (oid_spec k d hd (ht.keep g6)).mono ?_⟩⟩
  rintro e w15 ⟨⟨_, rfl⟩ | ⟨hno, rfl⟩, f15⟩
  rotate_left
  · exact absurd hk hno
  refine ⟨_, _, rfl, (lpath_spec _ (idO k d) w15).mono ?_⟩
  rintro e w19 ⟨rfl, f19⟩
  have hes := encS_size hk hd
  refine ⟨_, _, rfl, (zwrite_spec (encS k d) (by omega) w19).mono ?_⟩
  rintro e w23 ⟨rfl, hst, hlen, f23⟩
  have f2_23 := ((f6.trans' f15).trans' f19).trans' f23
  obtain ⟨w25, hr25, hb25, f25⟩ := boxF_store (f2_23.keep hF2 (by simp)) rfl (pathO (idS k d)) (fileO k d)
  exact ⟨_, rfl, w25, hr25, _, _, boxF_load hb25, rfl, ⟨hst, hlen⟩, (g2.trans' f2_23).trans f25 fun q hq e => by omega⟩
theorem lunpack_spec {k : Int} (hk : isKind k) {d : ByteArray} (hd : d.size ≤ 65000) (h : FileOK k d) {w : World} (ht : Tab10 w) : Calls Tryz.prog F_loose_Unpack #[.string (fileO k d)] w fun e w' =>
    e = .returned (.tuple #[.agg #[.int .i64 k, .string d], .int .i64 0]) ∧ Fr (fun _ => False) w w' := by
  refine vc_loose_Unpack_ok (R := fun v w' => v = .tuple #[.agg #[.int .i64 k, .string d], .int .i64 0] ∧ Fr (fun _ => False) w w') ?_ (fun v w' h => ⟨by rw [h.1], h.2⟩)
  intro w1 h1
  have f1 : Fr (fun _ => False) w w1 := by rw [h1]; exact .alloc _ _ _
  have hO1 : w1.heap[w.heap.size]? = some (.cells #[.int .i64 0, .string ⟨#[]⟩] T_api_Object (0, 0)) := by rw [h1]; exact alloc_new _ _
  clear h1
  have hfs := fileO_size hk hd h
  refine (zread_spec (fileO k d) (by omega) 0 65536 w1).mono ?_
  rintro e w3 ⟨rfl, _, f3⟩
  rw [fileO_read hk hd h]
  refine ⟨_, _, _, rfl, fun h => (by cases h), fun _ => ⟨fun hne => ?_, fun _ => ?_⟩⟩
  · rw [fileO_len] at hne
    simp at hne
  · have g3 := f1.trans' f3
    dsimp only
    rw [bs_self]
    refine (odecode_spec k hk d hd (ht.keep g3)).mono ?_
    rintro e w14 ⟨rfl, f14⟩
    obtain ⟨w18, hr18, hb18, f18⟩ := boxO_store ((f3.trans' f14).keep hO1 (by simp)) rfl k d
    exact ⟨_, _, _, rfl, w18, hr18, _, _, boxO_load hb18, rfl, (g3.trans' f14).trans f18 fun q hq e => by omega⟩
theorem lread_spec {k : Int} (hk : isKind k) {d : ByteArray} (hd : d.size ≤ 65000) (h : FileOK k d) {w : World} (ht : Tab10 w) {b : Nat} {l : Sl} {ys : List FileE} {size : Int} (hS : IsSnap w b l ys size) (hr : Rising ys)
    (hg : getE ys (pathO (idS k d)) = (fileO k d, 0)) : Calls Tryz.prog F_loose_Read #[.pointer (some ⟨b, 0, none⟩), .string (idS k d)] w fun e w' =>
    e = .returned (.tuple #[.agg #[.int .i64 k, .string d], .int .i64 0]) ∧ Fr (fun _ => False) w w' := by
  refine vc_loose_Read_ok (R := fun v w' => v = .tuple #[.agg #[.int .i64 k, .string d], .int .i64 0] ∧ Fr (fun _ => False) w w') ?_ (fun v w' h => ⟨by rw [h.1], h.2⟩)
  intro w1 h1
  have f1 : Fr (fun _ => False) w w1 := by rw [h1]; exact .alloc _ _ _
  have hO1 : w1.heap[w.heap.size]? = some (.cells #[.int .i64 0, .string ⟨#[]⟩] T_api_Object (0, 0)) := by rw [h1]; exact alloc_new _ _
  clear h1
  refine (lpath_spec _ (idO k d) w1).mono ?_
  rintro e w3 ⟨rfl, f3⟩
  refine ⟨_, _, rfl, fun h => (by cases h), fun _ => (get_spec (hS.keep (f1.trans' f3)) hr (pathO (idS k d))).mono ?_⟩
  rintro e w10 ⟨rfl, f10⟩
  rw [hg]
  have g10 := (f1.trans' f3).trans' f10
  refine ⟨_, _, rfl, fun h => (by cases h), fun _ => (lunpack_spec hk hd h (ht.keep g10)).mono ?_⟩
  rintro e w17 ⟨rfl, f17⟩
  refine ⟨_, _, _, rfl, fun w21 h21 => ?_⟩
  have f21 : Fr (fun _ => False) w17 w21 := by rw [h21]; exact .alloc _ _ _
  have hP21 : w21.heap[w17.heap.size]? = some (.cells #[.int .i64 0, .string ⟨#[]⟩] T_api_Object (0, 0)) := by rw [h21]; exact alloc_new _ _
  clear h21
  obtain ⟨w22, hr22, hb22, f22⟩ := boxO_store hP21 rfl k d
  have hs17 := ((f3.trans' f10).trans' f17).size
  have hlt1 := lt_blk hO1
  have g22 : Fr (fun _ => False) w w22 := ((g10.trans' f17).trans' f21).trans f22 fun q hq e => by have := (g10.trans' f17).size; omega
  have hO22 : w22.heap[w.heap.size]? = some (.cells #[.int .i64 0, .string ⟨#[]⟩] T_api_Object (0, 0)) := f22.keep ((((f3.trans' f10).trans' f17).trans' f21).keep hO1 (by simp)) (by omega)
  refine ⟨w22, hr22, fun h => (by cases h), fun _ => ⟨_, _, boxO_load hb22, (oid_spec k d hd (ht.keep g22)).mono ?_⟩⟩
  rintro e w29 ⟨⟨_, rfl⟩ | ⟨hno, rfl⟩, f29⟩
  rotate_left
  · exact absurd hk hno
  refine ⟨_, _, rfl, fun hne => ?_, fun _ => ⟨_, _, boxO_load (f29.keep hb22 (by simp)), ?_⟩⟩
  · simp at hne
  · obtain ⟨w37, hr37, hb37, f37⟩ := boxO_store (f29.keep hO22 (by simp)) rfl k d
    exact ⟨w37, hr37, _, _, boxO_load hb37, rfl, (g22.trans' f29).trans f37 fun q hq e => by omega⟩
end Go.Proofs.YtllegkmadljmaaaGreatDoor

/- Formulas of 3 Go functions of this seat (written by a program of the author's, vcgen.py), and that each is enough for the call. No condition. -/
set_option linter.unusedVariables false
namespace Go.Proofs.YtllegkmadljmaaaGreatDoor
open Go Vc Go.Proofs
set_option maxRecDepth 100000
def vc_odb_Open (x0 : Nat) (w : World) (R : Value → World → Prop) : Prop :=
 ∀ w1 : World,
 (w1 = World.alloc w (Obj.cells (Array.mk [Value.pointer (some (Addr.mk x0 0 none)), Value.slice none 0 0]) 78) →
 Calls Tryz.prog (38 : Nat) (Array.mk [Value.pointer (some (Addr.mk x0 0 none)), Value.string (ByteArray.mk (Array.mk [111, 98, 106, 101, 99, 116, 115, 47, 112, 97, 99, 107, 47, 112, 97, 99, 107, 45]))]) (w1) (fun e2 w3 =>
 ∃ l4 : Sl, (e2 = Ending.returned (Value.slice l4.1 l4.2 l4.3) ∧
 ∃ I5 : Int → World → Prop, ∃ I6 : Int → World → Nat, (I5 0 w3 ∧
 ∀ n7 : Int,
 ∀ w8 : World,
 (I5 n7 w8 →
 (((decide (n7 < (↑l4.2 : Int)) = true →
 ((0 ≤ n7 ∧
 n7 < (↑l4.2 : Int)) ∧
 ∃ a9 : Addr, (l4.1 = some a9 ∧
 ∃ s10 : ByteArray, (World.cell? w8 (Addr.add a9 (Int.toNat n7 * 1)) = some (Value.string s10) ∧
 (((0 : Int) ≤ (18 : Int) ∧
 18 ≤ (↑(ByteArray.size s10) : Int)) ∧
 Calls Tryz.prog (39 : Nat) (Array.mk [Value.string (ByteArray.extract s10 (Int.toNat 18) (ByteArray.size s10)), Value.string (ByteArray.mk (Array.mk [46, 105, 100, 120]))]) (w8) (fun e11 w12 =>
 ∃ s13 : ByteArray, ∃ b14 : Bool, (e11 = Ending.returned (Value.tuple (Array.mk [Value.string s13, Value.bool b14])) ∧
 ((((!b14) = true →
 (I5 (IntKind.wrap .i64 (n7 + 1)) w12 ∧
 I6 (IntKind.wrap .i64 (n7 + 1)) w12 < I6 n7 w8))) ∧
 ((!b14) = false →
 Calls Tryz.prog (40 : Nat) (Array.mk [Value.string s13]) (w12) (fun e15 w16 =>
 ∃ b17 : Bool, (e15 = Ending.returned (Value.bool b17) ∧
 ((((!b17) = true →
 (I5 (IntKind.wrap .i64 (n7 + 1)) w16 ∧
 I6 (IntKind.wrap .i64 (n7 + 1)) w16 < I6 n7 w8))) ∧
 ((!b17) = false →
 Calls Tryz.prog (41 : Nat) (Array.mk [Value.pointer (some (Addr.mk x0 0 none)), Value.string s10]) (w16) (fun e18 w19 =>
 ∃ s20 : ByteArray, ∃ n21 : Int, (e18 = Ending.returned (Value.tuple (Array.mk [Value.string s20, Value.int .i64 n21])) ∧
 Calls Tryz.prog (42 : Nat) (Array.mk [Value.string s20]) (w19) (fun e22 w23 =>
 ∃ p24 : Option Addr, ∃ n25 : Int, (e22 = Ending.returned (Value.tuple (Array.mk [Value.pointer p24, Value.int .i64 n25])) ∧
 ((((n25 != 0) = true →
 R (Value.tuple (Array.mk [Value.pointer none, Value.int .i64 n25])) w23)) ∧
 ((n25 != 0) = false →
 (ByteArray.size (ByteArray.mk (Array.mk [111, 98, 106, 101, 99, 116, 115, 47, 112, 97, 99, 107, 47, 112, 97, 99, 107, 45])) + ByteArray.size s13 ≤ 9223372036854775807 ∧
 (ByteArray.size (ByteArray.mk (Array.mk [111, 98, 106, 101, 99, 116, 115, 47, 112, 97, 99, 107, 47, 112, 97, 99, 107, 45]) ++ s13) + ByteArray.size (ByteArray.mk (Array.mk [46, 112, 97, 99, 107])) ≤ 9223372036854775807 ∧
 Calls Tryz.prog (41 : Nat) (Array.mk [Value.pointer (some (Addr.mk x0 0 none)), Value.string (ByteArray.mk (Array.mk [111, 98, 106, 101, 99, 116, 115, 47, 112, 97, 99, 107, 47, 112, 97, 99, 107, 45]) ++ s13 ++ ByteArray.mk (Array.mk [46, 112, 97, 99, 107]))]) (w23) (fun e26 w27 =>
 ∃ s28 : ByteArray, ∃ n29 : Int, (e26 = Ending.returned (Value.tuple (Array.mk [Value.string s28, Value.int .i64 n29])) ∧
 ((((n29 != 0) = true →
 R (Value.tuple (Array.mk [Value.pointer none, Value.int .i64 n29])) w27)) ∧
 ((n29 != 0) = false →
 Calls Tryz.prog (43 : Nat) (Array.mk [Value.string s28]) (w27) (fun e30 w31 =>
 ∃ n32 : Int, ∃ n33 : Int, (e30 = Ending.returned (Value.tuple (Array.mk [Value.int .i64 n32, Value.int .i64 n33])) ∧
 ((((n33 != 0) = true →
 R (Value.tuple (Array.mk [Value.pointer none, Value.int .i64 n33])) w31)) ∧
 ((n33 != 0) = false →
 Calls Tryz.prog (44 : Nat) (Array.mk [Value.pointer p24]) (w31) (fun e34 w35 =>
 ∃ n36 : Int, (e34 = Ending.returned (Value.int .i64 n36) ∧
 ((((n32 != n36) = true →
 R (Value.tuple (Array.mk [Value.pointer none, Value.int .i64 4])) w35)) ∧
 ((n32 != n36) = false →
 ((0 ≤ IntKind.wrap .i64 ((↑(ByteArray.size s28) : Int) - 20) ∧
 IntKind.wrap .i64 ((↑(ByteArray.size s28) : Int) - 20) ≤ (↑(ByteArray.size s28) : Int)) ∧
 Calls Tryz.prog (29 : Nat) (Array.mk [Value.string (ByteArray.extract s28 (Int.toNat (IntKind.wrap .i64 ((↑(ByteArray.size s28) : Int) - 20))) (ByteArray.size s28))]) (w35) (fun e37 w38 =>
 ∃ s39 : ByteArray, (e37 = Ending.returned (Value.string s39) ∧
 Calls Tryz.prog (45 : Nat) (Array.mk [Value.pointer p24]) (w38) (fun e40 w41 =>
 ∃ s42 : ByteArray, (e40 = Ending.returned (Value.string s42) ∧
 ((((!ByteArray.toList s39 == ByteArray.toList s42) = true →
 R (Value.tuple (Array.mk [Value.pointer none, Value.int .i64 5])) w41)) ∧
 ((!ByteArray.toList s39 == ByteArray.toList s42) = false →
 ∃ l43 : Sl, (World.cell? w41 (Addr.mk (Array.size (World.heap w)) 1 none) = some (Value.slice l43.1 l43.2 l43.3) ∧
 ∀ w44 : World,
 (w44 = World.alloc w41 (Obj.cells (Array.mk [Value.string s28, Value.pointer p24]) 89) →
 ∃ w45 : World, ∃ l46 : Sl, (Sem.run Tryz.prog (Builtin.append_ (Array.mk [76, 76]) 76 (Array.mk [Value.slice l43.1 l43.2 l43.3, Value.slice (some (Addr.mk (Array.size (World.heap w41)) 0 none)) 1 1])) w44 = Result.ok (Value.slice l46.1 l46.2 l46.3) w45 ∧
 (Wr w45 (Addr.mk (Array.size (World.heap w)) 1 none) ∧
 ∀ w47 : World,
 (w47 = World.setCell w45 (Addr.mk (Array.size (World.heap w)) 1 none) (Value.slice l46.1 l46.2 l46.3) →
 (I5 (IntKind.wrap .i64 (n7 + 1)) w47 ∧
 I6 (IntKind.wrap .i64 (n7 + 1)) w47 < I6 n7 w8))))))))))))))))))))))))))))))))))))))))))))))) ∧
 (decide (n7 < (↑l4.2 : Int)) = false →
 R (Value.tuple (Array.mk [Value.pointer (some (Addr.mk (Array.size (World.heap w)) 0 none)), Value.int .i64 0])) w8)))))))
theorem vc_odb_Open_ok {x0 : Nat} {w : World} {R : Value → World → Prop} {R' : Ending → World → Prop} (h : vc_odb_Open x0 w R) (hR : ∀ v w', R v w' → R' (.returned v) w') :
    Calls Tryz.prog 11 #[.pointer (some ⟨x0, 0, none⟩)] w R' :=
  calls_of_body (vs := [(.pointer (some ⟨x0, 0, none⟩), true)]) (ty := ty) (ann := ⟨[], [(3, [(21, .int .i64)])], [], []⟩) (c := Tryz.f11.body.getD .skip) (by kernel_rfl) Tryz.func11 (by kernel_rfl) (by kernel_rfl) (Eq.mp (by kernel_rfl) h) hR
def vc_odb_Odb_Get (x0 : Nat) (x1 : ByteArray) (w : World) (R : Value → World → Prop) : Prop :=
 ∀ w1 : World,
 (w1 = World.alloc w (Obj.cells (Array.mk [Value.int .i64 0, Value.string (ByteArray.mk (Array.mk []))]) 33) →
 ∃ p2 : Option Addr, (World.cell? w1 (Addr.mk x0 0 none) = some (Value.pointer p2) ∧
 Calls Tryz.prog (80 : Nat) (Array.mk [Value.pointer p2, Value.string x1]) (w1) (fun e3 w4 =>
 ∃ n5 : Int, ∃ s6 : ByteArray, ∃ n7 : Int, (e3 = Ending.returned (Value.tuple (Array.mk [Value.agg (Array.mk [Value.int .i64 n5, Value.string s6]), Value.int .i64 n7])) ∧
 ∀ w8 : World,
 (w8 = World.alloc w4 (Obj.cells (Array.mk [Value.int .i64 0, Value.string (ByteArray.mk (Array.mk []))]) 33) →
 ∃ w9 : World, (Sem.run Tryz.prog (storeVar 33 (Addr.mk (Array.size (World.heap w4)) 0 none) (Value.agg (Array.mk [Value.int .i64 n5, Value.string s6]))) w8 = Result.ok PUnit.unit w9 ∧
 ((((n7 != 7) = true →
 ∃ n10 : Int, ∃ s11 : ByteArray, (Sem.run Tryz.prog (loadVar 33 (Addr.mk (Array.size (World.heap w4)) 0 none)) w9 = Result.ok (Value.agg (Array.mk [Value.int .i64 n10, Value.string s11])) w9 ∧
 ∃ w12 : World, (Sem.run Tryz.prog (storeVar 33 (Addr.mk (Array.size (World.heap w)) 0 none) (Value.agg (Array.mk [Value.int .i64 n10, Value.string s11]))) w9 = Result.ok PUnit.unit w12 ∧
 ∃ n13 : Int, ∃ s14 : ByteArray, (Sem.run Tryz.prog (loadVar 33 (Addr.mk (Array.size (World.heap w)) 0 none)) w12 = Result.ok (Value.agg (Array.mk [Value.int .i64 n13, Value.string s14])) w12 ∧
 R (Value.tuple (Array.mk [Value.agg (Array.mk [Value.int .i64 n13, Value.string s14]), Value.int .i64 n7])) w12))))) ∧
 ((n7 != 7) = false →
 ∃ l15 : Sl, (World.cell? w9 (Addr.mk x0 1 none) = some (Value.slice l15.1 l15.2 l15.3) ∧
 ∃ I16 : Int → World → Prop, ∃ I17 : Int → World → Nat, (I16 0 w9 ∧
 ∀ n18 : Int,
 ∀ w19 : World,
 (I16 n18 w19 →
 (((decide (n18 < (↑l15.2 : Int)) = true →
 ((0 ≤ n18 ∧
 n18 < (↑l15.2 : Int)) ∧
 ∃ a20 : Addr, (l15.1 = some a20 ∧
 ∃ s21 : ByteArray, ∃ p22 : Option Addr, (Sem.run Tryz.prog (loadVar 89 (Addr.add a20 (Int.toNat n18 * 2))) w19 = Result.ok (Value.agg (Array.mk [Value.string s21, Value.pointer p22])) w19 ∧
 ∀ w23 : World,
 (w23 = World.alloc w19 (Obj.cells (Array.mk [Value.string (ByteArray.mk (Array.mk [])), Value.pointer none]) 89) →
 ∃ w24 : World, (Sem.run Tryz.prog (storeVar 89 (Addr.mk (Array.size (World.heap w19)) 0 none) (Value.agg (Array.mk [Value.string s21, Value.pointer p22]))) w23 = Result.ok PUnit.unit w24 ∧
 ∃ p25 : Option Addr, (World.cell? w24 (Addr.mk (Array.size (World.heap w19)) 1 none) = some (Value.pointer p25) ∧
 Calls Tryz.prog (81 : Nat) (Array.mk [Value.pointer p25, Value.string x1]) (w24) (fun e26 w27 =>
 ∃ s28 : ByteArray, ∃ n29 : Int, ∃ n30 : Int, ∃ n31 : Int, (e26 = Ending.returned (Value.tuple (Array.mk [Value.agg (Array.mk [Value.string s28, Value.int .i64 n29, Value.int .u32 n30]), Value.int .i64 n31])) ∧
 ∀ w32 : World,
 (w32 = World.alloc w27 (Obj.cells (Array.mk [Value.string (ByteArray.mk (Array.mk [])), Value.int .i64 0, Value.int .u32 0]) 130) →
 ∃ w33 : World, (Sem.run Tryz.prog (storeVar 130 (Addr.mk (Array.size (World.heap w27)) 0 none) (Value.agg (Array.mk [Value.string s28, Value.int .i64 n29, Value.int .u32 n30]))) w32 = Result.ok PUnit.unit w33 ∧
 ((((n31 == 0) = true →
 ∃ s34 : ByteArray, ∃ p35 : Option Addr, (Sem.run Tryz.prog (loadVar 89 (Addr.mk (Array.size (World.heap w19)) 0 none)) w33 = Result.ok (Value.agg (Array.mk [Value.string s34, Value.pointer p35])) w33 ∧
 Calls Tryz.prog (82 : Nat) (Array.mk [Value.agg (Array.mk [Value.string s34, Value.pointer p35]), Value.string x1]) (w33) (fun e36 w37 =>
 ∃ n38 : Int, ∃ s39 : ByteArray, ∃ n40 : Int, (e36 = Ending.returned (Value.tuple (Array.mk [Value.agg (Array.mk [Value.int .i64 n38, Value.string s39]), Value.int .i64 n40])) ∧
 ∃ w41 : World, (Sem.run Tryz.prog (storeVar 33 (Addr.mk (Array.size (World.heap w)) 0 none) (Value.agg (Array.mk [Value.int .i64 n38, Value.string s39]))) w37 = Result.ok PUnit.unit w41 ∧
 ∃ n42 : Int, ∃ s43 : ByteArray, (Sem.run Tryz.prog (loadVar 33 (Addr.mk (Array.size (World.heap w)) 0 none)) w41 = Result.ok (Value.agg (Array.mk [Value.int .i64 n42, Value.string s43])) w41 ∧
 R (Value.tuple (Array.mk [Value.agg (Array.mk [Value.int .i64 n42, Value.string s43]), Value.int .i64 n40])) w41))))))) ∧
 ((n31 == 0) = false →
 (I16 (IntKind.wrap .i64 (n18 + 1)) w33 ∧
 I17 (IntKind.wrap .i64 (n18 + 1)) w33 < I17 n18 w19))))))))))))))) ∧
 (decide (n18 < (↑l15.2 : Int)) = false →
 ∃ w44 : World, (Sem.run Tryz.prog (storeVar 33 (Addr.mk (Array.size (World.heap w)) 0 none) (Value.agg (Array.mk [Value.int .i64 0, Value.string (ByteArray.mk (Array.mk []))]))) w19 = Result.ok PUnit.unit w44 ∧
 ∃ n45 : Int, ∃ s46 : ByteArray, (Sem.run Tryz.prog (loadVar 33 (Addr.mk (Array.size (World.heap w)) 0 none)) w44 = Result.ok (Value.agg (Array.mk [Value.int .i64 n45, Value.string s46])) w44 ∧
 R (Value.tuple (Array.mk [Value.agg (Array.mk [Value.int .i64 n45, Value.string s46]), Value.int .i64 7])) w44)))))))))))))))
theorem vc_odb_Odb_Get_ok {x0 : Nat} {x1 : ByteArray} {w : World} {R : Value → World → Prop} {R' : Ending → World → Prop} (h : vc_odb_Odb_Get x0 x1 w R) (hR : ∀ v w', R v w' → R' (.returned v) w') :
    Calls Tryz.prog 49 #[.pointer (some ⟨x0, 0, none⟩), .string x1] w R' :=
  calls_of_body (vs := [(.pointer (some ⟨x0, 0, none⟩), true), (.string x1, false)]) (ty := ty) (ann := ⟨[], [(5, [(30, .int .i64)])], [], []⟩) (c := Tryz.f49.body.getD .skip) (by kernel_rfl) Tryz.func49 (by kernel_rfl) (by kernel_rfl) (Eq.mp (by kernel_rfl) h) hR
def vc_odb_Odb_Kind (x0 : Nat) (x1 : ByteArray) (x2 : Int) (w : World) (R : Value → World → Prop) : Prop :=
 Calls Tryz.prog (49 : Nat) (Array.mk [Value.pointer (some (Addr.mk x0 0 none)), Value.string x1]) (w) (fun e1 w2 =>
 ∃ n3 : Int, ∃ s4 : ByteArray, ∃ n5 : Int, (e1 = Ending.returned (Value.tuple (Array.mk [Value.agg (Array.mk [Value.int .i64 n3, Value.string s4]), Value.int .i64 n5])) ∧
 ∀ w6 : World,
 (w6 = World.alloc w2 (Obj.cells (Array.mk [Value.int .i64 0, Value.string (ByteArray.mk (Array.mk []))]) 33) →
 ∃ w7 : World, (Sem.run Tryz.prog (storeVar 33 (Addr.mk (Array.size (World.heap w2)) 0 none) (Value.agg (Array.mk [Value.int .i64 n3, Value.string s4]))) w6 = Result.ok PUnit.unit w7 ∧
 ((((n5 == 0) = true →
 ∃ n8 : Int, (World.cell? w7 (Addr.mk (Array.size (World.heap w2)) 0 none) = some (Value.int .i64 n8) ∧
 ((((n8 != x2) = true →
 (((((10 : Int) != (0 : Int)) = true →
 R (Value.tuple (Array.mk [Value.string (ByteArray.mk (Array.mk [])), Value.int .i64 10])) w7)) ∧
 (((10 : Int) != (0 : Int)) = false →
 ∃ s9 : ByteArray, (World.cell? w7 (Addr.mk (Array.size (World.heap w2)) 1 none) = some (Value.string s9) ∧
 R (Value.tuple (Array.mk [Value.string s9, Value.int .i64 0])) w7))))) ∧
 ((n8 != x2) = false →
 ((((n5 != 0) = true →
 R (Value.tuple (Array.mk [Value.string (ByteArray.mk (Array.mk [])), Value.int .i64 n5])) w7)) ∧
 ((n5 != 0) = false →
 ∃ s10 : ByteArray, (World.cell? w7 (Addr.mk (Array.size (World.heap w2)) 1 none) = some (Value.string s10) ∧
 R (Value.tuple (Array.mk [Value.string s10, Value.int .i64 0])) w7)))))))) ∧
 ((n5 == 0) = false →
 ((((n5 != 0) = true →
 R (Value.tuple (Array.mk [Value.string (ByteArray.mk (Array.mk [])), Value.int .i64 n5])) w7)) ∧
 ((n5 != 0) = false →
 ∃ s11 : ByteArray, (World.cell? w7 (Addr.mk (Array.size (World.heap w2)) 1 none) = some (Value.string s11) ∧
 R (Value.tuple (Array.mk [Value.string s11, Value.int .i64 0])) w7)))))))))
theorem vc_odb_Odb_Kind_ok {x0 : Nat} {x1 : ByteArray} {x2 : Int} {w : World} {R : Value → World → Prop} {R' : Ending → World → Prop} (h : vc_odb_Odb_Kind x0 x1 x2 w R) (hR : ∀ v w', R v w' → R' (.returned v) w') :
    Calls Tryz.prog 14 #[.pointer (some ⟨x0, 0, none⟩), .string x1, .int .i64 x2] w R' :=
  calls_of_body (vs := [(.pointer (some ⟨x0, 0, none⟩), true), (.string x1, false), (.int .i64 x2, false)]) (ty := ty) (ann := ⟨[], [], [], []⟩) (c := Tryz.f14.body.getD .skip) (by kernel_rfl) Tryz.func14 (by kernel_rfl) (by kernel_rfl) (Eq.mp (by kernel_rfl) h) hR
end Go.Proofs.YtllegkmadljmaaaGreatDoor

/- The package odb over one loose object, no pack: Open, Get, Kind. Conditions: as named. -/
set_option linter.unusedVariables false
namespace Go.Proofs.YtllegkmadljmaaaGreatDoor
open Go Vc HexM ShaM SumM Go.Proofs

theorem oopen_spec {w : World} {b : Nat} {l : Sl} {ys : List FileE} {size : Int} (hS : IsSnap w b l ys size) (hr : Rising ys) (hp : underE ys packS = []) : Calls Tryz.prog F_odb_Open #[.pointer (some ⟨b, 0, none⟩)] w fun e w' =>
    e = .returned (.tuple #[.pointer (some ⟨w.heap.size, 0, none⟩), .int .i64 0]) ∧ w'.heap[w.heap.size]? = some (.cells #[.pointer (some ⟨b, 0, none⟩), .slice none 0 0] T_odb_Odb (0, 0)) ∧ Fr (fun _ => False) w w' := by
  refine vc_odb_Open_ok (R := fun v w' => v = .tuple #[.pointer (some ⟨w.heap.size, 0, none⟩), .int .i64 0] ∧ w'.heap[w.heap.size]? = some (.cells #[.pointer (some ⟨b, 0, none⟩), .slice none 0 0] T_odb_Odb (0, 0)) ∧ Fr (fun _ => False) w w') ?_ (fun v w' h => ⟨by rw [h.1], h.2⟩)
  intro w1 h1
  have f1 : Fr (fun _ => False) w w1 := by rw [h1]; exact .alloc _ _ _
  have hD1 : w1.heap[w.heap.size]? = some (.cells #[.pointer (some ⟨b, 0, none⟩), .slice none 0 0] T_odb_Odb (0, 0)) := by rw [h1]; exact alloc_new _ _
  clear h1
  refine (under_spec (hS.keep f1) hr packS).mono ?_
  rintro e w3 ⟨o, rfl, ho, f3⟩
  rw [hp] at ho
  have hl0 : o.len = 0 := by have := ho.len; simpa [strV] using this
  refine ⟨o, rfl, fun i w' => i = 0 ∧ w' = w3, fun _ _ => 0, ⟨rfl, rfl⟩, ?_⟩
  rintro i w8 ⟨hi, hw⟩
  subst hi
  replace hw := hw.symm
  subst hw
  refine ⟨fun hlt => ?_, fun _ => ⟨rfl, f3.keep hD1 (by simp), f1.trans' f3⟩⟩
  have := of_decide_eq_true hlt
  omega
theorem oget_spec {k : Int} (hk : isKind k) {d : ByteArray} (hd : d.size ≤ 65000) (h : FileOK k d) {w : World} (ht : Tab10 w) {D b : Nat} {l : Sl} {ys : List FileE} {size : Int} (hS : IsSnap w b l ys size) (hr : Rising ys)
    (hg : getE ys (pathO (idS k d)) = (fileO k d, 0)) {s2 : Value} (hD : w.heap[D]? = some (.cells #[.pointer (some ⟨b, 0, none⟩), s2] T_odb_Odb (0, 0))) :
    Calls Tryz.prog F_odb_Odb_Get #[.pointer (some ⟨D, 0, none⟩), .string (idS k d)] w fun e w' => e = .returned (.tuple #[.agg #[.int .i64 k, .string d], .int .i64 0]) ∧ Fr (fun _ => False) w w' := by
  refine vc_odb_Odb_Get_ok (R := fun v w' => v = .tuple #[.agg #[.int .i64 k, .string d], .int .i64 0] ∧ Fr (fun _ => False) w w') ?_ (fun v w' h => ⟨by rw [h.1], h.2⟩)
  intro w1 h1
  have f1 : Fr (fun _ => False) w w1 := by rw [h1]; exact .alloc _ _ _
  have hO1 : w1.heap[w.heap.size]? = some (.cells #[.int .i64 0, .string ⟨#[]⟩] T_api_Object (0, 0)) := by rw [h1]; exact alloc_new _ _
  clear h1
  have hlt1 := lt_blk hO1
  refine ⟨some ⟨b, 0, none⟩, by rw [cell_blk (f1.keep hD (by simp))]; rfl, (lread_spec hk hd h (ht.keep f1) (hS.keep f1) hr hg).mono ?_⟩
  rintro e w4 ⟨rfl, f4⟩
  refine ⟨_, _, _, rfl, fun w8 h8 => ?_⟩
  have f8 : Fr (fun _ => False) w4 w8 := by rw [h8]; exact .alloc _ _ _
  have hP8 : w8.heap[w4.heap.size]? = some (.cells #[.int .i64 0, .string ⟨#[]⟩] T_api_Object (0, 0)) := by rw [h8]; exact alloc_new _ _
  clear h8
  have hs4 := f4.size
  obtain ⟨w9, hr9, hb9, f9⟩ := boxO_store hP8 rfl k d
  have hO9 := f9.keep ((f4.trans' f8).keep hO1 (by simp)) (by omega)
  refine ⟨w9, hr9, fun _ => ⟨_, _, boxO_load hb9, ?_⟩, fun h => (by cases h)⟩
  obtain ⟨w12, hr12, hb12, f12⟩ := boxO_store hO9 rfl k d
  refine ⟨w12, hr12, _, _, boxO_load hb12, rfl, ?_⟩
  exact (((f1.trans' f4).trans' f8).trans f9 fun q hq e => by have := f1.size; omega).trans f12 fun q hq e => by omega
theorem dkind_spec {k : Int} (hk : isKind k) {d : ByteArray} (hd : d.size ≤ 65000) (h : FileOK k d) {w : World} (ht : Tab10 w) {D b : Nat} {l : Sl} {ys : List FileE} {size : Int} (hS : IsSnap w b l ys size) (hr : Rising ys)
    (hg : getE ys (pathO (idS k d)) = (fileO k d, 0)) {s2 : Value} (hD : w.heap[D]? = some (.cells #[.pointer (some ⟨b, 0, none⟩), s2] T_odb_Odb (0, 0))) (q : Int) :
    Calls Tryz.prog F_odb_Odb_Kind #[.pointer (some ⟨D, 0, none⟩), .string (idS k d), .int .i64 q] w fun e w' => e = .returned (.tuple #[.string (if k = q then d else ⟨#[]⟩), .int .i64 (if k = q then 0 else 10)]) ∧ Fr (fun _ => False) w w' := by
  refine vc_odb_Odb_Kind_ok (R := fun v w' => v = .tuple #[.string (if k = q then d else ⟨#[]⟩), .int .i64 (if k = q then 0 else 10)] ∧ Fr (fun _ => False) w w') ?_ (fun v w' h => ⟨by rw [h.1], h.2⟩)
  refine (oget_spec hk hd h ht hS hr hg hD).mono ?_
  rintro e w2 ⟨rfl, f2⟩
  refine ⟨_, _, _, rfl, fun w6 h6 => ?_⟩
  have f6 : Fr (fun _ => False) w2 w6 := by rw [h6]; exact .alloc _ _ _
  have hP6 : w6.heap[w2.heap.size]? = some (.cells #[.int .i64 0, .string ⟨#[]⟩] T_api_Object (0, 0)) := by rw [h6]; exact alloc_new _ _
  clear h6
  obtain ⟨w7, hr7, hb7, f7⟩ := boxO_store hP6 rfl k d
  have g7 : Fr (fun _ => False) w w7 := (f2.trans' f6).trans f7 fun q hq e => by have := f2.size; omega
  refine ⟨w7, hr7, fun _ => ⟨k, by rw [cell_blk hb7]; rfl, fun hne => ⟨fun _ => ⟨?_, g7⟩, fun h => (by cases h)⟩, fun heq => ⟨fun h => (by cases h), fun _ => ⟨d, by rw [cell_blk hb7]; rfl, ?_, g7⟩⟩⟩, fun h => (by cases h)⟩
  · have hne : k ≠ q := by simpa using hne
    rw [if_neg hne, if_neg hne]
  · have heq : k = q := by simpa using heq
    rw [if_pos heq, if_pos heq]
end Go.Proofs.YtllegkmadljmaaaGreatDoor

/- Commits and tags, plain: when they are in form, what bytes they have; numbers of any size. Conditions: as named. -/
set_option linter.unusedVariables false
namespace Go.Proofs.YtllegkmadljmaaaGreatDoor
open Go Vc HexM Go.Proofs

structure SgE where
  who : ByteArray
  time : Int
  zone : Int
structure ChE where
  tree : ByteArray
  pars : List ByteArray
  au : SgE
  co : SgE
  msg : ByteArray
structure TgE where
  obj : ByteArray
  kind : Int
  name : ByteArray
  tg : SgE
  msg : ByteArray
def lineB (s : ByteArray) : Bool := decide (s ≠ ⟨#[]⟩) && decide (s.size ≤ 100) && !(s.data.toList.any fun c => [10, 0].contains c)
def signedB (x : SgE) : Bool := lineB x.who && decide (0 ≤ x.time) && decide (x.time ≤ 253402300799) && decide (-840 ≤ x.zone) && decide (x.zone ≤ 840)
def zoneL (n : Int) : List UInt8 := (if n < 0 then 45 else 43) :: (dec3 (10000 + n.natAbs / 60 * 100 + n.natAbs % 60)).drop 1
def signL (x : SgE) : List UInt8 := x.who.data.toList ++ 32 :: (dec3 x.time.toNat ++ 32 :: zoneL x.zone)
def checkC (c : ChE) : Int := if 16 < c.pars.length then 2 else if c.pars.all (fun p => isId p.data.toList) = false then 4 else if isId c.tree.data.toList && signedB c.au && signedB c.co then 0 else 4
def checkT (t : TgE) : Int := if isId t.obj.data.toList && decide (kname t.kind ≠ ⟨#[]⟩) && lineB t.name && signedB t.tg then 0 else 4
/-- A line: a word, a blank, a text, the line's end. -/
def lineL (word v rest : List UInt8) : List UInt8 := word ++ 32 :: (v ++ 10 :: rest)
def wTree : List UInt8 := [116, 114, 101, 101]
def wParent : List UInt8 := [112, 97, 114, 101, 110, 116]
def wAuthor : List UInt8 := [97, 117, 116, 104, 111, 114]
def wCommitter : List UInt8 := [99, 111, 109, 109, 105, 116, 116, 101, 114]
def wObject : List UInt8 := [111, 98, 106, 101, 99, 116]
def wType : List UInt8 := [116, 121, 112, 101]
def wTag : List UInt8 := [116, 97, 103]
def wTagger : List UInt8 := [116, 97, 103, 103, 101, 114]
def parL (p : ByteArray) : List UInt8 := lineL wParent p.data.toList []
def fmtL (c : ChE) : List UInt8 := lineL wTree c.tree.data.toList (c.pars.flatMap parL ++ lineL wAuthor (signL c.au) (lineL wCommitter (signL c.co) (10 :: c.msg.data.toList)))
def fmtC (c : ChE) : ByteArray := ⟨(fmtL c).toArray⟩
def tagL (t : TgE) : List UInt8 := lineL wObject t.obj.data.toList (lineL wType (kname t.kind).data.toList (lineL wTag t.name.data.toList (lineL wTagger (signL t.tg) (10 :: t.msg.data.toList))))
def fmtT (t : TgE) : ByteArray := ⟨(tagL t).toArray⟩
theorem lineB_iff (s : ByteArray) : lineB s = true ↔ s ≠ ⟨#[]⟩ ∧ s.size ≤ 100 ∧ (10 : UInt8) ∉ s.data.toList ∧ (0 : UInt8) ∉ s.data.toList := by
  unfold lineB
  rw [Bool.and_eq_true, Bool.and_eq_true, decide_eq_true_eq, decide_eq_true_eq, Bool.not_eq_true', ← Bool.not_eq_true, List.any_eq_true]
  constructor
  · rintro ⟨⟨h1, h2⟩, h3⟩
    exact ⟨h1, h2, fun h => h3 ⟨10, h, rfl⟩, fun h => h3 ⟨0, h, rfl⟩⟩
  · rintro ⟨h1, h2, h3, h4⟩
    refine ⟨⟨h1, h2⟩, ?_⟩
    rintro ⟨x, hx, hc⟩
    rw [List.contains_iff_mem] at hc
    simp only [List.mem_cons, List.mem_nil_iff, or_false] at hc
    rcases hc with rfl | rfl
    · exact h3 hx
    · exact h4 hx
theorem signedB_iff (x : SgE) : signedB x = true ↔ lineB x.who = true ∧ 0 ≤ x.time ∧ x.time ≤ 253402300799 ∧ -840 ≤ x.zone ∧ x.zone ≤ 840 := by
  unfold signedB
  simp only [Bool.and_eq_true, decide_eq_true_eq, and_assoc]
/-- Numbers of up to twelve digits. -/
theorem dec_facts12 (n : Nat) (hn : n < 1000000000000) : Lib.atoi (dec3 n) = some (n : Int) ∧ (dec3 n).length ≤ 12 ∧ (∀ b ∈ dec3 n, 48 ≤ b.toNat ∧ b.toNat ≤ 57) := by
  have hd := dec_digits n
  refine ⟨?_, dec_len 11 n (by omega), hd⟩
  have hf := dec_from n
  unfold dec3
  cases hl : Lib.decDigits n with
  | nil => exact absurd hl (dec_ne n)
  | cons b r =>
    rw [hl] at hd hf
    have hb := hd b List.mem_cons_self
    have n45 : (b == 45) = false := by
      rw [beq_eq_false_iff_ne]; rintro rfl; exact absurd hb.1 (by decide)
    have n43 : (b == 43) = false := by
      rw [beq_eq_false_iff_ne]; rintro rfl; exact absurd hb.1 (by decide)
    unfold Lib.atoi
    simp only [n45, n43]
    unfold Lib.decNat
    simp [hf]
theorem itoa12 (n : Nat) (hn : n < 1000000000000) {w : World} (ht : Tab10 w) : Calls Tryz.prog F_strconv_Itoa #[.int .i64 (n : Int)] w fun e w' => e = .returned (.string ⟨(dec3 n).toArray⟩) ∧ Fr (fun _ => False) w w' :=
  (Any.strconv_Itoa laysM171 (n : Int) (by omega) (by omega) w ht).mono fun e w' ⟨h, k, os, hw⟩ => ⟨by rw [h, itoa_dec], by rw [hw]; exact ogrow_fr _ _ _⟩
theorem dec5 (u : Nat) (h1 : 10000 ≤ u) (h2 : u < 20000) : Lib.decDigits u = [49, UInt8.ofNat (48 + u / 1000 % 10), UInt8.ofNat (48 + u / 100 % 10), UInt8.ofNat (48 + u / 10 % 10), UInt8.ofNat (48 + u % 10)] := by
  rw [Lib.decDigits, dif_neg (by omega), Lib.decDigits, dif_neg (by omega), Lib.decDigits, dif_neg (by omega), Lib.decDigits, dif_neg (by omega), Lib.decDigits, dif_pos (by omega)]
  have e1 : u / 10 / 10 / 10 / 10 = 1 := by omega
  have e2 : u / 10 / 10 / 10 = u / 1000 := by omega
  have e3 : u / 10 / 10 = u / 100 := by omega
  rw [e1, e2, e3]
  rfl
/-- The four digits of a zone. -/
theorem zone_digits (n : Nat) (hn : n ≤ 840) : ((dec3 (10000 + n / 60 * 100 + n % 60)).length = 5 ∧ Lib.atoi ((dec3 (10000 + n / 60 * 100 + n % 60)).drop 1) = some ((n / 60 * 100 + n % 60 : Nat) : Int) ∧ ∀ b ∈ (dec3 (10000 + n / 60 * 100 + n % 60)).drop 1, 48 ≤ b.toNat ∧ b.toNat ≤ 57) := by
  obtain ⟨u, hu⟩ : ∃ u, u = 10000 + n / 60 * 100 + n % 60 := ⟨_, rfl⟩
  rw [← hu]
  refine ⟨?_, ?_, fun b hb => dec_digits u b (List.mem_of_mem_drop hb)⟩
  · unfold dec3; rw [dec5 u (by omega) (by omega)]; rfl
  unfold dec3
  rw [dec5 u (by omega) (by omega), List.drop_succ_cons, List.drop_zero]
  have hd : ∀ k, k < 10 → (UInt8.ofNat (48 + k) == 45) = false ∧ (UInt8.ofNat (48 + k) == 43) = false := by decide
  obtain ⟨n45, n43⟩ := hd (u / 1000 % 10) (by omega)
  unfold Lib.atoi
  simp only [n45, n43]
  unfold Lib.decNat
  simp only [Lib.decFrom, digit_val (show u / 1000 % 10 < 10 by omega), digit_val (show u / 100 % 10 < 10 by omega), digit_val (show u / 10 % 10 < 10 by omega), digit_val (show u % 10 < 10 by omega)]
  simp
  omega
theorem zoneL_len (z : Int) (h1 : -840 ≤ z) (h2 : z ≤ 840) : (zoneL z).length = 5 := by
  unfold zoneL
  have := (zone_digits z.natAbs (by omega)).1
  rw [List.length_cons, List.length_drop, this]
theorem zoneL_digits (z : Int) (h1 : -840 ≤ z) (h2 : z ≤ 840) : ∀ b ∈ zoneL z, b = 43 ∨ b = 45 ∨ (48 ≤ b.toNat ∧ b.toNat ≤ 57) := by
  intro b hb
  unfold zoneL at hb
  rcases List.mem_cons.1 hb with rfl | hb
  · split
    · exact .inr (.inl rfl)
    · exact .inl rfl
  · exact .inr (.inr ((zone_digits z.natAbs (by omega)).2.2 b hb))
theorem signL_no {x : SgE} (h : signedB x = true) : (10 : UInt8) ∉ signL x ∧ (signL x).length ≤ 119 := by
  obtain ⟨hl, t0, t1, z0, z1⟩ := (signedB_iff x).1 h
  obtain ⟨l1, l2, l3, l4⟩ := (lineB_iff _).1 hl
  obtain ⟨d1, d2, d3⟩ := dec_facts12 x.time.toNat (by omega)
  refine ⟨fun hm => ?_, ?_⟩
  · unfold signL at hm
    rcases List.mem_append.1 hm with hm | hm
    · exact l3 hm
    rcases List.mem_cons.1 hm with hm | hm
    · cases hm
    rcases List.mem_append.1 hm with hm | hm
    · exact absurd (d3 _ hm).1 (by decide)
    rcases List.mem_cons.1 hm with hm | hm
    · cases hm
    rcases zoneL_digits _ z0 z1 _ hm with h | h | h
    · cases h
    · cases h
    · exact absurd h.1 (by decide)
  · unfold signL
    rw [List.length_append, List.length_cons, List.length_append, List.length_cons, zoneL_len _ z0 z1, bs_len]
    omega
end Go.Proofs.YtllegkmadljmaaaGreatDoor

/- Formulas of 8 Go functions of this seat (written by a program of the author's, vcgen.py), and that each is enough for the call. No condition. -/
set_option linter.unusedVariables false
namespace Go.Proofs.YtllegkmadljmaaaGreatDoor
open Go Vc Go.Proofs
set_option maxRecDepth 100000
def vc_commit_Line (x0 : ByteArray) (w : World) (R : Value → World → Prop) : Prop :=
 ((((!ByteArray.toList x0 == ByteArray.toList (ByteArray.mk (Array.mk []))) = true →
 (((decide ((↑(ByteArray.size x0) : Int) ≤ 100) = true →
 Calls Tryz.prog (26 : Nat) (Array.mk [Value.string x0, Value.string (ByteArray.mk (Array.mk [10, 0]))]) (w) (fun e1 w2 =>
 ∃ b3 : Bool, (e1 = Ending.returned (Value.bool b3) ∧
 R (Value.bool !b3) w2)))) ∧
 (decide ((↑(ByteArray.size x0) : Int) ≤ 100) = false →
 R (Value.bool false) w)))) ∧
 ((!ByteArray.toList x0 == ByteArray.toList (ByteArray.mk (Array.mk []))) = false →
 R (Value.bool false) w))
theorem vc_commit_Line_ok {x0 : ByteArray} {w : World} {R : Value → World → Prop} {R' : Ending → World → Prop} (h : vc_commit_Line x0 w R) (hR : ∀ v w', R v w' → R' (.returned v) w') :
    Calls Tryz.prog 68 #[.string x0] w R' :=
  calls_of_body (vs := [(.string x0, false)]) (ty := ty) (ann := ⟨[], [], [], []⟩) (c := Tryz.f68.body.getD .skip) (by kernel_rfl) Tryz.func68 (by kernel_rfl) (by kernel_rfl) (Eq.mp (by kernel_rfl) h) hR
def vc_commit_signed (x0_0 : ByteArray) (x0_1 : Int) (x0_2 : Int) (w : World) (R : Value → World → Prop) : Prop :=
 ∀ w1 : World,
 (w1 = World.alloc w (Obj.cells (Array.mk [Value.string x0_0, Value.int .i64 x0_1, Value.int .i64 x0_2]) 24) →
 ∃ s2 : ByteArray, (World.cell? w1 (Addr.mk (Array.size (World.heap w)) 0 none) = some (Value.string s2) ∧
 Calls Tryz.prog (68 : Nat) (Array.mk [Value.string s2]) (w1) (fun e3 w4 =>
 ∃ b5 : Bool, (e3 = Ending.returned (Value.bool b5) ∧
 (((b5 = true →
 ∃ n6 : Int, (World.cell? w4 (Addr.mk (Array.size (World.heap w)) 1 none) = some (Value.int .i64 n6) ∧
 (((decide (n6 ≥ 0) = true →
 ∃ n7 : Int, (World.cell? w4 (Addr.mk (Array.size (World.heap w)) 1 none) = some (Value.int .i64 n7) ∧
 (((decide (n7 ≤ 253402300799) = true →
 ∃ n8 : Int, (World.cell? w4 (Addr.mk (Array.size (World.heap w)) 2 none) = some (Value.int .i64 n8) ∧
 (((decide (n8 ≥ -840) = true →
 ∃ n9 : Int, (World.cell? w4 (Addr.mk (Array.size (World.heap w)) 2 none) = some (Value.int .i64 n9) ∧
 R (Value.bool (decide (n9 ≤ 840))) w4))) ∧
 (decide (n8 ≥ -840) = false →
 R (Value.bool false) w4))))) ∧
 (decide (n7 ≤ 253402300799) = false →
 R (Value.bool false) w4))))) ∧
 (decide (n6 ≥ 0) = false →
 R (Value.bool false) w4))))) ∧
 (b5 = false →
 R (Value.bool false) w4))))))
theorem vc_commit_signed_ok {x0_0 : ByteArray} {x0_1 : Int} {x0_2 : Int} {w : World} {R : Value → World → Prop} {R' : Ending → World → Prop} (h : vc_commit_signed x0_0 x0_1 x0_2 w R) (hR : ∀ v w', R v w' → R' (.returned v) w') :
    Calls Tryz.prog 53 #[.agg #[.string x0_0, .int .i64 x0_1, .int .i64 x0_2]] w R' :=
  calls_of_body (vs := [(.agg #[.string x0_0, .int .i64 x0_1, .int .i64 x0_2], false)]) (ty := ty) (ann := ⟨[], [], [], []⟩) (c := Tryz.f53.body.getD .skip) (by kernel_rfl) Tryz.func53 (by kernel_rfl) (by kernel_rfl) (Eq.mp (by kernel_rfl) h) hR
def vc_commit_zone (x0 : Int) (w : World) (R : Value → World → Prop) : Prop :=
 ∃ I1 : Int → ByteArray → World → Prop, ((((decide (x0 < 0) = true →
 I1 (IntKind.wrap .i64 (0 - x0)) (ByteArray.mk (Array.mk [45])) w)) ∧
 (decide (x0 < 0) = false →
 I1 x0 (ByteArray.mk (Array.mk [43])) w)) ∧
 ∀ n2 : Int,
 ∀ s3 : ByteArray,
 ∀ w4 : World,
 (I1 n2 s3 w4 →
 ((60 : Int) ≠ (0 : Int) ∧
 ((60 : Int) ≠ (0 : Int) ∧
 Calls Tryz.prog (54 : Nat) (Array.mk [Value.int .i64 (IntKind.wrap .i64 (IntKind.wrap .i64 (10000 + IntKind.wrap .i64 (IntKind.wrap .i64 (Int.tdiv n2 60) * 100)) + Int.tmod n2 60))]) (w4) (fun e5 w6 =>
 ∃ s7 : ByteArray, (e5 = Ending.returned (Value.string s7) ∧
 (((0 : Int) ≤ (1 : Int) ∧
 1 ≤ (↑(ByteArray.size s7) : Int)) ∧
 (ByteArray.size s3 + ByteArray.size (ByteArray.extract s7 (Int.toNat 1) (ByteArray.size s7)) ≤ 9223372036854775807 ∧
 R (Value.string (s3 ++ ByteArray.extract s7 (Int.toNat 1) (ByteArray.size s7))) w6))))))))
theorem vc_commit_zone_ok {x0 : Int} {w : World} {R : Value → World → Prop} {R' : Ending → World → Prop} (h : vc_commit_zone x0 w R) (hR : ∀ v w', R v w' → R' (.returned v) w') :
    Calls Tryz.prog 55 #[.int .i64 x0] w R' :=
  calls_of_body (vs := [(.int .i64 x0, false)]) (ty := ty) (ann := ⟨[(4, [(0, .int .i64), (3, .str)])], [], [], []⟩) (c := Tryz.f55.body.getD .skip) (by kernel_rfl) Tryz.func55 (by kernel_rfl) (by kernel_rfl) (Eq.mp (by kernel_rfl) h) hR
def vc_commit_sign (x0_0 : ByteArray) (x0_1 : Int) (x0_2 : Int) (w : World) (R : Value → World → Prop) : Prop :=
 ∀ w1 : World,
 (w1 = World.alloc w (Obj.cells (Array.mk [Value.string x0_0, Value.int .i64 x0_1, Value.int .i64 x0_2]) 24) →
 ∀ w2 : World,
 (Drew w1 w2 →
 ∃ I3 : World → Prop, (I3 w2 ∧
 ∃ s4 : ByteArray, ((∀ w5 : World,
 (I3 w5 →
 World.cell? w5 (Addr.mk (Array.size (World.heap w)) 0 none) = some (Value.string s4))) ∧
 (ByteArray.size s4 + ByteArray.size (ByteArray.mk (Array.mk [32])) ≤ 9223372036854775807 ∧
 ∃ n6 : Int, ((∀ w7 : World,
 (I3 w7 →
 World.cell? w7 (Addr.mk (Array.size (World.heap w)) 1 none) = some (Value.int .i64 n6))) ∧
 ∃ n8 : Int, ((∀ w9 : World,
 (I3 w9 →
 World.cell? w9 (Addr.mk (Array.size (World.heap w)) 2 none) = some (Value.int .i64 n8))) ∧
 Calls Tryz.prog (54 : Nat) (Array.mk [Value.int .i64 n6]) (w2) (fun e10 w11 =>
 ∃ s12 : ByteArray, (e10 = Ending.returned (Value.string s12) ∧
 (I3 w11 ∧
 (ByteArray.size (s4 ++ ByteArray.mk (Array.mk [32])) + ByteArray.size s12 ≤ 9223372036854775807 ∧
 (ByteArray.size (s4 ++ ByteArray.mk (Array.mk [32]) ++ s12) + ByteArray.size (ByteArray.mk (Array.mk [32])) ≤ 9223372036854775807 ∧
 Calls Tryz.prog (55 : Nat) (Array.mk [Value.int .i64 n8]) (w11) (fun e13 w14 =>
 ∃ s15 : ByteArray, (e13 = Ending.returned (Value.string s15) ∧
 (I3 w14 ∧
 (ByteArray.size (s4 ++ ByteArray.mk (Array.mk [32]) ++ s12 ++ ByteArray.mk (Array.mk [32])) + ByteArray.size s15 ≤ 9223372036854775807 ∧
 R (Value.string (s4 ++ ByteArray.mk (Array.mk [32]) ++ s12 ++ ByteArray.mk (Array.mk [32]) ++ s15)) w14))))))))))))))))
theorem vc_commit_sign_ok {x0_0 : ByteArray} {x0_1 : Int} {x0_2 : Int} {w : World} {R : Value → World → Prop} {R' : Ending → World → Prop} (h : vc_commit_sign x0_0 x0_1 x0_2 w R) (hR : ∀ v w', R v w' → R' (.returned v) w') :
    Calls Tryz.prog 19 #[.agg #[.string x0_0, .int .i64 x0_1, .int .i64 x0_2]] w R' :=
  calls_of_body (vs := [(.agg #[.string x0_0, .int .i64 x0_1, .int .i64 x0_2], false)]) (ty := ty) (ann := ⟨[], [], [(1, .held [(0, true), (1, true), (2, true), (3, true), (4, true), (8, true), (9, true), (5, false), (6, true), (7, true), (10, false), (11, true), (12, true)])], []⟩) (c := Tryz.f19.body.getD .skip) (by kernel_rfl) Tryz.func19 (by kernel_rfl) (by kernel_rfl) (Eq.mp (by kernel_rfl) h) hR
def vc_commit_Check (x0_0 : ByteArray) (x0_1a : Option Addr) (x0_1n : Nat) (x0_1c : Nat) (x0_2 : ByteArray) (x0_3 : Int) (x0_4 : Int) (x0_5 : ByteArray) (x0_6 : Int) (x0_7 : Int) (x0_8 : ByteArray) (w : World) (R : Value → World → Prop) : Prop :=
 ∀ w1 : World,
 (w1 = World.alloc w (Obj.cells (Array.mk [Value.string x0_0, Value.slice x0_1a x0_1n x0_1c, Value.string x0_2, Value.int .i64 x0_3, Value.int .i64 x0_4, Value.string x0_5, Value.int .i64 x0_6, Value.int .i64 x0_7, Value.string x0_8]) 26) →
 ∃ l2 : Sl, (World.cell? w1 (Addr.mk (Array.size (World.heap w)) 1 none) = some (Value.slice l2.1 l2.2 l2.3) ∧
 (((decide ((↑l2.2 : Int) > 16) = true →
 R (Value.int .i64 2) w1)) ∧
 (decide ((↑l2.2 : Int) > 16) = false →
 ∃ l3 : Sl, (World.cell? w1 (Addr.mk (Array.size (World.heap w)) 1 none) = some (Value.slice l3.1 l3.2 l3.3) ∧
 ∃ I4 : Int → World → Prop, ∃ I5 : Int → World → Nat, (I4 0 w1 ∧
 ∀ n6 : Int,
 ∀ w7 : World,
 (I4 n6 w7 →
 (((decide (n6 < (↑l3.2 : Int)) = true →
 ((0 ≤ n6 ∧
 n6 < (↑l3.2 : Int)) ∧
 ∃ a8 : Addr, (l3.1 = some a8 ∧
 ∃ s9 : ByteArray, (World.cell? w7 (Addr.add a8 (Int.toNat n6 * 1)) = some (Value.string s9) ∧
 Calls Tryz.prog (40 : Nat) (Array.mk [Value.string s9]) (w7) (fun e10 w11 =>
 ∃ b12 : Bool, (e10 = Ending.returned (Value.bool b12) ∧
 ((((!b12) = true →
 R (Value.int .i64 4) w11)) ∧
 ((!b12) = false →
 (I4 (IntKind.wrap .i64 (n6 + 1)) w11 ∧
 I5 (IntKind.wrap .i64 (n6 + 1)) w11 < I5 n6 w7)))))))))) ∧
 (decide (n6 < (↑l3.2 : Int)) = false →
 ∃ s13 : ByteArray, (World.cell? w7 (Addr.mk (Array.size (World.heap w)) 0 none) = some (Value.string s13) ∧
 Calls Tryz.prog (40 : Nat) (Array.mk [Value.string s13]) (w7) (fun e14 w15 =>
 ∃ b16 : Bool, (e14 = Ending.returned (Value.bool b16) ∧
 ((((!b16) = true →
 R (Value.int .i64 4) w15)) ∧
 ((!b16) = false →
 ∃ s17 : ByteArray, ∃ n18 : Int, ∃ n19 : Int, (Sem.run Tryz.prog (loadVar 24 (Addr.mk (Array.size (World.heap w)) 2 none)) w15 = Result.ok (Value.agg (Array.mk [Value.string s17, Value.int .i64 n18, Value.int .i64 n19])) w15 ∧
 Calls Tryz.prog (53 : Nat) (Array.mk [Value.agg (Array.mk [Value.string s17, Value.int .i64 n18, Value.int .i64 n19])]) (w15) (fun e20 w21 =>
 ∃ b22 : Bool, (e20 = Ending.returned (Value.bool b22) ∧
 ((((!b22) = true →
 R (Value.int .i64 4) w21)) ∧
 ((!b22) = false →
 ∃ s23 : ByteArray, ∃ n24 : Int, ∃ n25 : Int, (Sem.run Tryz.prog (loadVar 24 (Addr.mk (Array.size (World.heap w)) 5 none)) w21 = Result.ok (Value.agg (Array.mk [Value.string s23, Value.int .i64 n24, Value.int .i64 n25])) w21 ∧
 Calls Tryz.prog (53 : Nat) (Array.mk [Value.agg (Array.mk [Value.string s23, Value.int .i64 n24, Value.int .i64 n25])]) (w21) (fun e26 w27 =>
 ∃ b28 : Bool, (e26 = Ending.returned (Value.bool b28) ∧
 ((((!b28) = true →
 R (Value.int .i64 4) w27)) ∧
 ((!b28) = false →
 R (Value.int .i64 0) w27))))))))))))))))))))))))
theorem vc_commit_Check_ok {x0_0 : ByteArray} {x0_1a : Option Addr} {x0_1n : Nat} {x0_1c : Nat} {x0_2 : ByteArray} {x0_3 : Int} {x0_4 : Int} {x0_5 : ByteArray} {x0_6 : Int} {x0_7 : Int} {x0_8 : ByteArray} {w : World} {R : Value → World → Prop} {R' : Ending → World → Prop} (h : vc_commit_Check x0_0 x0_1a x0_1n x0_1c x0_2 x0_3 x0_4 x0_5 x0_6 x0_7 x0_8 w R) (hR : ∀ v w', R v w' → R' (.returned v) w') :
    Calls Tryz.prog 18 #[.agg #[.string x0_0, .slice x0_1a x0_1n x0_1c, .string x0_2, .int .i64 x0_3, .int .i64 x0_4, .string x0_5, .int .i64 x0_6, .int .i64 x0_7, .string x0_8]] w R' :=
  calls_of_body (vs := [(.agg #[.string x0_0, .slice x0_1a x0_1n x0_1c, .string x0_2, .int .i64 x0_3, .int .i64 x0_4, .string x0_5, .int .i64 x0_6, .int .i64 x0_7, .string x0_8], false)]) (ty := ty) (ann := ⟨[], [(4, [(12, .int .i64)])], [], []⟩) (c := Tryz.f18.body.getD .skip) (by kernel_rfl) Tryz.func18 (by kernel_rfl) (by kernel_rfl) (Eq.mp (by kernel_rfl) h) hR
def vc_commit_Format (x0_0 : ByteArray) (x0_1a : Option Addr) (x0_1n : Nat) (x0_1c : Nat) (x0_2 : ByteArray) (x0_3 : Int) (x0_4 : Int) (x0_5 : ByteArray) (x0_6 : Int) (x0_7 : Int) (x0_8 : ByteArray) (w : World) (R : Value → World → Prop) : Prop :=
 ∀ w1 : World,
 (w1 = World.alloc w (Obj.cells (Array.mk [Value.string x0_0, Value.slice x0_1a x0_1n x0_1c, Value.string x0_2, Value.int .i64 x0_3, Value.int .i64 x0_4, Value.string x0_5, Value.int .i64 x0_6, Value.int .i64 x0_7, Value.string x0_8]) 26) →
 ∃ s2 : ByteArray, ∃ l3 : Sl, ∃ s4 : ByteArray, ∃ n5 : Int, ∃ n6 : Int, ∃ s7 : ByteArray, ∃ n8 : Int, ∃ n9 : Int, ∃ s10 : ByteArray, (Sem.run Tryz.prog (loadVar 26 (Addr.mk (Array.size (World.heap w)) 0 none)) w1 = Result.ok (Value.agg (Array.mk [Value.string s2, Value.slice l3.1 l3.2 l3.3, Value.string s4, Value.int .i64 n5, Value.int .i64 n6, Value.string s7, Value.int .i64 n8, Value.int .i64 n9, Value.string s10])) w1 ∧
 Calls Tryz.prog (18 : Nat) (Array.mk [Value.agg (Array.mk [Value.string s2, Value.slice l3.1 l3.2 l3.3, Value.string s4, Value.int .i64 n5, Value.int .i64 n6, Value.string s7, Value.int .i64 n8, Value.int .i64 n9, Value.string s10])]) (w1) (fun e11 w12 =>
 ∃ n13 : Int, (e11 = Ending.returned (Value.int .i64 n13) ∧
 ((((n13 != 0) = true →
 R (Value.tuple (Array.mk [Value.string (ByteArray.mk (Array.mk [])), Value.int .i64 n13])) w12)) ∧
 ((n13 != 0) = false →
 ∃ s14 : ByteArray, (World.cell? w12 (Addr.mk (Array.size (World.heap w)) 0 none) = some (Value.string s14) ∧
 (ByteArray.size (ByteArray.mk (Array.mk [116, 114, 101, 101, 32])) + ByteArray.size s14 ≤ 9223372036854775807 ∧
 (ByteArray.size (ByteArray.mk (Array.mk [116, 114, 101, 101, 32]) ++ s14) + ByteArray.size (ByteArray.mk (Array.mk [10])) ≤ 9223372036854775807 ∧
 ∃ l15 : Sl, (World.cell? w12 (Addr.mk (Array.size (World.heap w)) 1 none) = some (Value.slice l15.1 l15.2 l15.3) ∧
 ∃ I16 : ByteArray → Int → World → Prop, ∃ I17 : ByteArray → Int → World → Nat, (I16 (ByteArray.mk (Array.mk [116, 114, 101, 101, 32]) ++ s14 ++ ByteArray.mk (Array.mk [10])) 0 w12 ∧
 ∀ s18 : ByteArray,
 ∀ n19 : Int,
 ∀ w20 : World,
 (I16 s18 n19 w20 →
 (((decide (n19 < (↑l15.2 : Int)) = true →
 ((0 ≤ n19 ∧
 n19 < (↑l15.2 : Int)) ∧
 ∃ a21 : Addr, (l15.1 = some a21 ∧
 ∃ s22 : ByteArray, (World.cell? w20 (Addr.add a21 (Int.toNat n19 * 1)) = some (Value.string s22) ∧
 (ByteArray.size (ByteArray.mk (Array.mk [112, 97, 114, 101, 110, 116, 32])) + ByteArray.size s22 ≤ 9223372036854775807 ∧
 (ByteArray.size (ByteArray.mk (Array.mk [112, 97, 114, 101, 110, 116, 32]) ++ s22) + ByteArray.size (ByteArray.mk (Array.mk [10])) ≤ 9223372036854775807 ∧
 (ByteArray.size s18 + ByteArray.size (ByteArray.mk (Array.mk [112, 97, 114, 101, 110, 116, 32]) ++ s22 ++ ByteArray.mk (Array.mk [10])) ≤ 9223372036854775807 ∧
 (I16 (s18 ++ (ByteArray.mk (Array.mk [112, 97, 114, 101, 110, 116, 32]) ++ s22 ++ ByteArray.mk (Array.mk [10]))) (IntKind.wrap .i64 (n19 + 1)) w20 ∧
 I17 (s18 ++ (ByteArray.mk (Array.mk [112, 97, 114, 101, 110, 116, 32]) ++ s22 ++ ByteArray.mk (Array.mk [10]))) (IntKind.wrap .i64 (n19 + 1)) w20 < I17 s18 n19 w20))))))))) ∧
 (decide (n19 < (↑l15.2 : Int)) = false →
 ∀ w23 : World,
 (Drew w20 w23 →
 ∃ I24 : World → Prop, (I24 w23 ∧
 (ByteArray.size s18 + ByteArray.size (ByteArray.mk (Array.mk [97, 117, 116, 104, 111, 114, 32])) ≤ 9223372036854775807 ∧
 ∃ s25 : ByteArray, ((∀ w26 : World,
 (I24 w26 →
 World.cell? w26 (Addr.mk (Array.size (World.heap w)) 8 none) = some (Value.string s25))) ∧
 ∃ s27 : ByteArray, ∃ n28 : Int, ∃ n29 : Int, ((∀ w30 : World,
 (I24 w30 →
 Sem.run Tryz.prog (loadVar 24 (Addr.mk (Array.size (World.heap w)) 2 none)) w30 = Result.ok (Value.agg (Array.mk [Value.string s27, Value.int .i64 n28, Value.int .i64 n29])) w30)) ∧
 ∃ s31 : ByteArray, ∃ n32 : Int, ∃ n33 : Int, ((∀ w34 : World,
 (I24 w34 →
 Sem.run Tryz.prog (loadVar 24 (Addr.mk (Array.size (World.heap w)) 5 none)) w34 = Result.ok (Value.agg (Array.mk [Value.string s31, Value.int .i64 n32, Value.int .i64 n33])) w34)) ∧
 Calls Tryz.prog (19 : Nat) (Array.mk [Value.agg (Array.mk [Value.string s27, Value.int .i64 n28, Value.int .i64 n29])]) (w23) (fun e35 w36 =>
 ∃ s37 : ByteArray, (e35 = Ending.returned (Value.string s37) ∧
 (I24 w36 ∧
 (ByteArray.size (s18 ++ ByteArray.mk (Array.mk [97, 117, 116, 104, 111, 114, 32])) + ByteArray.size s37 ≤ 9223372036854775807 ∧
 (ByteArray.size (s18 ++ ByteArray.mk (Array.mk [97, 117, 116, 104, 111, 114, 32]) ++ s37) + ByteArray.size (ByteArray.mk (Array.mk [10, 99, 111, 109, 109, 105, 116, 116, 101, 114, 32])) ≤ 9223372036854775807 ∧
 Calls Tryz.prog (19 : Nat) (Array.mk [Value.agg (Array.mk [Value.string s31, Value.int .i64 n32, Value.int .i64 n33])]) (w36) (fun e38 w39 =>
 ∃ s40 : ByteArray, (e38 = Ending.returned (Value.string s40) ∧
 (I24 w39 ∧
 (ByteArray.size (s18 ++ ByteArray.mk (Array.mk [97, 117, 116, 104, 111, 114, 32]) ++ s37 ++ ByteArray.mk (Array.mk [10, 99, 111, 109, 109, 105, 116, 116, 101, 114, 32])) + ByteArray.size s40 ≤ 9223372036854775807 ∧
 (ByteArray.size (s18 ++ ByteArray.mk (Array.mk [97, 117, 116, 104, 111, 114, 32]) ++ s37 ++ ByteArray.mk (Array.mk [10, 99, 111, 109, 109, 105, 116, 116, 101, 114, 32]) ++ s40) + ByteArray.size (ByteArray.mk (Array.mk [10, 10])) ≤ 9223372036854775807 ∧
 (ByteArray.size (s18 ++ ByteArray.mk (Array.mk [97, 117, 116, 104, 111, 114, 32]) ++ s37 ++ ByteArray.mk (Array.mk [10, 99, 111, 109, 109, 105, 116, 116, 101, 114, 32]) ++ s40 ++ ByteArray.mk (Array.mk [10, 10])) + ByteArray.size s25 ≤ 9223372036854775807 ∧
 R (Value.tuple (Array.mk [Value.string (s18 ++ ByteArray.mk (Array.mk [97, 117, 116, 104, 111, 114, 32]) ++ s37 ++ ByteArray.mk (Array.mk [10, 99, 111, 109, 109, 105, 116, 116, 101, 114, 32]) ++ s40 ++ ByteArray.mk (Array.mk [10, 10]) ++ s25), Value.int .i64 0])) w39)))))))))))))))))))))))))))))))
theorem vc_commit_Format_ok {x0_0 : ByteArray} {x0_1a : Option Addr} {x0_1n : Nat} {x0_1c : Nat} {x0_2 : ByteArray} {x0_3 : Int} {x0_4 : Int} {x0_5 : ByteArray} {x0_6 : Int} {x0_7 : Int} {x0_8 : ByteArray} {w : World} {R : Value → World → Prop} {R' : Ending → World → Prop} (h : vc_commit_Format x0_0 x0_1a x0_1n x0_1c x0_2 x0_3 x0_4 x0_5 x0_6 x0_7 x0_8 w R) (hR : ∀ v w', R v w' → R' (.returned v) w') :
    Calls Tryz.prog 4 #[.agg #[.string x0_0, .slice x0_1a x0_1n x0_1c, .string x0_2, .int .i64 x0_3, .int .i64 x0_4, .string x0_5, .int .i64 x0_6, .int .i64 x0_7, .string x0_8]] w R' :=
  calls_of_body (vs := [(.agg #[.string x0_0, .slice x0_1a x0_1n x0_1c, .string x0_2, .int .i64 x0_3, .int .i64 x0_4, .string x0_5, .int .i64 x0_6, .int .i64 x0_7, .string x0_8], false)]) (ty := ty) (ann := ⟨[], [(6, [(5, .str), (20, .int .i64)])], [(10, .held [(0, true), (1, true), (2, true), (7, true), (12, true), (13, true), (3, true), (8, true), (4, false), (5, true), (6, true), (9, false), (10, true), (11, true), (14, true), (15, true), (16, true)])], []⟩) (c := Tryz.f4.body.getD .skip) (by kernel_rfl) Tryz.func4 (by kernel_rfl) (by kernel_rfl) (Eq.mp (by kernel_rfl) h) hR
def vc_commit_CheckTag (x0_0 : ByteArray) (x0_1 : Int) (x0_2 : ByteArray) (x0_3 : ByteArray) (x0_4 : Int) (x0_5 : Int) (x0_6 : ByteArray) (w : World) (R : Value → World → Prop) : Prop :=
 ∀ w1 : World,
 (w1 = World.alloc w (Obj.cells (Array.mk [Value.string x0_0, Value.int .i64 x0_1, Value.string x0_2, Value.string x0_3, Value.int .i64 x0_4, Value.int .i64 x0_5, Value.string x0_6]) 37) →
 ∃ s2 : ByteArray, (World.cell? w1 (Addr.mk (Array.size (World.heap w)) 0 none) = some (Value.string s2) ∧
 Calls Tryz.prog (40 : Nat) (Array.mk [Value.string s2]) (w1) (fun e3 w4 =>
 ∃ b5 : Bool, (e3 = Ending.returned (Value.bool b5) ∧
 ((((!b5) = true →
 R (Value.int .i64 4) w4)) ∧
 ((!b5) = false →
 ∃ n6 : Int, (World.cell? w4 (Addr.mk (Array.size (World.heap w)) 1 none) = some (Value.int .i64 n6) ∧
 Calls Tryz.prog (32 : Nat) (Array.mk [Value.int .i64 n6]) (w4) (fun e7 w8 =>
 ∃ s9 : ByteArray, (e7 = Ending.returned (Value.string s9) ∧
 ((((ByteArray.toList s9 == ByteArray.toList (ByteArray.mk (Array.mk []))) = true →
 R (Value.int .i64 4) w8)) ∧
 ((ByteArray.toList s9 == ByteArray.toList (ByteArray.mk (Array.mk []))) = false →
 ∃ s10 : ByteArray, (World.cell? w8 (Addr.mk (Array.size (World.heap w)) 2 none) = some (Value.string s10) ∧
 Calls Tryz.prog (68 : Nat) (Array.mk [Value.string s10]) (w8) (fun e11 w12 =>
 ∃ b13 : Bool, (e11 = Ending.returned (Value.bool b13) ∧
 ((((!b13) = true →
 R (Value.int .i64 4) w12)) ∧
 ((!b13) = false →
 ∃ s14 : ByteArray, ∃ n15 : Int, ∃ n16 : Int, (Sem.run Tryz.prog (loadVar 24 (Addr.mk (Array.size (World.heap w)) 3 none)) w12 = Result.ok (Value.agg (Array.mk [Value.string s14, Value.int .i64 n15, Value.int .i64 n16])) w12 ∧
 Calls Tryz.prog (53 : Nat) (Array.mk [Value.agg (Array.mk [Value.string s14, Value.int .i64 n15, Value.int .i64 n16])]) (w12) (fun e17 w18 =>
 ∃ b19 : Bool, (e17 = Ending.returned (Value.bool b19) ∧
 ((((!b19) = true →
 R (Value.int .i64 4) w18)) ∧
 ((!b19) = false →
 R (Value.int .i64 0) w18)))))))))))))))))))))
theorem vc_commit_CheckTag_ok {x0_0 : ByteArray} {x0_1 : Int} {x0_2 : ByteArray} {x0_3 : ByteArray} {x0_4 : Int} {x0_5 : Int} {x0_6 : ByteArray} {w : World} {R : Value → World → Prop} {R' : Ending → World → Prop} (h : vc_commit_CheckTag x0_0 x0_1 x0_2 x0_3 x0_4 x0_5 x0_6 w R) (hR : ∀ v w', R v w' → R' (.returned v) w') :
    Calls Tryz.prog 31 #[.agg #[.string x0_0, .int .i64 x0_1, .string x0_2, .string x0_3, .int .i64 x0_4, .int .i64 x0_5, .string x0_6]] w R' :=
  calls_of_body (vs := [(.agg #[.string x0_0, .int .i64 x0_1, .string x0_2, .string x0_3, .int .i64 x0_4, .int .i64 x0_5, .string x0_6], false)]) (ty := ty) (ann := ⟨[], [], [], []⟩) (c := Tryz.f31.body.getD .skip) (by kernel_rfl) Tryz.func31 (by kernel_rfl) (by kernel_rfl) (Eq.mp (by kernel_rfl) h) hR
def vc_commit_FormatTag (x0_0 : ByteArray) (x0_1 : Int) (x0_2 : ByteArray) (x0_3 : ByteArray) (x0_4 : Int) (x0_5 : Int) (x0_6 : ByteArray) (w : World) (R : Value → World → Prop) : Prop :=
 ∀ w1 : World,
 (w1 = World.alloc w (Obj.cells (Array.mk [Value.string x0_0, Value.int .i64 x0_1, Value.string x0_2, Value.string x0_3, Value.int .i64 x0_4, Value.int .i64 x0_5, Value.string x0_6]) 37) →
 ∃ s2 : ByteArray, ∃ n3 : Int, ∃ s4 : ByteArray, ∃ s5 : ByteArray, ∃ n6 : Int, ∃ n7 : Int, ∃ s8 : ByteArray, (Sem.run Tryz.prog (loadVar 37 (Addr.mk (Array.size (World.heap w)) 0 none)) w1 = Result.ok (Value.agg (Array.mk [Value.string s2, Value.int .i64 n3, Value.string s4, Value.string s5, Value.int .i64 n6, Value.int .i64 n7, Value.string s8])) w1 ∧
 Calls Tryz.prog (31 : Nat) (Array.mk [Value.agg (Array.mk [Value.string s2, Value.int .i64 n3, Value.string s4, Value.string s5, Value.int .i64 n6, Value.int .i64 n7, Value.string s8])]) (w1) (fun e9 w10 =>
 ∃ n11 : Int, (e9 = Ending.returned (Value.int .i64 n11) ∧
 ((((n11 != 0) = true →
 R (Value.tuple (Array.mk [Value.string (ByteArray.mk (Array.mk [])), Value.int .i64 n11])) w10)) ∧
 ((n11 != 0) = false →
 ∀ w12 : World,
 (Drew w10 w12 →
 ∃ I13 : World → Prop, (I13 w12 ∧
 ∃ s14 : ByteArray, ((∀ w15 : World,
 (I13 w15 →
 World.cell? w15 (Addr.mk (Array.size (World.heap w)) 0 none) = some (Value.string s14))) ∧
 (ByteArray.size (ByteArray.mk (Array.mk [111, 98, 106, 101, 99, 116, 32])) + ByteArray.size s14 ≤ 9223372036854775807 ∧
 (ByteArray.size (ByteArray.mk (Array.mk [111, 98, 106, 101, 99, 116, 32]) ++ s14) + ByteArray.size (ByteArray.mk (Array.mk [10, 116, 121, 112, 101, 32])) ≤ 9223372036854775807 ∧
 ∃ n16 : Int, ((∀ w17 : World,
 (I13 w17 →
 World.cell? w17 (Addr.mk (Array.size (World.heap w)) 1 none) = some (Value.int .i64 n16))) ∧
 ∃ s18 : ByteArray, ((∀ w19 : World,
 (I13 w19 →
 World.cell? w19 (Addr.mk (Array.size (World.heap w)) 2 none) = some (Value.string s18))) ∧
 ∃ s20 : ByteArray, ((∀ w21 : World,
 (I13 w21 →
 World.cell? w21 (Addr.mk (Array.size (World.heap w)) 6 none) = some (Value.string s20))) ∧
 ∃ s22 : ByteArray, ∃ n23 : Int, ∃ n24 : Int, ((∀ w25 : World,
 (I13 w25 →
 Sem.run Tryz.prog (loadVar 24 (Addr.mk (Array.size (World.heap w)) 3 none)) w25 = Result.ok (Value.agg (Array.mk [Value.string s22, Value.int .i64 n23, Value.int .i64 n24])) w25)) ∧
 Calls Tryz.prog (32 : Nat) (Array.mk [Value.int .i64 n16]) (w12) (fun e26 w27 =>
 ∃ s28 : ByteArray, (e26 = Ending.returned (Value.string s28) ∧
 (I13 w27 ∧
 (ByteArray.size (ByteArray.mk (Array.mk [111, 98, 106, 101, 99, 116, 32]) ++ s14 ++ ByteArray.mk (Array.mk [10, 116, 121, 112, 101, 32])) + ByteArray.size s28 ≤ 9223372036854775807 ∧
 (ByteArray.size (ByteArray.mk (Array.mk [111, 98, 106, 101, 99, 116, 32]) ++ s14 ++ ByteArray.mk (Array.mk [10, 116, 121, 112, 101, 32]) ++ s28) + ByteArray.size (ByteArray.mk (Array.mk [10, 116, 97, 103, 32])) ≤ 9223372036854775807 ∧
 (ByteArray.size (ByteArray.mk (Array.mk [111, 98, 106, 101, 99, 116, 32]) ++ s14 ++ ByteArray.mk (Array.mk [10, 116, 121, 112, 101, 32]) ++ s28 ++ ByteArray.mk (Array.mk [10, 116, 97, 103, 32])) + ByteArray.size s18 ≤ 9223372036854775807 ∧
 (ByteArray.size (ByteArray.mk (Array.mk [111, 98, 106, 101, 99, 116, 32]) ++ s14 ++ ByteArray.mk (Array.mk [10, 116, 121, 112, 101, 32]) ++ s28 ++ ByteArray.mk (Array.mk [10, 116, 97, 103, 32]) ++ s18) + ByteArray.size (ByteArray.mk (Array.mk [10, 116, 97, 103, 103, 101, 114, 32])) ≤ 9223372036854775807 ∧
 Calls Tryz.prog (19 : Nat) (Array.mk [Value.agg (Array.mk [Value.string s22, Value.int .i64 n23, Value.int .i64 n24])]) (w27) (fun e29 w30 =>
 ∃ s31 : ByteArray, (e29 = Ending.returned (Value.string s31) ∧
 (I13 w30 ∧
 (ByteArray.size (ByteArray.mk (Array.mk [111, 98, 106, 101, 99, 116, 32]) ++ s14 ++ ByteArray.mk (Array.mk [10, 116, 121, 112, 101, 32]) ++ s28 ++ ByteArray.mk (Array.mk [10, 116, 97, 103, 32]) ++ s18 ++ ByteArray.mk (Array.mk [10, 116, 97, 103, 103, 101, 114, 32])) + ByteArray.size s31 ≤ 9223372036854775807 ∧
 (ByteArray.size (ByteArray.mk (Array.mk [111, 98, 106, 101, 99, 116, 32]) ++ s14 ++ ByteArray.mk (Array.mk [10, 116, 121, 112, 101, 32]) ++ s28 ++ ByteArray.mk (Array.mk [10, 116, 97, 103, 32]) ++ s18 ++ ByteArray.mk (Array.mk [10, 116, 97, 103, 103, 101, 114, 32]) ++ s31) + ByteArray.size (ByteArray.mk (Array.mk [10, 10])) ≤ 9223372036854775807 ∧
 (ByteArray.size (ByteArray.mk (Array.mk [111, 98, 106, 101, 99, 116, 32]) ++ s14 ++ ByteArray.mk (Array.mk [10, 116, 121, 112, 101, 32]) ++ s28 ++ ByteArray.mk (Array.mk [10, 116, 97, 103, 32]) ++ s18 ++ ByteArray.mk (Array.mk [10, 116, 97, 103, 103, 101, 114, 32]) ++ s31 ++ ByteArray.mk (Array.mk [10, 10])) + ByteArray.size s20 ≤ 9223372036854775807 ∧
 R (Value.tuple (Array.mk [Value.string (ByteArray.mk (Array.mk [111, 98, 106, 101, 99, 116, 32]) ++ s14 ++ ByteArray.mk (Array.mk [10, 116, 121, 112, 101, 32]) ++ s28 ++ ByteArray.mk (Array.mk [10, 116, 97, 103, 32]) ++ s18 ++ ByteArray.mk (Array.mk [10, 116, 97, 103, 103, 101, 114, 32]) ++ s31 ++ ByteArray.mk (Array.mk [10, 10]) ++ s20), Value.int .i64 0])) w30))))))))))))))))))))))))))))
theorem vc_commit_FormatTag_ok {x0_0 : ByteArray} {x0_1 : Int} {x0_2 : ByteArray} {x0_3 : ByteArray} {x0_4 : Int} {x0_5 : Int} {x0_6 : ByteArray} {w : World} {R : Value → World → Prop} {R' : Ending → World → Prop} (h : vc_commit_FormatTag x0_0 x0_1 x0_2 x0_3 x0_4 x0_5 x0_6 w R) (hR : ∀ v w', R v w' → R' (.returned v) w') :
    Calls Tryz.prog 8 #[.agg #[.string x0_0, .int .i64 x0_1, .string x0_2, .string x0_3, .int .i64 x0_4, .int .i64 x0_5, .string x0_6]] w R' :=
  calls_of_body (vs := [(.agg #[.string x0_0, .int .i64 x0_1, .string x0_2, .string x0_3, .int .i64 x0_4, .int .i64 x0_5, .string x0_6], false)]) (ty := ty) (ann := ⟨[], [], [(4, .held [(0, true), (1, true), (2, true), (3, true), (4, true), (5, true), (9, true), (10, true), (13, true), (18, true), (19, true), (14, true), (6, false), (7, true), (8, true), (11, true), (12, true), (15, false), (16, true), (17, true), (20, true), (21, true), (22, true)])], []⟩) (c := Tryz.f8.body.getD .skip) (by kernel_rfl) Tryz.func8 (by kernel_rfl) (by kernel_rfl) (Eq.mp (by kernel_rfl) h) hR
end Go.Proofs.YtllegkmadljmaaaGreatDoor

/- Commits and tags: contracts of what forms them and says whether they are in form. Conditions: as named. -/
set_option linter.unusedVariables false
namespace Go.Proofs.YtllegkmadljmaaaGreatDoor
open Go Vc HexM Go.Proofs

def encG (x : SgE) : List Value := [.string x.who, .int .i64 x.time, .int .i64 x.zone]
def encC (c : ChE) (a : Option Addr) (n k : Nat) : List Value := [.string c.tree, .slice a n k, .string c.au.who, .int .i64 c.au.time, .int .i64 c.au.zone, .string c.co.who, .int .i64 c.co.time, .int .i64 c.co.zone, .string c.msg]
def encL (t : TgE) : List Value := [.string t.obj, .int .i64 t.kind, .string t.name, .string t.tg.who, .int .i64 t.tg.time, .int .i64 t.tg.zone, .string t.msg]
theorem boxC_load {w : World} {b : Nat} {c : ChE} {a : Option Addr} {n k : Nat} (h : w.heap[b]? = some (.cells (encC c a n k).toArray T_api_Change (0, 0))) : (loadVar T_api_Change ⟨b, 0, none⟩).run Tryz.prog w = .ok (.agg (encC c a n k).toArray) w :=
  load_agg (vs := encC c a n k) (agg_of (by kernel_rfl)) (by kernel_rfl) fun j v hv => by rw [add_lit, Nat.zero_add, cell_blk h]; simpa using hv
theorem boxL_load {w : World} {b : Nat} {t : TgE} (h : w.heap[b]? = some (.cells (encL t).toArray T_api_Label (0, 0))) : (loadVar T_api_Label ⟨b, 0, none⟩).run Tryz.prog w = .ok (.agg (encL t).toArray) w :=
  load_agg (vs := encL t) (agg_of (by kernel_rfl)) (by kernel_rfl) fun j v hv => by rw [add_lit, Nat.zero_add, cell_blk h]; simpa using hv
theorem sign_load {w : World} {b o : Nat} {x : SgE} (h0 : w.cell? ⟨b, o, none⟩ = some (.string x.who)) (h1 : w.cell? ⟨b, o + 1, none⟩ = some (.int .i64 x.time)) (h2 : w.cell? ⟨b, o + 2, none⟩ = some (.int .i64 x.zone)) :
    (loadVar T_api_Sign ⟨b, o, none⟩).run Tryz.prog w = .ok (.agg #[.string x.who, .int .i64 x.time, .int .i64 x.zone]) w :=
  load_agg (vs := encG x) (agg_of (by kernel_rfl)) (by kernel_rfl) fun j v hv => by
    rw [add_lit]
    match j with
    | 0 => rw [Nat.add_zero, h0]; exact hv
    | 1 => rw [h1]; exact hv
    | 2 => rw [h2]; exact hv
    | j + 3 => simp [encG] at hv
theorem ne_bool (s : ByteArray) : (!ByteArray.toList s == ByteArray.toList ⟨#[]⟩) = decide (s ≠ ⟨#[]⟩) := by
  rw [bs_eq, ← decide_not]
theorem line_ascii : Ascii ⟨#[10, 0]⟩ := by
  intro k hk
  have hk : k < 2 := hk
  match k, hk with
  | 0, _ => decide
  | 1, _ => decide
theorem line_spec (s : ByteArray) (w : World) : Calls Tryz.prog F_commit_Line #[.string s] w fun e w' => e = .returned (.bool (lineB s)) ∧ Fr (fun _ => False) w w' := by
  refine vc_commit_Line_ok (R := fun v w' => v = .bool (lineB s) ∧ Fr (fun _ => False) w w') ?_ (fun v w' h => ⟨by rw [h.1], h.2⟩)
  unfold vc_commit_Line
  rw [ne_bool]
  refine ⟨fun h1 => ⟨fun h2 => ?_, fun h2 => ⟨?_, .refl _ _⟩⟩, fun h1 => ⟨?_, .refl _ _⟩⟩
  · have h2' := of_decide_eq_true h2
    refine (containsAny_spec s ⟨#[10, 0]⟩ (by omega) (by decide) (by decide) line_ascii w).mono ?_
    rintro e w2 ⟨rfl, hf⟩
    refine ⟨_, rfl, ?_, hf⟩
    unfold lineB
    rw [h1, decide_eq_true (show s.size ≤ 100 by omega)]; rfl
  · have h2' := of_decide_eq_false h2
    unfold lineB
    rw [decide_eq_false (show ¬ s.size ≤ 100 by omega), Bool.and_false, Bool.false_and]
  · unfold lineB
    rw [h1]; rfl
theorem signed_spec (x : SgE) (w : World) : Calls Tryz.prog F_commit_signed #[.agg #[.string x.who, .int .i64 x.time, .int .i64 x.zone]] w fun e w' => e = .returned (.bool (signedB x)) ∧ Fr (fun _ => False) w w' := by
  refine vc_commit_signed_ok (R := fun v w' => v = .bool (signedB x) ∧ Fr (fun _ => False) w w') ?_ (fun v w' h => ⟨by rw [h.1], h.2⟩)
  intro w1 h1
  have f1 : Fr (fun _ => False) w w1 := by rw [h1]; exact .alloc _ _ _
  have hb : w1.heap[w.heap.size]? = some (.cells #[.string x.who, .int .i64 x.time, .int .i64 x.zone] T_api_Sign (0, 0)) := by rw [h1]; exact alloc_new _ _
  clear h1
  refine ⟨x.who, by rw [cell_blk hb]; rfl, (line_spec x.who w1).mono ?_⟩
  rintro e w4 ⟨rfl, f4⟩
  have hb4 := f4.keep hb (by simp)
  have g := f1.trans' f4
  refine ⟨_, rfl, fun hl => ⟨x.time, by rw [cell_blk hb4]; rfl, fun h1 => ⟨x.time, by rw [cell_blk hb4]; rfl, fun h2 => ⟨x.zone, by rw [cell_blk hb4]; rfl, fun h3 => ⟨x.zone, by rw [cell_blk hb4]; rfl, ?_, g⟩, fun h3 => ⟨?_, g⟩⟩, fun h2 => ⟨?_, g⟩⟩, fun h1 => ⟨?_, g⟩⟩, fun hl => ⟨?_, g⟩⟩
  · have h1 := of_decide_eq_true h1
    have h2 := of_decide_eq_true h2
    have h3 := of_decide_eq_true h3
    unfold signedB
    rw [hl, decide_eq_true (show 0 ≤ x.time by omega), decide_eq_true h2, decide_eq_true (show -840 ≤ x.zone by omega)]; rfl
  · have h3 := of_decide_eq_false h3
    unfold signedB
    rw [decide_eq_false (show ¬ -840 ≤ x.zone by omega), Bool.and_false, Bool.false_and]
  · unfold signedB
    rw [h2, Bool.and_false, Bool.false_and, Bool.false_and]
  · have h1 := of_decide_eq_false h1
    unfold signedB
    rw [decide_eq_false (show ¬ 0 ≤ x.time by omega), Bool.and_false, Bool.false_and, Bool.false_and, Bool.false_and]
  · unfold signedB
    rw [hl]; rfl
theorem zone_spec (z : Int) (h0 : -840 ≤ z) (h1 : z ≤ 840) {w : World} (ht : Tab10 w) : Calls Tryz.prog F_commit_zone #[.int .i64 z] w fun e w' => e = .returned (.string ⟨(zoneL z).toArray⟩) ∧ Fr (fun _ => False) w w' := by
  refine vc_commit_zone_ok (R := fun v w' => v = .string ⟨(zoneL z).toArray⟩ ∧ Fr (fun _ => False) w w') ?_ (fun v w' h => ⟨by rw [h.1], h.2⟩)
  refine ⟨fun n s w' => n = ((z.natAbs : Nat) : Int) ∧ s = ⟨#[if z < 0 then 45 else 43]⟩ ∧ w' = w, ⟨fun h => ?_, fun h => ?_⟩, ?_⟩
  · have h := of_decide_eq_true h
    refine ⟨?_, by rw [if_pos h], rfl⟩
    rw [wrap_i64 (by omega) (by omega)]; omega
  · have h := of_decide_eq_false h
    refine ⟨by omega, by rw [if_neg h], rfl⟩
  rintro n s w4 ⟨rfl, rfl, hw⟩
  replace hw := hw.symm
  subst hw
  obtain ⟨k, hk⟩ : ∃ k, k = z.natAbs := ⟨_, rfl⟩
  have hk840 : k ≤ 840 := by omega
  rw [← hk]
  have e1 : Int.tdiv ((k : Nat) : Int) 60 = ((k / 60 : Nat) : Int) := rfl
  have e2 : Int.tmod ((k : Nat) : Int) 60 = ((k % 60 : Nat) : Int) := rfl
  rw [e1, e2, wrap_i64 (x := ((k / 60 : Nat) : Int)) (by omega) (by omega), wrap_i64 (x := ((k / 60 : Nat) : Int) * 100) (by omega) (by omega), wrap_i64 (x := 10000 + ((k / 60 : Nat) : Int) * 100) (by omega) (by omega), wrap_i64 (by omega) (by omega),
    show 10000 + ((k / 60 : Nat) : Int) * 100 + ((k % 60 : Nat) : Int) = ((10000 + k / 60 * 100 + k % 60 : Nat) : Int) by omega]
  obtain ⟨zl, za, zd⟩ := zone_digits k hk840
  refine ⟨by decide, by decide, (itoa12 (10000 + k / 60 * 100 + k % 60) (by omega) ht).mono ?_⟩
  rintro e w6 ⟨rfl, f6⟩
  refine ⟨_, rfl, ⟨by decide, by rw [bs_mksize, zl]; decide⟩, ?_, ?_, f6⟩
  · have hsz : (⟨(dec3 (10000 + k / 60 * 100 + k % 60)).toArray⟩ : ByteArray).size = 5 := by rw [bs_mksize, zl]
    have h1 : (⟨#[if z < 0 then 45 else 43]⟩ : ByteArray).size = 1 := rfl
    rw [h1, ByteArray.size_extract, hsz]
    decide
  · refine congrArg Value.string (bs_ext ?_)
    rw [bs_app, show Int.toNat 1 = 1 from rfl, bs_tail, bs_mk, bs_mk]
    unfold zoneL
    rw [← hk]; rfl
theorem sign_spec (x : SgE) (h : signedB x = true) {w : World} (ht : Tab10 w) : Calls Tryz.prog F_commit_sign #[.agg #[.string x.who, .int .i64 x.time, .int .i64 x.zone]] w fun e w' => e = .returned (.string ⟨(signL x).toArray⟩) ∧ Fr (fun _ => False) w w' := by
  refine vc_commit_sign_ok (R := fun v w' => v = .string ⟨(signL x).toArray⟩ ∧ Fr (fun _ => False) w w') ?_ (fun v w' h => ⟨by rw [h.1], h.2⟩)
  obtain ⟨hl, t0, t1, z0, z1⟩ := (signedB_iff x).1 h
  obtain ⟨_, l2, _, _⟩ := (lineB_iff _).1 hl
  obtain ⟨d1, d2, d3⟩ := dec_facts12 x.time.toNat (by omega)
  have hzl := zoneL_len _ z0 z1
  intro w1 h1
  have f1 : Fr (fun _ => False) w w1 := by rw [h1]; exact .alloc _ _ _
  have hb : w1.heap[w.heap.size]? = some (.cells #[.string x.who, .int .i64 x.time, .int .i64 x.zone] T_api_Sign (0, 0)) := by rw [h1]; exact alloc_new _ _
  clear h1
  intro w2 hd2
  have f2 : Fr (fun _ => False) w1 w2 := .drew _ hd2
  have hb2 := f2.keep hb (by simp)
  have e1 : (⟨#[32]⟩ : ByteArray).size = 1 := rfl
  refine ⟨fun w' => Fr (fun _ => False) w2 w', .refl _ _, x.who, fun w5 f5 => by rw [cell_blk (f5.keep hb2 (by simp))]; rfl, by rw [e1]; omega, x.time, fun w7 f7 => by rw [cell_blk (f7.keep hb2 (by simp))]; rfl, x.zone, fun w9 f9 => by rw [cell_blk (f9.keep hb2 (by simp))]; rfl, ?_⟩
  have ht2 := ht.keep (f1.trans' f2)
  have q := itoa12 x.time.toNat (by omega) ht2
  rw [Int.toNat_of_nonneg t0] at q
  refine q.mono ?_
  rintro e w11 ⟨rfl, f11⟩
  have s1 : (⟨(dec3 x.time.toNat).toArray⟩ : ByteArray).size ≤ 12 := by rw [bs_mksize]; exact d2
  have s2 : (⟨(zoneL x.zone).toArray⟩ : ByteArray).size = 5 := by rw [bs_mksize]; exact hzl
  refine ⟨_, rfl, f11, by rw [ByteArray.size_append, e1]; omega, by rw [ByteArray.size_append, ByteArray.size_append, e1]; omega, (zone_spec x.zone z0 z1 (ht2.keep f11)).mono ?_⟩
  rintro e w14 ⟨rfl, f14⟩
  refine ⟨_, rfl, f11.trans' f14, by rw [ByteArray.size_append, ByteArray.size_append, ByteArray.size_append, e1]; omega, ?_, (f1.trans' f2).trans' (f11.trans' f14)⟩
  refine congrArg Value.string (bs_ext ?_)
  rw [bs_app, bs_app, bs_app, bs_app, bs_mk, bs_mk, bs_mk]
  unfold signL
  simp
end Go.Proofs.YtllegkmadljmaaaGreatDoor

/- Commits and tags: contracts of Check, Format, CheckTag, FormatTag. Conditions: as named. -/
set_option linter.unusedVariables false
namespace Go.Proofs.YtllegkmadljmaaaGreatDoor
open Go Vc HexM Go.Proofs

theorem check_spec (c : ChE) {a : Option Addr} {n k : Nat} {w : World} (hr : Reads w a (strV c.pars)) (hn : c.pars.length = n) (hp : ∀ p ∈ c.pars, p.size ≤ 140737488355328) (ht : c.tree.size ≤ 140737488355328) :
    Calls Tryz.prog F_commit_Check #[.agg (encC c a n k).toArray] w fun e w' => e = .returned (.int .i64 (checkC c)) ∧ Fr (fun _ => False) w w' := by
  refine vc_commit_Check_ok (R := fun v w' => v = .int .i64 (checkC c) ∧ Fr (fun _ => False) w w') ?_ (fun v w' h => ⟨by rw [h.1], h.2⟩)
  intro w1 h1
  have f1 : Fr (fun _ => False) w w1 := by rw [h1]; exact .alloc _ _ _
  have hb : w1.heap[w.heap.size]? = some (.cells (encC c a n k).toArray T_api_Change (0, 0)) := by rw [h1]; exact alloc_new _ _
  clear h1
  refine ⟨⟨a, n, k⟩, by rw [cell_blk hb]; rfl, fun h => ⟨?_, f1⟩, fun h => ⟨⟨a, n, k⟩, by rw [cell_blk hb]; rfl, ?_⟩⟩
  · have h := of_decide_eq_true h
    dsimp only at h
    unfold checkC
    rw [if_pos (by omega)]
  have h := of_decide_eq_false h
  dsimp only at h
  have h16 : ¬ 16 < c.pars.length := by omega
  refine ⟨fun m w' => ∃ j : Nat, m = j ∧ j ≤ n ∧ (∀ p ∈ c.pars.take j, isId p.data.toList = true) ∧ Fr (fun _ => False) w1 w', fun m _ => n - m.toNat, ⟨0, rfl, Nat.zero_le _, by simp, .refl _ _⟩, ?_⟩
  rintro m w7 ⟨j, rfl, hj, hall, f7⟩
  have e1 : IntKind.i64.wrap ((j : Int) + 1) = ((j + 1 : Nat) : Int) := by rw [wrap_i64 (by omega) (by omega)]; omega
  refine ⟨fun hlt => ?_, fun hge => ?_⟩
  · have hlt := of_decide_eq_true hlt
    dsimp only at hlt ⊢
    have hjl : j < c.pars.length := by omega
    have hg : c.pars[j]? = some c.pars[j] := List.getElem?_eq_getElem hjl
    have hm := List.getElem_mem hjl
    generalize c.pars[j] = p at hg hm
    obtain ⟨ad, had, hc⟩ := (hr.keep (f1.trans' f7) (by simp)) j (.string p) (by simp [strV, hg])
    refine ⟨⟨by omega, by omega⟩, ad, had, p, by rw [Int.toNat_natCast, Nat.mul_one]; exact hc, (id_spec p (hp p hm) w7).mono ?_⟩
    rintro e w11 ⟨rfl, f11⟩
    refine ⟨_, rfl, fun hb => ⟨?_, f1.trans' (f7.trans' f11)⟩, fun hb => ?_⟩
    · have hb : isId p.data.toList = false := by simpa using hb
      unfold checkC
      rw [if_neg h16, if_pos (by
        rw [← Bool.not_eq_true, List.all_eq_true]
        intro hA
        rw [hA p hm] at hb; cases hb)]
    · have hb : isId p.data.toList = true := by simpa using hb
      rw [e1]
      refine ⟨⟨j + 1, rfl, by omega, fun q hq => ?_, f7.trans' f11⟩, by omega⟩
      rw [List.take_add_one, hg, Option.toList_some] at hq
      rcases List.mem_append.1 hq with hq | hq
      · exact hall q hq
      · rw [List.mem_singleton] at hq
        rw [hq]; exact hb
  · have hge := of_decide_eq_false hge
    dsimp only at hge
    have hA : (c.pars.all fun p => isId p.data.toList) = true := by
      rw [List.all_eq_true]
      intro p hp'
      exact hall p (by rw [List.take_of_length_le (by omega)]; exact hp')
    have hnA : ¬ (c.pars.all fun p => isId p.data.toList) = false := by rw [hA]; simp
    have hb7 := f7.keep hb (by simp)
    refine ⟨c.tree, by rw [cell_blk hb7]; rfl, (id_spec c.tree ht w7).mono ?_⟩
    rintro e w15 ⟨rfl, f15⟩
    have g15 := f1.trans' (f7.trans' f15)
    refine ⟨_, rfl, fun hx => ⟨?_, g15⟩, fun hx => ?_⟩
    · have hx : isId c.tree.data.toList = false := by simpa using hx
      unfold checkC
      rw [if_neg h16, if_neg hnA, hx]; rfl
    have hx : isId c.tree.data.toList = true := by simpa using hx
    have hb15 := f15.keep hb7 (by simp)
    refine ⟨c.au.who, c.au.time, c.au.zone, sign_load (x := c.au) (by rw [cell_blk hb15]; rfl) (by rw [cell_blk hb15]; rfl) (by rw [cell_blk hb15]; rfl), (signed_spec c.au w15).mono ?_⟩
    rintro e w21 ⟨rfl, f21⟩
    have g21 := g15.trans' f21
    refine ⟨_, rfl, fun hy => ⟨?_, g21⟩, fun hy => ?_⟩
    · have hy : signedB c.au = false := by simpa using hy
      unfold checkC
      rw [if_neg h16, if_neg hnA, hx, hy]; rfl
    have hy : signedB c.au = true := by simpa using hy
    have hb21 := f21.keep hb15 (by simp)
    refine ⟨c.co.who, c.co.time, c.co.zone, sign_load (x := c.co) (by rw [cell_blk hb21]; rfl) (by rw [cell_blk hb21]; rfl) (by rw [cell_blk hb21]; rfl), (signed_spec c.co w21).mono ?_⟩
    rintro e w27 ⟨rfl, f27⟩
    have g27 := g21.trans' f27
    refine ⟨_, rfl, fun hz => ⟨?_, g27⟩, fun hz => ⟨?_, g27⟩⟩
    · have hz : signedB c.co = false := by simpa using hz
      unfold checkC
      rw [if_neg h16, if_neg hnA, hx, hy, hz]; rfl
    · have hz : signedB c.co = true := by simpa using hz
      unfold checkC
      rw [if_neg h16, if_neg hnA, hx, hy, hz]; rfl
theorem checkC_iff (c : ChE) : checkC c = 0 ↔ c.pars.length ≤ 16 ∧ (∀ p ∈ c.pars, isId p.data.toList = true) ∧ isId c.tree.data.toList = true ∧ signedB c.au = true ∧ signedB c.co = true := by
  unfold checkC
  by_cases h1 : 16 < c.pars.length
  · rw [if_pos h1]
    exact ⟨fun h => (by cases h), fun h => absurd h.1 (by omega)⟩
  rw [if_neg h1]
  by_cases h2 : (c.pars.all fun p => isId p.data.toList) = false
  · rw [if_pos h2]
    refine ⟨fun h => (by cases h), fun h => ?_⟩
    rw [← Bool.not_eq_true, List.all_eq_true] at h2
    exact absurd h.2.1 h2
  rw [if_neg h2]
  have h2 : (c.pars.all fun p => isId p.data.toList) = true := by simpa using h2
  rw [List.all_eq_true] at h2
  by_cases h3 : (isId c.tree.data.toList && signedB c.au && signedB c.co) = true
  · rw [if_pos h3]
    rw [Bool.and_eq_true, Bool.and_eq_true] at h3
    exact ⟨fun _ => ⟨by omega, h2, h3.1.1, h3.1.2, h3.2⟩, fun _ => rfl⟩
  · rw [if_neg h3]
    refine ⟨fun h => (by cases h), fun h => absurd ?_ h3⟩
    rw [h.2.2.1, h.2.2.2.1, h.2.2.2.2]; rfl
theorem checkC_ne (c : ChE) : (checkC c != 0) = decide (checkC c ≠ 0) := by
  by_cases h : checkC c = 0
  · rw [h]; rfl
  · rw [decide_eq_true h, bne, beq_eq_false_iff_ne.2 h]; rfl
theorem isId_len {s : ByteArray} (h : isId s.data.toList = true) : s.size = 40 := (isId_parts h).1
theorem parL_app (p : ByteArray) (r : List UInt8) : lineL wParent p.data.toList r = parL p ++ r := by
  unfold parL lineL
  simp
theorem parL_len {p : ByteArray} (h : isId p.data.toList = true) : (parL p).length = 48 := by
  unfold parL lineL
  rw [List.length_append, List.length_cons, List.length_append, bs_len, isId_len h]; rfl
theorem pars_len : ∀ (l : List ByteArray), (∀ p ∈ l, isId p.data.toList = true) → (l.flatMap parL).length = 48 * l.length
  | [], _ => rfl
  | p :: l, h => by
    rw [List.flatMap_cons, List.length_append, parL_len (h p List.mem_cons_self), pars_len l fun q hq => h q (List.mem_cons_of_mem _ hq), List.length_cons]; omega
set_option maxHeartbeats 1000000 in
theorem format_spec (c : ChE) {a : Option Addr} {n k : Nat} {w : World} (hr : Reads w a (strV c.pars)) (hn : c.pars.length = n) (hp : ∀ p ∈ c.pars, p.size ≤ 140737488355328) (ht : c.tree.size ≤ 140737488355328) (hm : c.msg.size ≤ 140737488355328) (h10 : Tab10 w) :
    Calls Tryz.prog F_commit_Format #[.agg (encC c a n k).toArray] w fun e w' => e = .returned (.tuple #[.string (if checkC c = 0 then fmtC c else ⟨#[]⟩), .int .i64 (checkC c)]) ∧ Fr (fun _ => False) w w' := by
  refine vc_commit_Format_ok (R := fun v w' => v = .tuple #[.string (if checkC c = 0 then fmtC c else ⟨#[]⟩), .int .i64 (checkC c)] ∧ Fr (fun _ => False) w w') ?_ (fun v w' h => ⟨by rw [h.1], h.2⟩)
  intro w1 h1
  have f1 : Fr (fun _ => False) w w1 := by rw [h1]; exact .alloc _ _ _
  have hb : w1.heap[w.heap.size]? = some (.cells (encC c a n k).toArray T_api_Change (0, 0)) := by rw [h1]; exact alloc_new _ _
  clear h1
  refine ⟨c.tree, ⟨a, n, k⟩, c.au.who, c.au.time, c.au.zone, c.co.who, c.co.time, c.co.zone, c.msg, boxC_load hb, (check_spec c (k := k) (hr.keep f1 (by simp)) hn hp ht).mono ?_⟩
  rintro e w12 ⟨rfl, f12⟩
  refine ⟨_, rfl, fun h => ?_, fun h => ?_⟩
  · rw [checkC_ne] at h
    have h := of_decide_eq_true h
    exact ⟨by rw [if_neg h], f1.trans' f12⟩
  rw [checkC_ne] at h
  have h0 : checkC c = 0 := by have := of_decide_eq_false h; omega
  clear h
  rw [if_pos h0, h0]
  obtain ⟨k1, k2, k3, k4, k5⟩ := (checkC_iff c).1 h0
  have ht40 := isId_len k3
  have hb12 := f12.keep hb (by simp)
  have g12 := f1.trans' f12
  have z1 : (⟨#[116, 114, 101, 101, 32]⟩ : ByteArray).size = 5 := rfl
  have z2 : (⟨#[10]⟩ : ByteArray).size = 1 := rfl
  have z3 : (⟨#[112, 97, 114, 101, 110, 116, 32]⟩ : ByteArray).size = 7 := rfl
  have z4 : (⟨#[97, 117, 116, 104, 111, 114, 32]⟩ : ByteArray).size = 7 := rfl
  have z5 : (⟨#[10, 99, 111, 109, 109, 105, 116, 116, 101, 114, 32]⟩ : ByteArray).size = 11 := rfl
  have z6 : (⟨#[10, 10]⟩ : ByteArray).size = 2 := rfl
  refine ⟨c.tree, by rw [cell_blk hb12]; rfl, by rw [z1]; omega, by rw [ByteArray.size_append, z1, z2]; omega, ⟨a, n, k⟩, by rw [cell_blk hb12]; rfl,
    fun s m w' => ∃ j : Nat, m = j ∧ j ≤ n ∧ s = ⟨(lineL wTree c.tree.data.toList ((c.pars.take j).flatMap parL)).toArray⟩ ∧ Fr (fun _ => False) w12 w', fun _ m _ => n - m.toNat, ⟨0, rfl, Nat.zero_le _, ?_, .refl _ _⟩, ?_⟩
  · refine bs_ext ?_
    rw [bs_app, bs_app, bs_mk]
    unfold lineL wTree
    simp
  rintro s m w20 ⟨j, rfl, hj, rfl, f20⟩
  have e1 : IntKind.i64.wrap ((j : Int) + 1) = ((j + 1 : Nat) : Int) := by rw [wrap_i64 (by omega) (by omega)]; omega
  have hsz : (⟨(lineL wTree c.tree.data.toList ((c.pars.take j).flatMap parL)).toArray⟩ : ByteArray).size ≤ 2000 := by
    rw [bs_mksize]
    unfold lineL
    rw [List.length_append, List.length_cons, List.length_append, List.length_cons, bs_len, pars_len _ fun p hp' => k2 p (List.mem_of_mem_take hp'), List.length_take, show wTree.length = 4 from rfl]
    omega
  refine ⟨fun hlt => ?_, fun hge => ?_⟩
  · have hlt := of_decide_eq_true hlt
    dsimp only at hlt ⊢
    have hjl : j < c.pars.length := by omega
    have hg : c.pars[j]? = some c.pars[j] := List.getElem?_eq_getElem hjl
    have hpm := List.getElem_mem hjl
    generalize c.pars[j] = p at hg hpm
    obtain ⟨ad, had, hc⟩ := (hr.keep (g12.trans' f20) (by simp)) j (.string p) (by simp [strV, hg])
    have hp40 := isId_len (k2 p hpm)
    refine ⟨⟨by omega, by omega⟩, ad, had, p, by rw [Int.toNat_natCast, Nat.mul_one]; exact hc, by rw [z3]; omega, by rw [ByteArray.size_append, z3, z2]; omega, by rw [ByteArray.size_append, ByteArray.size_append, z3, z2]; omega, ?_, by rw [e1]; omega⟩
    rw [e1]
    refine ⟨j + 1, rfl, by omega, bs_ext ?_, f20⟩
    rw [bs_app, bs_app, bs_app, bs_mk, bs_mk, List.take_add_one, hg, Option.toList_some, List.flatMap_append, List.flatMap_singleton]
    unfold lineL parL lineL wParent
    simp
  · have hge := of_decide_eq_false hge
    dsimp only at hge ⊢
    have hjn : c.pars.take j = c.pars := List.take_of_length_le (by omega)
    rw [hjn] at hsz ⊢
    intro w23 d23
    have f23 : Fr (fun _ => False) w20 w23 := .drew _ d23
    have hb23 := (f20.trans' f23).keep hb12 (by simp)
    have g23 := g12.trans' (f20.trans' f23)
    generalize hS : (⟨(lineL wTree c.tree.data.toList (c.pars.flatMap parL)).toArray⟩ : ByteArray) = S at hsz ⊢
    refine ⟨fun w' => Fr (fun _ => False) w23 w', .refl _ _, by rw [z4]; omega, c.msg, fun w' f => by rw [cell_blk (f.keep hb23 (by simp))]; rfl,
      c.au.who, c.au.time, c.au.zone, fun w' f => sign_load (x := c.au) (by rw [cell_blk (f.keep hb23 (by simp))]; rfl) (by rw [cell_blk (f.keep hb23 (by simp))]; rfl) (by rw [cell_blk (f.keep hb23 (by simp))]; rfl),
      c.co.who, c.co.time, c.co.zone, fun w' f => sign_load (x := c.co) (by rw [cell_blk (f.keep hb23 (by simp))]; rfl) (by rw [cell_blk (f.keep hb23 (by simp))]; rfl) (by rw [cell_blk (f.keep hb23 (by simp))]; rfl),
      (sign_spec c.au k4 (h10.keep g23)).mono ?_⟩
    rintro e w36 ⟨rfl, f36⟩
    have a1 := (signL_no k4).2
    have a2 := (signL_no k5).2
    have sA : (⟨(signL c.au).toArray⟩ : ByteArray).size ≤ 119 := by rw [bs_mksize]; exact a1
    have sC : (⟨(signL c.co).toArray⟩ : ByteArray).size ≤ 119 := by rw [bs_mksize]; exact a2
    refine ⟨_, rfl, f36, by rw [ByteArray.size_append, z4]; omega, by rw [ByteArray.size_append, ByteArray.size_append, z4, z5]; omega, (sign_spec c.co k5 (h10.keep (g23.trans' f36))).mono ?_⟩
    rintro e w39 ⟨rfl, f39⟩
    refine ⟨_, rfl, f36.trans' f39, by simp only [ByteArray.size_append, z4, z5]; omega, by simp only [ByteArray.size_append, z4, z5, z6]; omega, by simp only [ByteArray.size_append, z4, z5, z6]; omega, ?_, g23.trans' (f36.trans' f39)⟩
    refine congrArg (fun s => Value.tuple #[.string s, .int .i64 0]) (bs_ext ?_)
    rw [← hS]
    simp only [bs_app]
    unfold fmtC
    rw [bs_mk]
    unfold fmtL lineL wAuthor wCommitter
    simp
theorem checkTag_spec (t : TgE) (hs : t.obj.size ≤ 140737488355328) (w : World) : Calls Tryz.prog F_commit_CheckTag #[.agg (encL t).toArray] w fun e w' => e = .returned (.int .i64 (checkT t)) ∧ Fr (fun _ => False) w w' := by
  refine vc_commit_CheckTag_ok (R := fun v w' => v = .int .i64 (checkT t) ∧ Fr (fun _ => False) w w') ?_ (fun v w' h => ⟨by rw [h.1], h.2⟩)
  intro w1 h1
  have f1 : Fr (fun _ => False) w w1 := by rw [h1]; exact .alloc _ _ _
  have hb : w1.heap[w.heap.size]? = some (.cells (encL t).toArray T_api_Label (0, 0)) := by rw [h1]; exact alloc_new _ _
  clear h1
  refine ⟨t.obj, by rw [cell_blk hb]; rfl, (id_spec t.obj hs w1).mono ?_⟩
  rintro e w4 ⟨rfl, f4⟩
  have g4 := f1.trans' f4
  have hb4 := f4.keep hb (by simp)
  refine ⟨_, rfl, fun hx => ⟨?_, g4⟩, fun hx => ⟨t.kind, by rw [cell_blk hb4]; rfl, (oname_spec t.kind w4).mono ?_⟩⟩
  · have hx : isId t.obj.data.toList = false := by simpa using hx
    unfold checkT
    rw [hx]; rfl
  have hx : isId t.obj.data.toList = true := by simpa using hx
  rintro e w8 ⟨rfl, hw⟩
  replace hw := hw.symm
  subst hw
  refine ⟨_, rfl, fun hy => ⟨?_, g4⟩, fun hy => ⟨t.name, by rw [cell_blk hb4]; rfl, (line_spec t.name w4).mono ?_⟩⟩
  · rw [bs_eq] at hy
    have hy := of_decide_eq_true hy
    unfold checkT
    rw [hx, decide_eq_false (fun h => h hy)]; rfl
  rw [bs_eq] at hy
  have hy := of_decide_eq_false hy
  rintro e w12 ⟨rfl, f12⟩
  have g12 := g4.trans' f12
  have hb12 := f12.keep hb4 (by simp)
  refine ⟨_, rfl, fun hz => ⟨?_, g12⟩, fun hz => ⟨t.tg.who, t.tg.time, t.tg.zone, sign_load (x := t.tg) (by rw [cell_blk hb12]; rfl) (by rw [cell_blk hb12]; rfl) (by rw [cell_blk hb12]; rfl), (signed_spec t.tg w12).mono ?_⟩⟩
  · have hz : lineB t.name = false := by simpa using hz
    unfold checkT
    rw [hx, decide_eq_true hy, hz]; rfl
  have hz : lineB t.name = true := by simpa using hz
  rintro e w18 ⟨rfl, f18⟩
  refine ⟨_, rfl, fun hu => ⟨?_, g12.trans' f18⟩, fun hu => ⟨?_, g12.trans' f18⟩⟩
  · have hu : signedB t.tg = false := by simpa using hu
    unfold checkT
    rw [hx, decide_eq_true hy, hz, hu]; rfl
  · have hu : signedB t.tg = true := by simpa using hu
    unfold checkT
    rw [hx, decide_eq_true hy, hz, hu]; rfl
set_option maxHeartbeats 1000000 in
theorem formatTag_spec (t : TgE) (hc : checkT t = 0) (hobj : isId t.obj.data.toList = true) (hk : isKind t.kind) (hl : lineB t.name = true) (hg : signedB t.tg = true) (hm : t.msg.size ≤ 140737488355328) {w : World} (h10 : Tab10 w) :
    Calls Tryz.prog F_commit_FormatTag #[.agg (encL t).toArray] w fun e w' => e = .returned (.tuple #[.string (fmtT t), .int .i64 0]) ∧ Fr (fun _ => False) w w' := by
  refine vc_commit_FormatTag_ok (R := fun v w' => v = .tuple #[.string (fmtT t), .int .i64 0] ∧ Fr (fun _ => False) w w') ?_ (fun v w' h => ⟨by rw [h.1], h.2⟩)
  have ho40 := isId_len hobj
  obtain ⟨kn1, kn2, kn3, kn4⟩ := kname_ok hk
  obtain ⟨_, l2, _, _⟩ := (lineB_iff _).1 hl
  intro w1 h1
  have f1 : Fr (fun _ => False) w w1 := by rw [h1]; exact .alloc _ _ _
  have hb : w1.heap[w.heap.size]? = some (.cells (encL t).toArray T_api_Label (0, 0)) := by rw [h1]; exact alloc_new _ _
  clear h1
  refine ⟨t.obj, t.kind, t.name, t.tg.who, t.tg.time, t.tg.zone, t.msg, boxL_load hb, (checkTag_spec t (by omega) w1).mono ?_⟩
  rintro e w10 ⟨rfl, f10⟩
  rw [hc]
  refine ⟨_, rfl, fun h => (by simp at h), fun _ w12 d12 => ?_⟩
  have f12 : Fr (fun _ => False) w10 w12 := .drew _ d12
  have hb12 := (f10.trans' f12).keep hb (by simp)
  have g12 := f1.trans' (f10.trans' f12)
  have z1 : (⟨#[111, 98, 106, 101, 99, 116, 32]⟩ : ByteArray).size = 7 := rfl
  have z2 : (⟨#[10, 116, 121, 112, 101, 32]⟩ : ByteArray).size = 6 := rfl
  have z3 : (⟨#[10, 116, 97, 103, 32]⟩ : ByteArray).size = 5 := rfl
  have z4 : (⟨#[10, 116, 97, 103, 103, 101, 114, 32]⟩ : ByteArray).size = 8 := rfl
  have z6 : (⟨#[10, 10]⟩ : ByteArray).size = 2 := rfl
  have a1 := (signL_no hg).2
  have sA : (⟨(signL t.tg).toArray⟩ : ByteArray).size ≤ 119 := by rw [bs_mksize]; exact a1
  refine ⟨fun w' => Fr (fun _ => False) w12 w', .refl _ _, t.obj, fun w' f => by rw [cell_blk (f.keep hb12 (by simp))]; rfl, by rw [z1]; omega, by simp only [ByteArray.size_append, z1, z2]; omega,
    t.kind, fun w' f => by rw [cell_blk (f.keep hb12 (by simp))]; rfl, t.name, fun w' f => by rw [cell_blk (f.keep hb12 (by simp))]; rfl, t.msg, fun w' f => by rw [cell_blk (f.keep hb12 (by simp))]; rfl,
    t.tg.who, t.tg.time, t.tg.zone, fun w' f => sign_load (x := t.tg) (by rw [cell_blk (f.keep hb12 (by simp))]; rfl) (by rw [cell_blk (f.keep hb12 (by simp))]; rfl) (by rw [cell_blk (f.keep hb12 (by simp))]; rfl),
    (oname_spec t.kind w12).mono ?_⟩
  rintro e w27 ⟨rfl, hw⟩
  replace hw := hw.symm
  subst hw
  refine ⟨_, rfl, .refl _ _, by simp only [ByteArray.size_append, z1, z2]; omega, by simp only [ByteArray.size_append, z1, z2, z3]; omega, by simp only [ByteArray.size_append, z1, z2, z3]; omega, by simp only [ByteArray.size_append, z1, z2, z3, z4]; omega, (sign_spec t.tg hg (h10.keep g12)).mono ?_⟩
  rintro e w30 ⟨rfl, f30⟩
  refine ⟨_, rfl, f30, by simp only [ByteArray.size_append, z1, z2, z3, z4]; omega, by simp only [ByteArray.size_append, z1, z2, z3, z4, z6]; omega, by simp only [ByteArray.size_append, z1, z2, z3, z4, z6]; omega, ?_, g12.trans' f30⟩
  refine congrArg (fun s => Value.tuple #[.string s, .int .i64 0]) (bs_ext ?_)
  simp only [bs_app]
  unfold fmtT
  rw [bs_mk]
  unfold tagL lineL wObject wType wTag wTagger
  simp
end Go.Proofs.YtllegkmadljmaaaGreatDoor

/- Formulas of 2 Go functions of this seat (written by a program of the author's, vcgen.py), and that each is enough for the call. No condition. -/
set_option linter.unusedVariables false
namespace Go.Proofs.YtllegkmadljmaaaGreatDoor
open Go Vc Go.Proofs
set_option maxRecDepth 100000
def vc_bytealg_LastIndexByteString (x0 : ByteArray) (x1 : Int) (w : World) (R : Value → World → Prop) : Prop :=
 ∃ I1 : Int → World → Prop, ∃ I2 : Int → World → Nat, (I1 (IntKind.wrap .i64 ((↑(ByteArray.size x0) : Int) - 1)) w ∧
 ∀ n3 : Int,
 ∀ w4 : World,
 (I1 n3 w4 →
 (((decide (n3 ≥ 0) = true →
 ((0 ≤ n3 ∧
 n3 < (↑(ByteArray.size x0) : Int)) ∧
 ((((byteAt x0 n3 == x1) = true →
 R (Value.int .i64 n3) w4)) ∧
 ((byteAt x0 n3 == x1) = false →
 (I1 (IntKind.wrap .i64 (n3 - 1)) w4 ∧
 I2 (IntKind.wrap .i64 (n3 - 1)) w4 < I2 n3 w4)))))) ∧
 (decide (n3 ≥ 0) = false →
 R (Value.int .i64 (-1)) w4))))
theorem vc_bytealg_LastIndexByteString_ok {x0 : ByteArray} {x1 : Int} {w : World} {R : Value → World → Prop} {R' : Ending → World → Prop} (h : vc_bytealg_LastIndexByteString x0 x1 w R) (hR : ∀ v w', R v w' → R' (.returned v) w') :
    Calls Tryz.prog 167 #[.string x0, .int .u8 x1] w R' :=
  calls_of_body (vs := [(.string x0, false), (.int .u8 x1, false)]) (ty := ty) (ann := ⟨[], [(2, [(5, .int .i64)])], [], []⟩) (c := Tryz.f167.body.getD .skip) (by kernel_rfl) Tryz.func167 (by kernel_rfl) (by kernel_rfl) (Eq.mp (by kernel_rfl) h) hR
def vc_strings_LastIndexByte (x0 : ByteArray) (x1 : Int) (w : World) (R : Value → World → Prop) : Prop :=
 Calls Tryz.prog (167 : Nat) (Array.mk [Value.string x0, Value.int .u8 x1]) (w) (fun e1 w2 =>
 ∃ n3 : Int, (e1 = Ending.returned (Value.int .i64 n3) ∧
 R (Value.int .i64 n3) w2))
theorem vc_strings_LastIndexByte_ok {x0 : ByteArray} {x1 : Int} {w : World} {R : Value → World → Prop} {R' : Ending → World → Prop} (h : vc_strings_LastIndexByte x0 x1 w R) (hR : ∀ v w', R v w' → R' (.returned v) w') :
    Calls Tryz.prog 132 #[.string x0, .int .u8 x1] w R' :=
  calls_of_body (vs := [(.string x0, false), (.int .u8 x1, false)]) (ty := ty) (ann := ⟨[], [], [], []⟩) (c := Tryz.f132.body.getD .skip) (by kernel_rfl) Tryz.func132 (by kernel_rfl) (by kernel_rfl) (Eq.mp (by kernel_rfl) h) hR
end Go.Proofs.YtllegkmadljmaaaGreatDoor

/- Formulas of 3 Go functions of this seat (written by a program of the author's, vcgen.py), and that each is enough for the call. No condition. -/
set_option linter.unusedVariables false
namespace Go.Proofs.YtllegkmadljmaaaGreatDoor
open Go Vc Go.Proofs
set_option maxRecDepth 100000
def vc_commit_reader_line (x0 : Nat) (x1 : ByteArray) (w : World) (R : Value → World → Prop) : Prop :=
 ∃ s1 : ByteArray, (World.cell? w (Addr.mk x0 0 none) = some (Value.string s1) ∧
 Calls Tryz.prog (46 : Nat) (Array.mk [Value.string s1, Value.string (ByteArray.mk (Array.mk [10]))]) (w) (fun e2 w3 =>
 ∃ s4 : ByteArray, ∃ s5 : ByteArray, ∃ b6 : Bool, (e2 = Ending.returned (Value.tuple (Array.mk [Value.string s4, Value.string s5, Value.bool b6])) ∧
 (ByteArray.size x1 + ByteArray.size (ByteArray.mk (Array.mk [32])) ≤ 9223372036854775807 ∧
 Calls Tryz.prog (47 : Nat) (Array.mk [Value.string s4, Value.string (x1 ++ ByteArray.mk (Array.mk [32]))]) (w3) (fun e7 w8 =>
 ∃ s9 : ByteArray, ∃ b10 : Bool, (e7 = Ending.returned (Value.tuple (Array.mk [Value.string s9, Value.bool b10])) ∧
 ((((!b6) = true →
 False)) ∧
 ((!b6) = false →
 ((((!b10) = true →
 False)) ∧
 ((!b10) = false →
 (Wr w8 (Addr.mk x0 0 none) ∧
 ∀ w11 : World,
 (w11 = World.setCell w8 (Addr.mk x0 0 none) (Value.string s5) →
 R (Value.string s9) w11))))))))))))
theorem vc_commit_reader_line_ok {x0 : Nat} {x1 : ByteArray} {w : World} {R : Value → World → Prop} {R' : Ending → World → Prop} (h : vc_commit_reader_line x0 x1 w R) (hR : ∀ v w', R v w' → R' (.returned v) w') :
    Calls Tryz.prog 84 #[.pointer (some ⟨x0, 0, none⟩), .string x1] w R' :=
  calls_of_body (vs := [(.pointer (some ⟨x0, 0, none⟩), true), (.string x1, false)]) (ty := ty) (ann := ⟨[], [], [], []⟩) (c := Tryz.f84.body.getD .skip) (by kernel_rfl) Tryz.func84 (by kernel_rfl) (by kernel_rfl) (Eq.mp (by kernel_rfl) h) hR
def vc_commit_reader_message (x0 : Nat) (w : World) (R : Value → World → Prop) : Prop :=
 ∃ s1 : ByteArray, (World.cell? w (Addr.mk x0 0 none) = some (Value.string s1) ∧
 Calls Tryz.prog (47 : Nat) (Array.mk [Value.string s1, Value.string (ByteArray.mk (Array.mk [10]))]) (w) (fun e2 w3 =>
 ∃ s4 : ByteArray, ∃ b5 : Bool, (e2 = Ending.returned (Value.tuple (Array.mk [Value.string s4, Value.bool b5])) ∧
 ((((!b5) = true →
 False)) ∧
 ((!b5) = false →
 R (Value.string s4) w3)))))
theorem vc_commit_reader_message_ok {x0 : Nat} {w : World} {R : Value → World → Prop} {R' : Ending → World → Prop} (h : vc_commit_reader_message x0 w R) (hR : ∀ v w', R v w' → R' (.returned v) w') :
    Calls Tryz.prog 87 #[.pointer (some ⟨x0, 0, none⟩)] w R' :=
  calls_of_body (vs := [(.pointer (some ⟨x0, 0, none⟩), true)]) (ty := ty) (ann := ⟨[], [], [], []⟩) (c := Tryz.f87.body.getD .skip) (by kernel_rfl) Tryz.func87 (by kernel_rfl) (by kernel_rfl) (Eq.mp (by kernel_rfl) h) hR
def vc_commit_reader_sign (x0 : Nat) (x1 : ByteArray) (w : World) (R : Value → World → Prop) : Prop :=
 ∀ w1 : World,
 (w1 = World.alloc w (Obj.cells (Array.mk [Value.string (ByteArray.mk (Array.mk [])), Value.int .i64 0, Value.int .i64 0]) 24) →
 Calls Tryz.prog (84 : Nat) (Array.mk [Value.pointer (some (Addr.mk x0 0 none)), Value.string x1]) (w1) (fun e2 w3 =>
 ∃ s4 : ByteArray, (e2 = Ending.returned (Value.string s4) ∧
 Calls Tryz.prog (132 : Nat) (Array.mk [Value.string s4, Value.int .u8 32]) (w3) (fun e5 w6 =>
 ∃ n7 : Int, (e5 = Ending.returned (Value.int .i64 n7) ∧
 ∃ I8 : World → Prop, ((((decide (n7 < 0) = true →
 False)) ∧
 (decide (n7 < 0) = false →
 I8 w6)) ∧
 ∀ w9 : World,
 (I8 w9 →
 ((0 ≤ n7 ∧
 n7 ≤ (↑(ByteArray.size s4) : Int)) ∧
 Calls Tryz.prog (132 : Nat) (Array.mk [Value.string (ByteArray.extract s4 0 (Int.toNat n7)), Value.int .u8 32]) (w9) (fun e10 w11 =>
 ∃ n12 : Int, (e10 = Ending.returned (Value.int .i64 n12) ∧
 ∃ I13 : World → Prop, ((((decide (n12 < 0) = true →
 False)) ∧
 (decide (n12 < 0) = false →
 I13 w11)) ∧
 ∀ w14 : World,
 (I13 w14 →
 ((0 ≤ IntKind.wrap .i64 (n12 + 1) ∧
 (IntKind.wrap .i64 (n12 + 1) ≤ n7 ∧
 n7 ≤ (↑(ByteArray.size s4) : Int))) ∧
 Calls Tryz.prog (133 : Nat) (Array.mk [Value.string (ByteArray.extract s4 (Int.toNat (IntKind.wrap .i64 (n12 + 1))) (Int.toNat n7))]) (w14) (fun e15 w16 =>
 ∃ n17 : Int, ∃ z18 : Unit, (e15 = Ending.returned (Value.tuple (Array.mk [Value.int .i64 n17, Value.nilIface])) ∧
 ((0 ≤ IntKind.wrap .i64 (n7 + 1) ∧
 IntKind.wrap .i64 (n7 + 1) ≤ (↑(ByteArray.size s4) : Int)) ∧
 ∃ I19 : World → Prop, ((∀ w20 : World,
 (Drew w16 w20 →
 ∃ I21 : World → Prop, (I21 w20 ∧
 ((((!true) = true →
 (I21 w20 ∧
 False))) ∧
 ((!true) = false →
 ((0 ≤ IntKind.wrap .i64 (n12 + 1) ∧
 (IntKind.wrap .i64 (n12 + 1) ≤ n7 ∧
 n7 ≤ (↑(ByteArray.size s4) : Int))) ∧
 Calls Tryz.prog (54 : Nat) (Array.mk [Value.int .i64 n17]) (w20) (fun e22 w23 =>
 ∃ s24 : ByteArray, (e22 = Ending.returned (Value.string s24) ∧
 (I21 w23 ∧
 ((((!ByteArray.toList s24 == ByteArray.toList (ByteArray.extract s4 (Int.toNat (IntKind.wrap .i64 (n12 + 1))) (Int.toNat n7))) = true →
 False)) ∧
 ((!ByteArray.toList s24 == ByteArray.toList (ByteArray.extract s4 (Int.toNat (IntKind.wrap .i64 (n12 + 1))) (Int.toNat n7))) = false →
 (((((↑(ByteArray.size (ByteArray.extract s4 (Int.toNat (IntKind.wrap .i64 (n7 + 1))) (ByteArray.size s4))) : Int) != 5) = true →
 False)) ∧
 (((↑(ByteArray.size (ByteArray.extract s4 (Int.toNat (IntKind.wrap .i64 (n7 + 1))) (ByteArray.size s4))) : Int) != 5) = false →
 I19 w23))))))))))))) ∧
 ∀ w25 : World,
 (I19 w25 →
 (((0 : Int) ≤ (1 : Int) ∧
 1 ≤ (↑(ByteArray.size (ByteArray.extract s4 (Int.toNat (IntKind.wrap .i64 (n7 + 1))) (ByteArray.size s4))) : Int)) ∧
 Calls Tryz.prog (133 : Nat) (Array.mk [Value.string (ByteArray.extract (ByteArray.extract s4 (Int.toNat (IntKind.wrap .i64 (n7 + 1))) (ByteArray.size s4)) (Int.toNat 1) (ByteArray.size (ByteArray.extract s4 (Int.toNat (IntKind.wrap .i64 (n7 + 1))) (ByteArray.size s4))))]) (w25) (fun e26 w27 =>
 ∃ n28 : Int, ∃ z29 : Unit, (e26 = Ending.returned (Value.tuple (Array.mk [Value.int .i64 n28, Value.nilIface])) ∧
 ∃ I30 : World → Prop, (((((!true) = true →
 False)) ∧
 ((!true) = false →
 ((100 : Int) ≠ (0 : Int) ∧
 (((decide (Int.tmod n28 100 ≥ 60) = true →
 False)) ∧
 (decide (Int.tmod n28 100 ≥ 60) = false →
 I30 w27))))) ∧
 ∀ w31 : World,
 (I30 w31 →
 ((0 ≤ n12 ∧
 n12 ≤ (↑(ByteArray.size s4) : Int)) ∧
 ((100 : Int) ≠ (0 : Int) ∧
 ((100 : Int) ≠ (0 : Int) ∧
 ∀ w32 : World,
 (w32 = World.alloc w31 (Obj.cells (Array.mk [Value.string (ByteArray.mk (Array.mk [])), Value.int .i64 0, Value.int .i64 0]) 24) →
 ∃ w33 : World, (Sem.run Tryz.prog (storeVar 24 (Addr.mk (Array.size (World.heap w31)) 0 none) (Value.agg (Array.mk [Value.string (ByteArray.extract s4 0 (Int.toNat n12)), Value.int .i64 n17, Value.int .i64 (IntKind.wrap .i64 (IntKind.wrap .i64 (IntKind.wrap .i64 (Int.tdiv n28 100) * 60) + Int.tmod n28 100))]))) w32 = Result.ok PUnit.unit w33 ∧
 ∃ I34 : World → Prop, ((((0 : Int) ≤ (0 : Int) ∧
 0 < (↑(ByteArray.size (ByteArray.extract s4 (Int.toNat (IntKind.wrap .i64 (n7 + 1))) (ByteArray.size s4))) : Int)) ∧
 ((((byteAt (ByteArray.extract s4 (Int.toNat (IntKind.wrap .i64 (n7 + 1))) (ByteArray.size s4)) 0 == 45) = true →
 ∃ n35 : Int, (World.cell? w33 (Addr.mk (Array.size (World.heap w31)) 2 none) = some (Value.int .i64 n35) ∧
 (Wr w33 (Addr.mk (Array.size (World.heap w31)) 2 none) ∧
 ∀ w36 : World,
 (w36 = World.setCell w33 (Addr.mk (Array.size (World.heap w31)) 2 none) (Value.int .i64 (IntKind.wrap .i64 (0 - n35))) →
 I34 w36))))) ∧
 ((byteAt (ByteArray.extract s4 (Int.toNat (IntKind.wrap .i64 (n7 + 1))) (ByteArray.size s4)) 0 == 45) = false →
 I34 w33))) ∧
 ∀ w37 : World,
 (I34 w37 →
 ∃ n38 : Int, (World.cell? w37 (Addr.mk (Array.size (World.heap w31)) 2 none) = some (Value.int .i64 n38) ∧
 Calls Tryz.prog (55 : Nat) (Array.mk [Value.int .i64 n38]) (w37) (fun e39 w40 =>
 ∃ s41 : ByteArray, (e39 = Ending.returned (Value.string s41) ∧
 ((((!ByteArray.toList s41 == ByteArray.toList (ByteArray.extract s4 (Int.toNat (IntKind.wrap .i64 (n7 + 1))) (ByteArray.size s4))) = true →
 False)) ∧
 ((!ByteArray.toList s41 == ByteArray.toList (ByteArray.extract s4 (Int.toNat (IntKind.wrap .i64 (n7 + 1))) (ByteArray.size s4))) = false →
 ∃ s42 : ByteArray, ∃ n43 : Int, ∃ n44 : Int, (Sem.run Tryz.prog (loadVar 24 (Addr.mk (Array.size (World.heap w31)) 0 none)) w40 = Result.ok (Value.agg (Array.mk [Value.string s42, Value.int .i64 n43, Value.int .i64 n44])) w40 ∧
 ∃ w45 : World, (Sem.run Tryz.prog (storeVar 24 (Addr.mk (Array.size (World.heap w)) 0 none) (Value.agg (Array.mk [Value.string s42, Value.int .i64 n43, Value.int .i64 n44]))) w40 = Result.ok PUnit.unit w45 ∧
 ∃ s46 : ByteArray, ∃ n47 : Int, ∃ n48 : Int, (Sem.run Tryz.prog (loadVar 24 (Addr.mk (Array.size (World.heap w)) 0 none)) w45 = Result.ok (Value.agg (Array.mk [Value.string s46, Value.int .i64 n47, Value.int .i64 n48])) w45 ∧
 R (Value.agg (Array.mk [Value.string s46, Value.int .i64 n47, Value.int .i64 n48])) w45))))))))))))))))))))))))))))))))))))))
theorem vc_commit_reader_sign_ok {x0 : Nat} {x1 : ByteArray} {w : World} {R : Value → World → Prop} {R' : Ending → World → Prop} (h : vc_commit_reader_sign x0 x1 w R) (hR : ∀ v w', R v w' → R' (.returned v) w') :
    Calls Tryz.prog 86 #[.pointer (some ⟨x0, 0, none⟩), .string x1] w R' :=
  calls_of_body (vs := [(.pointer (some ⟨x0, 0, none⟩), true), (.string x1, false)]) (ty := ty) (ann := ⟨[(5, []), (8, []), (12, []), (15, []), (18, [])], [], [(10, .held [(0, true), (1, true), (2, true), (3, true), (5, true), (6, true), (7, true), (8, true), (9, true), (4, false), (10, true), (11, true), (12, true), (13, true), (14, true), (15, true), (16, true)])], []⟩) (c := Tryz.f86.body.getD .skip) (by kernel_rfl) Tryz.func86 (by kernel_rfl) (by kernel_rfl) (Eq.mp (by kernel_rfl) h) hR
end Go.Proofs.YtllegkmadljmaaaGreatDoor

/- Commits: the reader's line, message and sign where the bytes are in form. Conditions: as named. -/
set_option linter.unusedVariables false
namespace Go.Proofs.YtllegkmadljmaaaGreatDoor
open Go Vc HexM Go.Proofs

theorem cutPre_app (A B : List UInt8) : cutPre ⟨(A ++ B).toArray⟩ ⟨A.toArray⟩ = ⟨B.toArray⟩ ∧ begB ⟨(A ++ B).toArray⟩ ⟨A.toArray⟩ = true := by
  have hb : begB ⟨(A ++ B).toArray⟩ ⟨A.toArray⟩ = true := by
    unfold begB
    rw [bs_mk, bs_mk]
    exact decide_eq_true (List.prefix_append _ _)
  refine ⟨?_, hb⟩
  unfold cutPre
  rw [if_pos hb]
  refine bs_ext ?_
  rw [bs_tail, bs_mk, bs_mk, bs_mksize, List.drop_left]
theorem last_spec (A B : List UInt8) (h : (32 : UInt8) ∉ B) (hs : A.length + B.length ≤ 140737488355328) (w : World) : Calls Tryz.prog F_strings_LastIndexByte #[.string ⟨(A ++ 32 :: B).toArray⟩, .int .u8 32] w fun e w' => e = .returned (.int .i64 ((A.length : Nat) : Int)) ∧ w' = w := by
  refine vc_strings_LastIndexByte_ok (R := fun v w' => v = .int .i64 ((A.length : Nat) : Int) ∧ w' = w) ?_ (fun v w' h => ⟨by rw [h.1], h.2⟩)
  refine Calls.mono (R := fun e w' => e = .returned (.int .i64 ((A.length : Nat) : Int)) ∧ w' = w) (vc_bytealg_LastIndexByteString_ok (R := fun v w' => v = .int .i64 ((A.length : Nat) : Int) ∧ w' = w) ?_ (fun v w' h => ⟨by rw [h.1], h.2⟩)) ?_
  · have hsz : (⟨(A ++ 32 :: B).toArray⟩ : ByteArray).size = A.length + (B.length + 1) := by rw [bs_mksize, List.length_append, List.length_cons]
    refine ⟨fun n w' => w' = w ∧ ∃ k : Nat, n = k ∧ A.length ≤ k ∧ k ≤ A.length + B.length, fun n _ => n.toNat, ⟨rfl, A.length + B.length, ?_, by omega, by omega⟩, ?_⟩
    · rw [hsz, wrap_i64 (by omega) (by omega)]; omega
    rintro n w4 ⟨hw, k, rfl, hk1, hk2⟩
    replace hw := hw.symm
    subst hw
    refine ⟨fun _ => ?_, fun hlt => absurd (of_decide_eq_false hlt) (by omega)⟩
    rw [byteAt_nat]
    have hbt : byt ⟨(A ++ 32 :: B).toArray⟩ k = (((A ++ 32 :: B)[k]?).getD 0).toNat := by unfold byt; rw [bs_mk]
    refine ⟨⟨by omega, by rw [hsz]; omega⟩, fun he => ⟨?_, rfl⟩, fun hne => ?_⟩
    · have he := eq_of_beq he
      by_cases hkA : k = A.length
      · rw [hkA]
      · exfalso
        rw [hbt, List.getElem?_append_right (by omega)] at he
        obtain ⟨i, hi⟩ : ∃ i, k - A.length = i + 1 := ⟨k - A.length - 1, by omega⟩
        rw [hi, List.getElem?_cons_succ, List.getElem?_eq_getElem (show i < B.length by omega)] at he
        have : B[i] = 32 := UInt8.toNat_inj.1 (by simp at he; show _ = 32; omega)
        exact h (this ▸ List.getElem_mem _)
    · have hkA : k ≠ A.length := fun e => by
        rw [hbt, e, List.getElem?_append_right (Nat.le_refl _), Nat.sub_self] at hne
        simp at hne
      have e1 : IntKind.i64.wrap ((k : Int) - 1) = ((k - 1 : Nat) : Int) := by rw [wrap_i64 (by omega) (by omega)]; omega
      rw [e1]
      exact ⟨⟨rfl, k - 1, rfl, by omega, by omega⟩, by dsimp only; omega⟩
  · rintro e w2 ⟨rfl, rfl⟩
    exact ⟨_, rfl, rfl, rfl⟩
/-- The reader's variable. -/
def IsRdr (w : World) (b : Nat) (l : List UInt8) : Prop := w.heap[b]? = some (.cells #[.string ⟨l.toArray⟩] T_commit_reader (0, 0))
theorem IsRdr.keep {w w1 : World} {b : Nat} {l : List UInt8} (h : IsRdr w b l) {X : Nat → Prop} (hf : Fr X w w1) (hx : ¬ X b) : IsRdr w1 b l := hf.keep h hx
theorem rline_spec {w : World} {b : Nat} {word v rest : List UInt8} (h : IsRdr w b (lineL word v rest)) (h1 : (10 : UInt8) ∉ word) (h2 : (10 : UInt8) ∉ v) (hs : (lineL word v rest).length ≤ 140737488355328) {wd : ByteArray} (hwd : wd = ⟨word.toArray⟩) :
    Calls Tryz.prog F_commit_reader_line #[.pointer (some ⟨b, 0, none⟩), .string wd] w fun e w' => e = .returned (.string ⟨v.toArray⟩) ∧ IsRdr w' b rest ∧ Fr (· = b) w w' := by
  refine vc_commit_reader_line_ok (R := fun u w' => u = .string ⟨v.toArray⟩ ∧ IsRdr w' b rest ∧ Fr (· = b) w w') ?_ (fun v w' h => ⟨by rw [h.1], h.2⟩)
  have hlen : word.length + v.length ≤ (lineL word v rest).length := by
    unfold lineL
    rw [List.length_append, List.length_cons, List.length_append, List.length_cons]; omega
  have hL : lineL word v rest = (word ++ 32 :: v) ++ 10 :: rest := by unfold lineL; simp
  have h3 : (10 : UInt8) ∉ word ++ 32 :: v := fun hm => by
    rcases List.mem_append.1 hm with hm | hm
    · exact h1 hm
    rcases List.mem_cons.1 hm with hm | hm
    · cases hm
    · exact h2 hm
  have q := cut_spec ⟨(lineL word v rest).toArray⟩ (by rw [bs_mksize]; exact hs) 10 (by decide) w
  rw [hL, show UInt8.ofNat 10 = 10 from rfl, cut_at h3, ← hL] at q
  dsimp only at q
  refine ⟨_, by rw [cell_blk h]; rfl, q.mono ?_⟩
  rintro e w3 ⟨rfl, d3⟩
  have f3 : Fr (fun _ => False) w w3 := .drew _ d3
  refine ⟨_, _, _, rfl, ?_, ?_⟩
  · rw [hwd, bs_mksize, show (⟨#[32]⟩ : ByteArray).size = 1 from rfl]; omega
  have hwb : wd ++ (⟨#[32]⟩ : ByteArray) = ⟨(word ++ [32]).toArray⟩ := by
    refine bs_ext ?_
    rw [hwd, bs_app, bs_mk, bs_mk]
  rw [hwb]
  obtain ⟨c1, c2⟩ := cutPre_app (word ++ [32]) v
  rw [show (word ++ [32]) ++ v = word ++ 32 :: v by simp] at c1 c2
  have q2 := cutPrefix_spec ⟨(word ++ 32 :: v).toArray⟩ ⟨(word ++ [32]).toArray⟩ w3
  rw [c1, c2] at q2
  refine q2.mono ?_
  rintro e w8 ⟨rfl, hw⟩
  replace hw := hw.symm
  subst hw
  have h3' := h.keep f3 (by simp)
  refine ⟨_, _, rfl, fun h => (by cases h), fun _ => ⟨fun h => (by cases h), fun _ => ⟨wr_blk h3' (by simp), fun w11 h11 => ⟨rfl, ?_, ?_⟩⟩⟩⟩
  · rw [h11]; exact set_blk h3' 0 _
  · rw [h11]; exact (f3.mono fun _ _ h => h.elim).trans' (Fr.set (· = b) _ (a := ⟨b, 0, none⟩) _ rfl)
theorem rmessage_spec {w : World} {b : Nat} {m : ByteArray} (h : IsRdr w b (10 :: m.data.toList)) :
    Calls Tryz.prog F_commit_reader_message #[.pointer (some ⟨b, 0, none⟩)] w fun e w' => e = .returned (.string m) ∧ w' = w := by
  refine vc_commit_reader_message_ok (R := fun u w' => u = .string m ∧ w' = w) ?_ (fun v w' h => ⟨by rw [h.1], h.2⟩)
  obtain ⟨c1, c2⟩ := cutPre_app [10] m.data.toList
  refine ⟨_, by rw [cell_blk h]; rfl, (cutPrefix_spec ⟨(10 :: m.data.toList).toArray⟩ ⟨#[10]⟩ w).mono ?_⟩
  rintro e w3 ⟨rfl, hw⟩
  replace hw := hw.symm
  subst hw
  refine ⟨_, _, rfl, fun hb => ?_, fun hb => ⟨?_, rfl⟩⟩
  · rw [show begB ⟨(10 :: m.data.toList).toArray⟩ ⟨#[10]⟩ = true from c2] at hb
    cases hb
  · rw [show cutPre ⟨(10 :: m.data.toList).toArray⟩ ⟨#[10]⟩ = ⟨m.data.toList.toArray⟩ from c1, bs_self]
theorem boxG_store {w : World} {g : Nat} {cs : Array Value} (h : w.heap[g]? = some (.cells cs T_api_Sign (0, 0))) (hc : cs.size = 3) (x : SgE) :
    ∃ w', (storeVar T_api_Sign ⟨g, 0, none⟩ (.agg #[.string x.who, .int .i64 x.time, .int .i64 x.zone])).run Tryz.prog w = .ok () w' ∧ w'.heap[g]? = some (.cells #[.string x.who, .int .i64 x.time, .int .i64 x.zone] T_api_Sign (0, 0)) ∧ Fr (· = g) w w' :=
  ⟨_, run_storeVar_row (P := Tryz.prog) w g T_api_Sign T_api_Sign _ (encG x).toArray h (by kernel_rfl) (by rw [hc]; rfl) (by simp [encG, Value.oneCell']), setRow_heap w g _ (encG x).toArray T_api_Sign (0, 0) h, ⟨rfl, rfl, rfl, by simp [World.setRow], fun k _ hk => setRow_other w g k _ (fun e => hk e)⟩⟩
theorem boxG_load {w : World} {g : Nat} {x : SgE} (h : w.heap[g]? = some (.cells #[.string x.who, .int .i64 x.time, .int .i64 x.zone] T_api_Sign (0, 0))) : (loadVar T_api_Sign ⟨g, 0, none⟩).run Tryz.prog w = .ok (.agg #[.string x.who, .int .i64 x.time, .int .i64 x.zone]) w :=
  sign_load (by rw [cell_blk h]; rfl) (by rw [cell_blk h]; rfl) (by rw [cell_blk h]; rfl)
set_option maxHeartbeats 1000000 in
theorem rsign_spec {w : World} {b : Nat} {word rest : List UInt8} {x : SgE} (hx : signedB x = true) (h : IsRdr w b (lineL word (signL x) rest)) (h1 : (10 : UInt8) ∉ word) (hs : (lineL word (signL x) rest).length ≤ 140737488355328) {wd : ByteArray} (hwd : wd = ⟨word.toArray⟩) {w0 : World} (h10 : Tab10 w0) (hw0 : Fr (fun _ => False) w0 w) (hb0 : w0.heap.size ≤ b) :
    Calls Tryz.prog F_commit_reader_sign #[.pointer (some ⟨b, 0, none⟩), .string wd] w fun e w' => e = .returned (.agg #[.string x.who, .int .i64 x.time, .int .i64 x.zone]) ∧ IsRdr w' b rest ∧ Fr (· = b) w w' := by
  refine vc_commit_reader_sign_ok (R := fun u w' => u = .agg #[.string x.who, .int .i64 x.time, .int .i64 x.zone] ∧ IsRdr w' b rest ∧ Fr (· = b) w w') ?_ (fun v w' h => ⟨by rw [h.1], h.2⟩)
  obtain ⟨hl, t0, t1, z0, z1⟩ := (signedB_iff x).1 hx
  obtain ⟨_, l2, _, _⟩ := (lineB_iff _).1 hl
  obtain ⟨d1, d2, d3⟩ := dec_facts12 x.time.toNat (by omega)
  have hzl := zoneL_len _ z0 z1
  have hzd := zoneL_digits _ z0 z1
  obtain ⟨T, hT⟩ : ∃ T, T = dec3 x.time.toNat := ⟨_, rfl⟩
  obtain ⟨Z, hZ⟩ : ∃ Z, Z = zoneL x.zone := ⟨_, rfl⟩
  have hZT : (32 : UInt8) ∉ Z := fun hm => by
    rw [hZ] at hm
    rcases hzd _ hm with h | h | h
    · cases h
    · cases h
    · exact absurd h.1 (by decide)
  have hTT : (32 : UInt8) ∉ T := fun hm => by rw [hT] at hm; exact absurd (d3 _ hm).1 (by decide)
  have hsg : signL x = (x.who.data.toList ++ 32 :: T) ++ 32 :: Z := by unfold signL; rw [hT, hZ]; simp
  rw [← hT] at d1 d2
  rw [← hZ] at hzl
  obtain ⟨S, hS⟩ : ∃ S : ByteArray, S = ⟨((x.who.data.toList ++ 32 :: T) ++ 32 :: Z).toArray⟩ := ⟨_, rfl⟩
  have hSz : S.size = x.who.size + (T.length + 1) + 6 := by rw [hS, bs_mksize, List.length_append, List.length_append, List.length_cons, List.length_cons, bs_len, hzl]
  have x0 : S.extract 0 (x.who.size + (T.length + 1)) = ⟨(x.who.data.toList ++ 32 :: T).toArray⟩ := bs_ext (by rw [bs_head, hS, bs_mk, bs_mk]; exact List.take_left' (by rw [List.length_append, List.length_cons, bs_len]))
  have xW : S.extract 0 x.who.size = x.who := bs_ext (by rw [bs_head, hS, bs_mk, List.append_assoc]; exact List.take_left' (bs_len _))
  have xT : S.extract (x.who.size + 1) (x.who.size + (T.length + 1)) = ⟨T.toArray⟩ := bs_ext (by
    rw [bs_extract, hS, bs_mk, bs_mk, show (x.who.data.toList ++ 32 :: T) ++ 32 :: Z = (x.who.data.toList ++ [32]) ++ (T ++ 32 :: Z) by simp, List.drop_left' (by rw [List.length_append, bs_len]; rfl)]
    exact List.take_left' (by omega))
  have xZ : S.extract (x.who.size + (T.length + 1) + 1) S.size = ⟨Z.toArray⟩ := bs_ext (by
    rw [bs_tail, hS, bs_mk, bs_mk, show (x.who.data.toList ++ 32 :: T) ++ 32 :: Z = (x.who.data.toList ++ 32 :: T ++ [32]) ++ Z by simp]
    exact List.drop_left' (by rw [List.length_append, List.length_append, List.length_cons, bs_len]; rfl))
  intro w1 hw1
  have f1 : Fr (fun _ => False) w w1 := by rw [hw1]; exact .alloc _ _ _
  have hb1 : w1.heap[w.heap.size]? = some (.cells #[.string ⟨#[]⟩, .int .i64 0, .int .i64 0] T_api_Sign (0, 0)) := by rw [hw1]; exact alloc_new _ _
  clear hw1
  have hbw : b < w.heap.size := lt_blk h
  refine (rline_spec (h.keep f1 (by simp)) h1 (signL_no hx).1 hs hwd).mono ?_
  rintro e w3 ⟨rfl, r3, f3⟩
  have hb3 := f3.keep hb1 (by omega)
  have s4 : (⟨(signL x).toArray⟩ : ByteArray) = S := by rw [hsg, hS]
  rw [s4]
  have q := last_spec (x.who.data.toList ++ 32 :: T) Z hZT (by rw [List.length_append, List.length_cons, bs_len]; omega) w3
  rw [← hS, List.length_append, List.length_cons, bs_len] at q
  refine ⟨S, rfl, q.mono ?_⟩
  rintro e w6 ⟨rfl, hw⟩
  replace hw := hw.symm
  subst hw
  refine ⟨_, rfl, fun w' => w' = w3, ⟨fun hlt => absurd (of_decide_eq_true hlt) (by omega), fun _ => rfl⟩, ?_⟩
  rintro w9 rfl
  have q := last_spec x.who.data.toList T hTT (by rw [bs_len]; omega) w9
  rw [← x0, bs_len] at q
  rw [Int.toNat_natCast]
  refine ⟨⟨by omega, by omega⟩, q.mono ?_⟩
  rintro e w11 ⟨rfl, hw⟩
  replace hw := hw.symm
  subst hw
  refine ⟨_, rfl, fun w' => w' = w9, ⟨fun hlt => absurd (of_decide_eq_true hlt) (by omega), fun _ => rfl⟩, ?_⟩
  rintro w14 rfl
  have e1 : IntKind.i64.wrap (((x.who.size : Nat) : Int) + 1) = ((x.who.size + 1 : Nat) : Int) := by rw [wrap_i64 (by omega) (by omega)]; omega
  have e2 : IntKind.i64.wrap (((x.who.size + (T.length + 1) : Nat) : Int) + 1) = ((x.who.size + (T.length + 1) + 1 : Nat) : Int) := by rw [wrap_i64 (by omega) (by omega)]; omega
  rw [e1, e2, Int.toNat_natCast, Int.toNat_natCast, Int.toNat_natCast, xT, xZ]
  refine ⟨⟨by omega, by omega, by omega⟩, (Any.strconv_Atoi lays172 ⟨T.toArray⟩ x.time (by rw [bs_mksize]; omega) (by rw [bs_mk, d1, Int.toNat_of_nonneg t0]) w14).mono ?_⟩
  rintro e w16 ⟨rfl, t, hw16⟩
  have f16 : Fr (fun _ => False) w14 w16 := by rw [hw16]; exact bytesWorld_fr w14 (lays172_ren.t 5) t
  clear hw16
  have g16 : Fr (· = b) w w16 := ((f1.mono fun _ _ h => h.elim : Fr (· = b) w w1).trans' f3).trans f16 fun _ _ h => h.elim
  have r16 := r3.keep f16 (by simp)
  have hb16 := f16.keep hb3 (by simp)
  have tab : ∀ w', Fr (fun _ => False) w16 w' → Tab10 w' := fun w' f => h10.keep ((hw0.trans g16 fun k hk e => by omega).trans' f)
  refine ⟨x.time, ⟨⟩, rfl, ⟨by omega, by omega⟩, fun w' => Fr (fun _ => False) w16 w', ⟨fun w20 d20 => ?_, ?_⟩⟩
  · have f20 : Fr (fun _ => False) w16 w20 := .drew _ d20
    refine ⟨fun w' => Fr (fun _ => False) w16 w', f20, fun h => (by cases h), fun _ => ⟨⟨by omega, by omega, by omega⟩, ?_⟩⟩
    have q := itoa12 x.time.toNat (by omega) (tab w20 f20)
    rw [Int.toNat_of_nonneg t0, ← hT] at q
    refine q.mono ?_
    rintro e w23 ⟨rfl, f23⟩
    refine ⟨_, rfl, f20.trans' f23, fun h => ?_, fun _ => ⟨fun h => ?_, fun _ => f20.trans' f23⟩⟩
    · simp at h
    · rw [bs_mksize, hzl] at h
      simp at h
  intro w25 f25
  obtain ⟨k, hk⟩ : ∃ k, k = x.zone.natAbs := ⟨_, rfl⟩
  have hk840 : k ≤ 840 := by omega
  obtain ⟨zl, za, zd⟩ := zone_digits k hk840
  have hZ2 : Z = (if x.zone < 0 then 45 else 43) :: (dec3 (10000 + k / 60 * 100 + k % 60)).drop 1 := by rw [hZ, hk]; rfl
  have x1 : (⟨Z.toArray⟩ : ByteArray).extract (Int.toNat 1) (⟨Z.toArray⟩ : ByteArray).size = ⟨((dec3 (10000 + k / 60 * 100 + k % 60)).drop 1).toArray⟩ := bs_ext (by
    rw [bs_tail, bs_mk, bs_mk, hZ2]; rfl)
  rw [x1]
  have hz5 : (⟨Z.toArray⟩ : ByteArray).size = 5 := by rw [bs_mksize, hzl]
  refine ⟨⟨by decide, by rw [hz5]; decide⟩, (Any.strconv_Atoi lays172 ⟨((dec3 (10000 + k / 60 * 100 + k % 60)).drop 1).toArray⟩ ((k / 60 * 100 + k % 60 : Nat) : Int) (by rw [bs_mksize, List.length_drop, zl]; decide) (by rw [bs_mk, za]) w25).mono ?_⟩
  rintro e w27 ⟨rfl, t, hw27⟩
  have f27 : Fr (fun _ => False) w25 w27 := by rw [hw27]; exact bytesWorld_fr w25 (lays172_ren.t 5) t
  clear hw27
  have e3 : Int.tmod ((k / 60 * 100 + k % 60 : Nat) : Int) 100 = ((k % 60 : Nat) : Int) := by
    show (((k / 60 * 100 + k % 60) % 100 : Nat) : Int) = _
    omega
  have e4 : Int.tdiv ((k / 60 * 100 + k % 60 : Nat) : Int) 100 = ((k / 60 : Nat) : Int) := by
    show (((k / 60 * 100 + k % 60) / 100 : Nat) : Int) = _
    omega
  refine ⟨_, ⟨⟩, rfl, fun w' => w' = w27, ⟨fun h => (by cases h), fun _ => ⟨by decide, fun h => ?_, fun _ => rfl⟩⟩, ?_⟩
  · have h := of_decide_eq_true h
    rw [e3] at h
    omega
  rintro w31 rfl
  rw [e3, e4, wrap_i64 (x := ((k / 60 : Nat) : Int)) (by omega) (by omega), wrap_i64 (x := ((k / 60 : Nat) : Int) * 60) (by omega) (by omega), wrap_i64 (by omega) (by omega), show ((k / 60 : Nat) : Int) * 60 + ((k % 60 : Nat) : Int) = ((k : Nat) : Int) by omega, xW]
  refine ⟨⟨by omega, by omega⟩, by decide, by decide, fun w32 hw32 => ?_⟩
  have f32 : Fr (fun _ => False) w31 w32 := by rw [hw32]; exact .alloc _ _ _
  have hb32 : w32.heap[w31.heap.size]? = some (.cells #[.string ⟨#[]⟩, .int .i64 0, .int .i64 0] T_api_Sign (0, 0)) := by rw [hw32]; exact alloc_new _ _
  clear hw32
  obtain ⟨w33, hr33, hb33, f33⟩ := boxG_store hb32 rfl ⟨x.who, x.time, (k : Int)⟩
  dsimp only at hr33 hb33
  have hlt : w.heap.size < w31.heap.size := Nat.lt_of_lt_of_le (lt_blk hb16) (f25.trans' f27).size
  generalize hA : w31.heap.size = A at hb32 hb33 f33 hr33 hlt ⊢
  have g33 : Fr (fun _ => False) w31 w33 := f32.trans f33 fun q hq e => by omega
  have r33 := r16.keep ((f25.trans' f27).trans' g33) (by simp)
  have hbR33 := ((f25.trans' f27).trans' g33).keep hb16 (by simp)
  have hbA : b ≠ A := by omega
  have hwA : w.heap.size ≠ A := by omega
  refine ⟨w33, hr33, fun w' => w'.heap[A]? = some (.cells #[.string x.who, .int .i64 x.time, .int .i64 x.zone] T_api_Sign (0, 0)) ∧ Fr (fun _ => False) w31 w' ∧ IsRdr w' b rest ∧ w'.heap[w.heap.size]? = some (.cells #[.string ⟨#[]⟩, .int .i64 0, .int .i64 0] T_api_Sign (0, 0)), ⟨⟨by decide, by rw [hz5]; decide⟩, fun h => ?_, fun h => ?_⟩, ?_⟩
  · have hneg : x.zone < 0 := by
      by_cases hneg : x.zone < 0
      · exact hneg
      · exfalso
        rw [show (0 : Int) = ((0 : Nat) : Int) from rfl, byteAt_nat] at h
        unfold byt at h
        rw [bs_mk, hZ2, if_neg hneg, List.getElem?_cons_zero] at h
        revert h
        decide
    refine ⟨(k : Int), by rw [cell_blk hb33]; rfl, wr_blk hb33 (by simp), fun w36 hw36 => ?_⟩
    rw [hw36, wrap_i64 (by omega) (by omega), show (0 : Int) - (k : Int) = x.zone by omega]
    have fs : Fr (· = A) w33 (w33.setCell ⟨A, 2, none⟩ (.int .i64 x.zone)) := Fr.set (· = A) _ (a := ⟨A, 2, none⟩) _ rfl
    exact ⟨set_blk hb33 2 _, g33.trans fs fun q hq e => by omega, r33.keep fs hbA, fs.keep hbR33 hwA⟩
  · have hpos : ¬ x.zone < 0 := fun hneg => by
      rw [show (0 : Int) = ((0 : Nat) : Int) from rfl, byteAt_nat] at h
      unfold byt at h
      rw [bs_mk, hZ2, if_pos hneg, List.getElem?_cons_zero] at h
      revert h
      decide
    rw [show (k : Int) = x.zone by omega] at hb33
    exact ⟨hb33, g33, r33, hbR33⟩
  rintro w37 ⟨hb37, f37, r37, hbR37⟩
  refine ⟨x.zone, by rw [cell_blk hb37]; rfl, (zone_spec x.zone z0 z1 (tab w37 ((f25.trans' f27).trans' f37))).mono ?_⟩
  rintro e w40 ⟨rfl, f40⟩
  rw [← hZ]
  refine ⟨_, rfl, fun h => ?_, fun _ => ?_⟩
  · simp at h
  have hb40 := f40.keep hb37 (by simp)
  have hbR40 := f40.keep hbR37 (by simp)
  have r40 := r37.keep f40 (by simp)
  obtain ⟨w45, hr45, hb45, f45⟩ := boxG_store hbR40 rfl x
  refine ⟨x.who, x.time, x.zone, boxG_load hb40, w45, hr45, x.who, x.time, x.zone, boxG_load hb45, rfl, r40.keep f45 (by omega), ?_⟩
  have g40 : Fr (· = b) w w40 := g16.trans ((f25.trans' f27).trans' (f37.trans' f40)) fun _ _ h => h.elim
  exact g40.trans f45 fun q hq e => by omega
end Go.Proofs.YtllegkmadljmaaaGreatDoor

/- Functions that defer one closure behind some first statements: their formula, and that it is enough. No condition: for all programs. -/
set_option linter.unusedVariables false
namespace Vc
open Go

/-- A region that makes a closure and defers its call, or that defers a call with arguments. -/
def deferOfA : Code → Option (List Oper × List Oper × Operand × List Operand)
  | .region _ ops false => match ops.toList with
    | [⟨none, .defer ⟨.value x, args, _⟩, _, _, _, none⟩] => some (ops.toList, [], x, args.toList)
    | [o1, ⟨none, .defer ⟨.value x, args, _⟩, _, _, _, none⟩] => some (ops.toList, [o1], x, args.toList)
    | _ => none
  | _ => none
theorem deferOfA_spec {c : Code} {l pre : List Oper} {x : Operand} {al : List Operand} (h : deferOfA c = some (l, pre, x, al)) :
    ∃ id ops o2 args tys, c = .region id ops false ∧ l = ops.toList ∧ ops.toList = pre ++ [o2] ∧ (pre = [] ∨ ∃ o1, pre = [o1]) ∧ o2.dst = none ∧ o2.op = .defer ⟨.value x, args, tys⟩ ∧ args.toList = al ∧ o2.guard = none := by
  unfold deferOfA at h
  split at h
  · rename_i id ops
    split at h
    · rename_i x' args tys ty pos after hl
      simp only [Option.some.injEq, Prod.mk.injEq] at h
      obtain ⟨rfl, rfl, rfl, rfl⟩ := h
      exact ⟨id, ops, _, args, tys, rfl, rfl, hl, .inl rfl, rfl, rfl, rfl, rfl⟩
    · rename_i o1' x' args tys ty pos after hl
      simp only [Option.some.injEq, Prod.mk.injEq] at h
      obtain ⟨rfl, rfl, rfl, rfl⟩ := h
      exact ⟨id, ops, _, args, tys, rfl, rfl, hl, .inr ⟨_, rfl⟩, rfl, rfl, rfl, rfl⟩
    · cases h
  · cases h
theorem vl_all {D : List Deferred} {N : Nat} {e : Env} {a : Act} (h : Sub D N e a) {l : List Operand} (hh : hasAll e l = true) : l.map a.eval = l.map (Vc.vl e) := List.map_congr_left fun x hx => h.vl (hasAll_spec hh x hx)
section
variable (P : Program) (ty : Nat → Sh) (N : Nat) (ann : Ann)
/-- The formula of such a function's body; K knows what is deferred. -/
def WD : Code → Env → World → (Option (FuncId × Array Value) → Ex → Env → World → Prop) → Prop
  | .seq x y, e, w, K => match deferOfA x with
    | some (ops, pre, z, al) => wOps P ty N .full ops pre e w fun e' w' => match has e' z with
      | false => False
      | true => match hasAll e' al with
      | false => False
      | true => match pureRun P (Deferred.ofValue (vl e' z) (al.map (vl e')).toArray) with
        | some d => match d.target with
          | .fn _ _ => match pureRun P (invoke d.target d.args) with
            | some (.enter f args) => W P ty N ann y e' w' fun x e'' w'' => K (some (f, args)) x e'' w''
            | _ => False
          | _ => False
        | none => False
    | none => W P ty N ann x e w fun x' e' w' => match x' with
      | .n => WD y e' w' K
      | x' => K none x' e' w'
  | _, _, _, _ => False
end
theorem WD_sound {P : Program} {ty : Nat → Sh} {N : Nat} {ann : Ann} (hm : P.follows .mixedOrders = true) : ∀ (c : Code) (e : Env) (w : World) (K : Option (FuncId × Array Value) → Ex → Env → World → Prop), WD P ty N ann c e w K →
    ∀ (a : Act) (Q : Exit → Act → World → Prop), Sub [] N e a → (∀ x e' w' a', K none x e' w' → Sub [] N e' a' → Q x.exit a' w') →
    (∀ f args d x e' w' a', K (some (f, args)) x e' w' → pureRun P (invoke d.target d.args) = some (.enter f args) → (∃ fv cap, d.target = .fn fv cap) → Sub [d] N e' a' → Q x.exit a' w') → c.wp P Q a w
  | .seq x y, e, w, K, h, a, Q, hs, hk, hd => by
    simp only [WD] at h
    split at h
    · rename_i l pre z al hdo
      obtain ⟨id, ops, o2, args, tys, rfl, rfl, hl, hpre, hdst, hop, hargs, hg⟩ := deferOfA_spec hdo
      refine wp_seq (wp_region_list ?_)
      have step2 : ∀ (e' : Env) (w' : World) (a' : Act), Sub [] N e' a' → (match has e' z with
          | false => False
          | true => match hasAll e' al with
            | false => False
            | true => match pureRun P (Deferred.ofValue (vl e' z) (al.map (vl e')).toArray) with
            | some d => match d.target with
              | .fn _ _ => match pureRun P (invoke d.target d.args) with
                | some (.enter f args) => W P ty N ann y e' w' fun x e'' w'' => K (some (f, args)) x e'' w''
                | _ => False
              | _ => False
            | none => False) → wpList P ops (Exit.then (y.wp P Q) Q) [o2] a' w' := by
        intro e' w' a' hs' h'
        have hwant : Region.wanted o2 (yielded ops a'.tmps) = true := by simp [Region.wanted, hg]
        unfold wpList
        rw [if_pos hwant]
        refine .inl ?_
        split at h'
        · exact h'.elim
        rename_i hhas
        split at h'
        · exact h'.elim
        rename_i hall
        split at h'
        · rename_i d hpd
          split at h'
          · rename_i fv cap htar
            split at h'
            · rename_i f fargs hpi
              have hev : a'.eval z = vl e' z := hs'.vl hhas
              have hrun : (execOp a'.eval o2).run P w' = .ok (.defer d) w' := by
                have hr := pureRun_spec hpd w'
                have hav : args.map a'.eval = (al.map (vl e')).toArray := by
                  rw [← vl_all hs' hall, ← hargs]
                  apply Array.ext'
                  simp
                simp [execOp, hop, resolve, hav, hev, hr, Result.andThen]
              unfold Oper.wp
              rw [hrun, Oper.upon_defer, hdst]
              unfold wpList
              have hsd : Sub [d] N e' { a' with defers := d :: a'.defers } := ⟨hs'.size, by rw [hs'.defers], hs'.at_⟩
              exact W_sound hm y e' w' _ h' _ Q hsd fun x e'' w'' a'' g1 _ g3 => hd f fargs d x e'' w'' a'' g1 hpi ⟨fv, cap, htar⟩ g3
            · exact h'.elim
          · exact h'.elim
        · exact h'.elim
      rw [hl]
      rw [hl] at h
      rcases hpre with rfl | ⟨o1, rfl⟩
      · exact step2 e w a hs h
      rw [List.cons_append, List.nil_append] at hl h ⊢
      refine wGuard_open h hs (fun e1 he hs1 hw h => ?_) (fun e1 he hs1 hf hw h => ?_)
      · rw [← hl] at hw
        have hw : Region.wanted o1 (yielded ops a.tmps) = true := by simpa using hw
        unfold wpList; rw [if_pos hw]
        exact .inl (wStep_sound h hs1 fun v w' a' hh hs' => step2 _ w' a' hs' hh)
      · rw [← hl] at hw
        have hw : Region.wanted o1 (yielded ops a.tmps) = false := by simpa using hw
        unfold wpList; rw [if_neg (by simp [hw])]
        exact step2 _ w _ (hs1.put (v := (undef, false)) hf) h
    · refine wp_seq (W_sound hm x e w _ h a _ hs fun x e' w' a' h1 h2 h3 => ?_)
      cases x with
      | n => exact WD_sound hm y e' w' K h1 a' Q h3 hk hd
      | x i => exact hk (.x i) _ _ _ h1 h3
      | g i => exact hk (.g i) _ _ _ h1 h3
      | r => exact hk .r _ _ _ h1 h3
  | .skip, e, w, K, h, _, _, _, _, _ => h.elim
  | .region .., e, w, K, h, _, _, _, _, _ => h.elim
  | .cond .., e, w, K, h, _, _, _, _, _ => h.elim
  | .block .., e, w, K, h, _, _, _, _, _ => h.elim
  | .loop .., e, w, K, h, _, _, _, _, _ => h.elim
  | .exit .., e, w, K, h, _, _, _, _, _ => h.elim
  | .label .., e, w, K, h, _, _, _, _, _ => h.elim
  | .goto .., e, w, K, h, _, _, _, _, _ => h.elim
  | .ret, e, w, K, h, _, _, _, _, _ => h.elim
  | .rangeFunc .., e, w, K, h, _, _, _, _, _ => h.elim
  | .refuse .., e, w, K, h, _, _, _, _, _ => h.elim
  | .scope .., e, w, K, h, _, _, _, _, _ => h.elim
section
variable (P : Program) (ty : Nat → Sh) (ann : Ann)
/-- What the deferred closure is to do where the function returns: return itself, and leave behind what the function hands back. -/
def BodyD (fn : Func) (c : Code) (args : List (Value × Bool)) (w : World) (R : Value → World → Prop) : Prop :=
  WD P ty fn.ntmps ann c (envOf args 0) w fun D x e w' =>
    (match x with
    | .n | .r => match D with
      | none => answer P ty fn R e w'
      | some (f, fargs) => CallsD P f fargs .returning w' fun en u w'' => (∃ v, en = .returned v) ∧ u = .returning ∧ answer P ty fn R e w''
    | _ => False)
end
/-- THE FORMULA IS ENOUGH. -/
theorem calls_of_bodyD {P : Program} {ty : Nat → Sh} {ann : Ann} {f : FuncId} {fn : Func} {c : Code} {vs : List (Value × Bool)} {w : World} {R : Value → World → Prop} {R' : Ending → World → Prop}
    (hm : P.follows .mixedOrders = true) (hf : P.funcs[f]? = some fn) (hb : fn.body = some c) (hn : Nat.ble vs.length fn.ntmps = true)
    (h : BodyD P ty ann fn c vs w R) (hR : ∀ v w', R v w' → R' (.returned v) w') : Calls P f (firsts vs).toArray w R' := by
  have hlen : ∀ l : List (Value × Bool), (firsts l).length = l.length := fun l => by induction l with
    | nil => rfl
    | cons v r ih => simp [firsts, ih]
  have hn' : vs.length ≤ fn.ntmps := Nat.le_of_ble_eq_true hn
  have out : ∀ (D : List Deferred) (e : Env) (a : Act) (w' : World), Sub D fn.ntmps e a → answer P ty fn R e w' → ∃ v, (results fn a.tmps).run P w' = .ok v w' ∧ R' (.returned v) w' := fun D e a w' hs h1 => by
    obtain ⟨vs, hR1, hl, hv⟩ := ans_out hs _ _ h1
    refine ⟨tupled vs, ?_, hR _ _ hR1⟩
    have hmap := run_mapM (P := P) (w := w') hl hv
    have hres : results fn a.tmps = (fn.results.mapM (resAt a.tmps)) >>= fun vs => pure (if h : vs.size = 1 then vs[0] else .tuple vs) := by
      unfold results; congr 1
    rw [hres, Array.mapM_eq_mapM_toList]
    simp only [Sem.run_bind, Sem.run_map, hmap]
    match vs with
    | [] => rfl
    | [v] => rfl
    | v :: u :: r => rfl
  have hsub : Sub [] fn.ntmps (envOf vs 0) { tmps := (firsts vs).toArray ++ Array.replicate (fn.ntmps - (firsts vs).toArray.size) undef, defers := [] } := by
    refine ⟨by simp [hlen]; omega, rfl, fun t v hv => ?_⟩
    obtain ⟨_, h2⟩ := get_envOf vs 0 t v hv
    have h2' : (firsts vs)[t]? = some v.1 := by simpa using h2
    have hlt := (List.getElem?_eq_some_iff.1 h2').1
    simp only
    rw [Array.getElem?_append_left (by simpa using hlt)]
    simpa using h2'
  refine calls_of_wp_defers hf hb (WD_sound hm c _ w _ h _ _ hsub (fun x e' w' a' h1 h3 => ?_) (fun g args d x e' w' a' h1 hi ⟨fv, cap, ht⟩ h3 => ?_))
  · have key : answer P ty fn R e' w' → Leaves P fn a'.tmps R' a'.defers .returning w' := fun h1 => by
      rw [h3.defers]
      exact out _ _ _ _ h3 h1
    cases x with
    | n => exact key h1
    | r => exact key h1
    | x i => exact h1.elim
    | g i => exact h1.elim
  · have key : (CallsD P g args .returning w' fun en u w'' => (∃ v, en = .returned v) ∧ u = .returning ∧ answer P ty fn R e' w'') → Leaves P fn a'.tmps R' a'.defers .returning w' := fun h1 => by
      rw [h3.defers]
      obtain ⟨dt, da⟩ := d
      simp only at ht
      subst ht
      refine leaves_cons (by simp) (pureRun_spec hi w') (h1.mono fun en u w'' ⟨⟨v, hv⟩, hu, ha⟩ => ?_)
      subst hv hu
      exact out _ _ _ _ h3 ha
    cases x with
    | n => exact key h1
    | r => exact key h1
    | x i => exact h1.elim
    | g i => exact h1.elim
end Vc

/- The closure that a function defers, walked where nothing panics: operations that ask nothing of the world, and recover. No condition: for all programs. -/
set_option linter.unusedVariables false
namespace Vc
open Go
section
variable {P : Program} {ops : Array Oper} {Q : Exit → Act → List Frame → World → Prop}
/-- recover. -/
theorem recS_spec {i : Nat} {o : Oper} {ct : Array TypeId} (hi : ops[i]? = some o) (ho : o.op = .call ⟨.builtin .recover, #[], ct⟩) (hg : o.guard = none) {rest : List Nat} {a a' : Act} {cs cs' : List Frame} {w : World}
    (h : (match recoverD cs with | some (v, cs'') => a' = a.put o.dst v ∧ cs' = cs'' | none => a' = a.put o.dst .nilIface ∧ cs' = cs)) (hq : wpOpsS P ops Q rest a' cs' w) : wpOpsS P ops Q (i :: rest) a cs w := by
  unfold wpOpsS
  simp only [hi]
  rw [if_pos (by simp [Region.wanted, hg])]
  have hr : (execOp a.eval o).run P w = .ok .recover w := by
    simp [execOp, ho, resolve]
    rfl
  rw [hr]
  simp only
  cases hc : recoverD cs with
  | none =>
    simp only [hc] at h
    obtain ⟨rfl, rfl⟩ := h
    exact hq
  | some p =>
    obtain ⟨v, cs''⟩ := p
    simp only [hc] at h
    obtain ⟨rfl, rfl⟩ := h
    exact hq
end
end Vc

/- The call that commit's parse defers, where parse returns: it turns nothing. No condition. -/
set_option linter.unusedVariables false
namespace Go.Proofs.YtllegkmadljmaaaGreatDoor
open Go Vc Go.Proofs
set_option maxRecDepth 100000
theorem wpl_pure {P : Program} {ops : Array Oper} {Q : Exit → Act → World → Prop} {o : Oper} {rest : List Oper} {a : Act} {w : World} {v : Value} (hg : o.guard = none) (h : pureRun P (execOp a.eval o) = some (.value v)) (hq : wpList P ops Q rest (a.put o.dst v) w) : wpList P ops Q (o :: rest) a w := by
  unfold wpList
  rw [if_pos (by simp [Region.wanted, hg])]
  refine .inl ?_
  unfold Oper.wp
  rw [pureRun_spec h w]
  exact hq
theorem guard_idle (p : Addr) (w : World) :
    CallsD Tryz.prog F_commit_guard #[.pointer (some p)] .returning w fun e u w' => e = .returned (.tuple #[]) ∧ u = .returning ∧ w' = w := by
  refine callsD_of_wpS Tryz.func83 rfl fun c₀ cs hu => ?_
  have hz : ({ c₀ with mode := .returning } : Frame) = c₀ := by cases c₀; simp only at hu; subst hu; rfl
  refine wpS_seq (wpS_region ?_)
  show wpOpsS _ _ _ [0] _ _ _
  refine recS_spec (a' := ⟨#[.pointer (some p), undef, undef, undef, undef, .nilIface, undef, undef, undef, undef, undef, undef, undef], []⟩) (cs' := c₀ :: cs) rfl rfl rfl ?_ ?_
  · rw [show recoverD (c₀ :: cs) = none by unfold recoverD; simp only [hu]]
    exact ⟨by kernel_rfl, rfl⟩
  show Code.wpS _ _ _ _ _ _
  refine wpS_of_wp (wp_block (wp_seq (wp_region_list ?_)))
  refine wpl_pure (v := .bool true) rfl (by kernel_rfl) ?_
  show Code.wp _ _ _ _ _
  refine wp_cond (t := true) (by kernel_rfl) ?_
  rw [if_pos rfl]
  refine wp_region_list ?_
  refine wpl_pure (v := .nilIface) rfl (by kernel_rfl) ?_
  exact ⟨rfl, .returning, by rw [hz], .tuple #[], by kernel_rfl, rfl, rfl, rfl⟩
end Go.Proofs.YtllegkmadljmaaaGreatDoor

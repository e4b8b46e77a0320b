/- A stream of stored blocks: 'Stored' of the program. Condition: the text is no longer than a slice may be. -/
import Derived.Test.YtofejgaanpaieaaSumA
import Derived.Test.YtofejgaanpaieaaWr
import Derived.Test.YtofejgaanpaieaaInfX
import Derived.Test.YtofejgaanpaieaaGenA
set_option linter.unusedVariables false
namespace SumM
/-- A stored block's first bytes. -/
def shead (f n : Nat) : List UInt8 := [UInt8.ofNat f] ++ (littleB 2 n ++ littleB 2 (65535 - n))
/-- A stream of stored blocks. -/
def storedS (s : List UInt8) : List UInt8 :=
  if h : s.length ≤ 65535 then shead 1 s.length ++ s else shead 0 65535 ++ s.take 65535 ++ storedS (s.drop 65535)
termination_by s.length
decreasing_by simp; omega
theorem storedS_last {s : List UInt8} (h : s.length ≤ 65535) : storedS s = shead 1 s.length ++ s := by rw [storedS, dif_pos h]
theorem storedS_more {s : List UInt8} (h : ¬ s.length ≤ 65535) : storedS s = shead 0 65535 ++ s.take 65535 ++ storedS (s.drop 65535) := by rw [storedS, dif_neg h]
theorem shead_length (f n : Nat) : (shead f n).length = 5 := by simp [shead, littleB_length]
theorem storedS_len : ∀ (n : Nat) (s : List UInt8), s.length = n → (storedS s).length ≤ 2 * n + 5 := fun n => by
  induction n using Nat.strongRecOn with
  | ind n ih =>
    intro s hs
    by_cases h : s.length ≤ 65535
    · rw [storedS_last h, List.length_append, shead_length]; omega
    · have := ih (n - 65535) (by omega) (s.drop 65535) (by rw [List.length_drop]; omega)
      rw [storedS_more h, List.length_append, List.length_append, shead_length, List.length_take]
      omega
end SumM
namespace Go.Proofs.Ytofejgaanpaieaa
open Go Vc BitsM SumM Go.Proofs

theorem fill8_head (l : List UInt8) (f : Nat) (h : f ≤ 1) : fill8 (sbits l ++ lowB 3 f) = sbits (l ++ [UInt8.ofNat f]) := by
  unfold fill8
  rw [List.length_append, sbits_length, lowB_length, show 8 * ((8 * l.length + 3 + 7) / 8) - (8 * l.length + 3) = 5 by omega, sbits_append, List.append_assoc]
  congr 1
  rcases (show f = 0 ∨ f = 1 by omega) with rfl | rfl <;> rfl
/-- 'Stored'. -/
theorem stored5_spec (s : ByteArray) (hs : s.size ≤ 100000000) (w : World) :
    Calls Try.prog F_inflate_Stored #[.string s] w fun e w' => e = .returned (.string ⟨(storedS s.data.toList).toArray⟩) ∧ Fr (fun _ => False) w w' := by
  refine vc_inflate_Stored_ok (R := fun v w' => v = .string ⟨(storedS s.data.toList).toArray⟩ ∧ Fr (fun _ => False) w w') ?_ (fun v w' h => ⟨by rw [h.1], h.2⟩)
  intro w1 h1
  have hf1 : Fr (fun _ => False) w w1 := h1 ▸ Fr.alloc _ _ _
  have hw1 : Wrt w1 w.heap.size ⟨none, 0, 0⟩ (sbits []) := Wrt.zero (by rw [h1]; exact alloc_new _ _)
  have far : ∀ {w1 w2 : World} {sl : Sl} {l : List Bool}, Fr (fun _ => False) w w1 → Wrt w1 w.heap.size sl l → Fr (WX w.heap.size sl) w1 w2 → Fr (fun _ => False) w w2 := fun h1 hx h2 => h1.trans h2 fun k hk hh => by
    rcases hh with hh | ⟨y, hy, e⟩
    · omega
    · have := (hx.1.own.blk hy).1; omega
  refine ⟨fun t w' => ∃ sl done, Fr (fun _ => False) w w' ∧ Wrt w' w.heap.size sl (sbits done) ∧ done ++ storedS t.data.toList = storedS s.data.toList ∧ t.size ≤ s.size ∧ done.length ≤ 2 * (s.size - t.size), fun t _ => t.size, ⟨_, [], hf1, hw1, rfl, Nat.le_refl _, by simp⟩, ?_⟩
  rintro t w5 ⟨sl, done, hf5, hw5, hdone, hts, hdl⟩
  have htl : t.data.toList.length = t.size := by simp
  obtain ⟨n, hn⟩ : ∃ n, min t.size 65535 = n := ⟨_, rfl⟩
  have en : (if (65535 : Int) < (t.size : Int) then 65535 else (t.size : Int)) = ((n : Nat) : Int) := by split <;> omega
  rw [en]
  obtain ⟨f, hfn⟩ : ∃ f : Nat, f ≤ 1 ∧ (f = 1 ↔ n = t.size) := by
    by_cases h : n = t.size
    · exact ⟨1, by omega, by omega⟩
    · exact ⟨0, by omega, by omega⟩
  refine ⟨fun z w' => z = (f : Int) ∧ w' = w5, ⟨fun h => ⟨?_, rfl⟩, fun h => ⟨?_, rfl⟩⟩, ?_⟩
  · have := eq_of_beq h
    omega
  · have h : ¬ ((n : Int) = (t.size : Int)) := by simpa using h
    omega
  rintro z w8 ⟨rfl, hw⟩
  replace hw := hw.symm
  subst hw
  refine (wbits_spec hw5 (x := f) (n := 3) (by omega) (by omega) (by rw [sbits_length]; omega)).mono ?_
  rintro e w10 ⟨rfl, sl10, hw10, hf10, hs10⟩
  have hf10' := far hf5 hw5 hf10
  refine ⟨rfl, fun w11 d11 => ⟨fun w' => True, trivial, ⟨by omega, by omega⟩, ?_⟩⟩
  have hx : IntKind.i64.wrap (((BitVec.ofInt 64 (n : Int) ^^^ BitVec.ofInt 64 65535).toNat : Nat) : Int) = ((65535 - n : Nat) : Int) := by
    have := xor_nat 64 n 65535 (by omega) (by decide)
    rw [show ((65535 : Nat) : Int) = 65535 from rfl, xor_ones n (by omega)] at this
    rw [this, wrap_i64 (by omega) (by omega)]
  rw [hx, wrap_u64 (x := ((n : Nat) : Int)) (by omega) (by omega), wrap_u64 (x := ((65535 - n : Nat) : Int)) (by omega) (by omega), Int.toNat_natCast]
  have hw11 : Wrt w11 w.heap.size sl10 (sbits done ++ lowB 3 f) := hw10.keep (.drew (fun _ => False) d11) (by simp) (by simp)
  have hf11 := hf10'.trans' (.drew _ d11)
  refine (littleS_spec n 2 (by omega) (by decide) w11).mono ?_
  rintro e w14 ⟨rfl, hf14⟩
  refine ⟨_, rfl, trivial, (littleS_spec (65535 - n) 2 (by omega) (by decide) w14).mono ?_⟩
  rintro e w17 ⟨rfl, hf17⟩
  have hw17 := (hw11.keep hf14 (by simp) (by simp)).keep hf17 (by simp) (by simp)
  have hf17' := (hf11.trans' hf14).trans' hf17
  have h2a : ByteArray.size ⟨(littleB 2 n).toArray⟩ = 2 := by simp [ByteArray.size, littleB_length]
  have h2b : ByteArray.size ⟨(littleB 2 (65535 - n)).toArray⟩ = 2 := by simp [ByteArray.size, littleB_length]
  have hxe : (t.extract 0 n).size = n := by simp; omega
  have hsa : ∀ a b : ByteArray, (a ++ b).size = a.size + b.size := fun a b => by simp
  have htx : ((⟨(littleB 2 n).toArray⟩ : ByteArray) ++ ⟨(littleB 2 (65535 - n)).toArray⟩ ++ t.extract 0 n).data.toList = littleB 2 n ++ littleB 2 (65535 - n) ++ t.data.toList.take n := by
    simp only [ByteArray.data_append, Array.toList_append, extract_list, List.drop_zero, Nat.sub_zero]
  refine ⟨_, rfl, trivial, by rw [h2a, h2b]; omega, by rw [hsa, h2a, h2b, hxe]; omega, ?_⟩
  refine (wbytes_spec hw17 _ (by rw [hsa, hsa, h2a, h2b, hxe, List.length_append, sbits_length, lowB_length]; omega)).mono ?_
  rintro e w20 ⟨rfl, sl20, hw20, hf20, hs20⟩
  have hf20' := far hf17' hw17 hf20
  have hdone2 : fill8 (sbits done ++ lowB 3 f) ++ sbits ((⟨(littleB 2 n).toArray⟩ : ByteArray) ++ ⟨(littleB 2 (65535 - n)).toArray⟩ ++ t.extract 0 n).data.toList = sbits (done ++ shead f n ++ t.data.toList.take n) := by
    rw [htx, fill8_head _ _ hfn.1, ← sbits_append]
    congr 1
    simp [shead]
  rw [hdone2] at hw20
  refine ⟨rfl, ⟨by omega, by omega⟩, fun h1 => ?_, fun hn1 => ?_⟩
  · have h1 : f = 1 := by have := eq_of_beq h1; omega
    have hnt := hfn.2.1 h1
    refine (wtext_spec hw20).mono ?_
    rintro e w22 ⟨rfl, hf22⟩
    refine ⟨_, rfl, ?_, hf20'.trans' hf22⟩
    rw [textOf_sbits, ← hdone, storedS_last (by omega), h1, htl, hnt, List.take_of_length_le (by omega), List.append_assoc]
  · have hn1 : f ≠ 1 := fun hh => by rw [hh] at hn1; simp at hn1
    have hnt : n ≠ t.size := fun hh => hn1 (hfn.2.2 hh)
    have hn5 : n = 65535 := by omega
    have hf0 : f = 0 := by omega
    subst hn5
    subst hf0
    have hex : (t.extract 65535 t.size).data.toList = t.data.toList.drop 65535 := by rw [extract_list, List.take_of_length_le (by simp)]
    have hes : (t.extract 65535 t.size).size = t.size - 65535 := by simp
    refine ⟨⟨sl20, done ++ shead 0 65535 ++ t.data.toList.take 65535, hf20', hw20, ?_, by omega, ?_⟩, by dsimp only; omega⟩
    · rw [hex, ← hdone, storedS_more (s := t.data.toList) (by omega)]
      simp only [List.append_assoc]
    · rw [List.length_append, List.length_append, shead_length, List.length_take, hes]; omega
end Go.Proofs.Ytofejgaanpaieaa

/- The laws of the frame walked. Conditions: bytes are bytes. -/
import Derived.Test.YtofejgaanpaieaaZlA
import Derived.Test.YtofejgaanpaieaaInfS1
import Derived.Test.YtofejgaanpaieaaWInf0
import Derived.Test.YtofejgaanpaieaaLaw6A
import Derived.Test.YtofejgaanpaieaaLaw6
set_option linter.unusedVariables false
namespace Go.Proofs.Ytofejgaanpaieaa
open Go Vc BitsM SumM Go.Proofs

/-- A frame round a stream. -/
def frameS (stream s : List UInt8) : List UInt8 := [120, 1] ++ stream ++ bigB 4 (adler s)
theorem zframe_spec (t s : ByteArray) (ht : t.size ≤ 1099511627776) (hs : s.size ≤ 1099511627776) (w : World) :
    Calls Try.prog F_zlib_frame #[.string t, .string s] w fun e w' => e = .returned (.string ⟨(frameS t.data.toList s.data.toList).toArray⟩) ∧ Fr (fun _ => False) w w' := by
  refine vc_zlib_frame_ok (R := fun v w' => v = .string ⟨(frameS t.data.toList s.data.toList).toArray⟩ ∧ Fr (fun _ => False) w w') ?_ (fun v w' h => ⟨by rw [h.1], h.2⟩)
  have hd : ByteArray.size ⟨#[120, 1]⟩ = 2 := rfl
  refine ⟨by rw [hd]; omega, (adler_spec s hs w).mono ?_⟩
  rintro e w2 ⟨rfl, hf2⟩
  have had := adler_lt s.data.toList
  refine ⟨_, rfl, ?_⟩
  rw [wrap_u64 (by omega) (by omega)]
  refine (big_spec (adler s.data.toList) 4 (by omega) (by decide) w2).mono ?_
  rintro e w5 ⟨rfl, hf5⟩
  have hb : ByteArray.size ⟨(bigB 4 (adler s.data.toList)).toArray⟩ = 4 := by simp [ByteArray.size, bigB_length]
  have hsa : (⟨#[120, 1]⟩ ++ t : ByteArray).size = 2 + t.size := by rw [ByteArray.size_append, hd]
  refine ⟨_, rfl, by rw [hsa, hb]; omega, ?_, hf2.trans' hf5⟩
  congr 1
theorem zplain_spec (s : ByteArray) (hs : s.size ≤ 100000000) (w : World) :
    Calls Try.prog F_zlib_Plain #[.string s] w fun e w' => e = .returned (.string ⟨(frameS (storedS s.data.toList) s.data.toList).toArray⟩) ∧ Fr (fun _ => False) w w' := by
  refine vc_zlib_Plain_ok (R := fun v w' => v = .string ⟨(frameS (storedS s.data.toList) s.data.toList).toArray⟩ ∧ Fr (fun _ => False) w w') ?_ (fun v w' h => ⟨by rw [h.1], h.2⟩)
  refine (stored5_spec s hs w).mono ?_
  rintro e w2 ⟨rfl, hf2⟩
  refine ⟨_, rfl, (zframe_spec _ s (by have := storedS_len s.data.toList.length s.data.toList rfl; rw [show s.data.toList.length = s.size by simp] at this; simp only [ByteArray.size, List.size_toArray]; omega) (by omega) w2).mono ?_⟩
  rintro e w5 ⟨rfl, hf5⟩
  exact ⟨_, rfl, rfl, hf2.trans' hf5⟩
theorem awake6_read : ZlM.read [120, 1, 1, 1, 0, 254, 255, 97, 0, 98, 0, 98] 0 5 = ([97], 12, 0) := by
  have hi : InfM.inflate [120, 1, 1, 1, 0, 254, 255, 97, 0, 98, 0, 98] 2 5 = ([97], 6, 0) := by
    have ht : InfM.take (sbits [1, 1, 0, 254, 255, 97, 0, 98, 0, 98]) 3 0 = .ok (1, 3) := by kernel_rfl
    have hl : (sbits [1, 1, 0, 254, 255, 97, 0, 98, 0, 98]).length = 80 := by rw [sbits_length]; rfl
    have hd : sbits (([120, 1, 1, 1, 0, 254, 255, 97, 0, 98, 0, 98] : List UInt8).drop (2 : Int).toNat) = sbits [1, 1, 0, 254, 255, 97, 0, 98, 0, 98] := rfl
    have hst : InfM.stored 5 (sbits [1, 1, 0, 254, 255, 97, 0, 98, 0, 98]) 3 [] = .ok ([97], 48) := by kernel_rfl
    unfold InfM.inflate InfM.inf
    rw [if_neg (by decide), hd]
    generalize sbits [1, 1, 0, 254, 255, 97, 0, 98, 0, 98] = B at ht hl hst
    have hb : InfM.block 5 B (1 / 2) 3 [] = .ok ([97], 48) := by
      rw [InfM.block, if_pos (by decide)]
      exact hst
    rw [hl, InfM.blocks, ht]
    simp only
    rw [show ((5 : Int).toNat) = 5 from rfl, hb]
    rfl
  unfold ZlM.read
  rw [show (0 : Int) + 2 = 2 from rfl, hi]
  decide +kernel
/-- 'awake'. -/
theorem awake6_spec (w : World) : Calls Try.prog F_cartularylaw06_awake #[] w fun e w' => e = .returned (.bool true) ∧ Fr (fun _ => False) w w' := by
  refine vc_cartularylaw06_awake_ok (R := fun v w' => v = .bool true ∧ Fr (fun _ => False) w w') ?_ (fun v w' h => ⟨by rw [h.1], h.2⟩)
  refine (zread_spec ⟨#[120, 1, 1, 1, 0, 254, 255, 97, 0, 98, 0, 98]⟩ (by decide) 0 5 w).mono ?_
  rw [show (ByteArray.mk #[120, 1, 1, 1, 0, 254, 255, 97, 0, 98, 0, 98]).data.toList = [120, 1, 1, 1, 0, 254, 255, 97, 0, 98, 0, 98] from rfl, awake6_read]
  rintro e w2 ⟨rfl, _, hf2⟩
  refine ⟨_, _, _, rfl, fun _ => ⟨fun _ => ⟨fun _ => ?_, fun h => absurd h (by decide +kernel)⟩, fun h => absurd h (by decide +kernel)⟩, fun h => absurd h (by decide +kernel)⟩
  refine (zplain_spec ⟨#[97]⟩ (by decide) w2).mono ?_
  rintro e w7 ⟨rfl, hf7⟩
  refine ⟨_, rfl, ?_, hf2.trans' hf7⟩
  rw [show (ByteArray.mk #[97]).data.toList = [97] from rfl, storedS_last (by decide)]
  congr 1
  decide +kernel
/-- 'ZlibReads'. -/
theorem reads6_walk (a0 : ByteArray) (a1 a2 a3 a4 : Int) (h3 : 0 ≤ a3 ∧ a3 ≤ 255) (h4 : 0 ≤ a4 ∧ a4 ≤ 255) (W : World) :
    Calls Try.prog F_cartularylaw06_ZlibReads #[.string a0, .int .i64 a1, .int .i64 a2, .int .u8 a3, .int .u8 a4] W fun e w' => e = .returned (.bool true) ∧ RowKit.Below W.heap.size W w' := by
  refine vc_cartularylaw06_ZlibReads_ok (R := fun v w' => v = .bool true ∧ Fr (fun k => W.heap.size ≤ k) W w') ?_ (fun v w' h => ⟨by rw [h.1], h.2.below (Nat.le_refl _)⟩)
  refine (few_spec a0 400 W).mono ?_
  rintro e w2 ⟨rfl, hw⟩
  replace hw := hw.symm
  subst hw
  have hs := few_len5 a0 400
  generalize (if a0.size > 400 then a0.extract 0 400 else a0) = s at hs
  refine ⟨s, rfl, ?_⟩
  refine (zread_spec s (by omega) a1 a2 W).mono ?_
  rintro e w5 ⟨rfl, _, hf5⟩
  refine ⟨_, _, _, rfl, ?_⟩
  refine (rzread_spec s (by omega) a1 a2 w5).mono ?_
  rintro e w10 ⟨rfl, hf10⟩
  refine ⟨_, _, _, rfl, ?_⟩
  refine (awake6_spec w10).mono ?_
  rintro e w15 ⟨rfl, hf15⟩
  obtain ⟨x, rfl⟩ := Int.eq_ofNat_of_zero_le h3.1
  obtain ⟨y, rfl⟩ := Int.eq_ofNat_of_zero_le h4.1
  refine ⟨_, rfl, fun _ => ⟨fun _ => ⟨fun _ => ⟨fun _ => ?_, fun h => ?_⟩, fun h => ?_⟩, fun h => ?_⟩, fun h => (by cases h)⟩
  · refine (zhead_spec x y (by omega) (by omega) w15).mono ?_
    rintro e w18 ⟨rfl, hw⟩
    replace hw := hw.symm
    subst hw
    refine ⟨_, rfl, ?_⟩
    rw [wrap_i64 (by omega) (by omega), wrap_i64 (by omega) (by omega)]
    refine (rhead_spec x y (by omega) (by omega) w15).mono ?_
    rintro e w21 ⟨rfl, hw⟩
    replace hw := hw.symm
    subst hw
    exact ⟨_, rfl, by rw [beq_self_eq_true], ((hf5.trans' hf10).trans' hf15).mono fun _ _ h => h.elim⟩
  · rw [beq_self_eq_true] at h; cases h
  · rw [beq_self_eq_true] at h; cases h
  · rw [beq_self_eq_true] at h; cases h
/-- 'ZlibAround'. -/
theorem around_walk (a0 : ByteArray) (a1 : Int) (W : World) :
    Calls Try.prog F_cartularylaw06_ZlibAround #[.string a0, .int .i64 a1] W fun e w' => e = .returned (.bool true) ∧ RowKit.Below W.heap.size W w' := by
  refine vc_cartularylaw06_ZlibAround_ok (R := fun v w' => v = .bool true ∧ Fr (fun k => W.heap.size ≤ k) W w') ?_ (fun v w' h => ⟨by rw [h.1], h.2.below (Nat.le_refl _)⟩)
  refine (few_spec a0 400 W).mono ?_
  rintro e w2 ⟨rfl, hw⟩
  replace hw := hw.symm
  subst hw
  have hs := few_len5 a0 400
  generalize (if a0.size > 400 then a0.extract 0 400 else a0) = s at hs
  refine ⟨s, rfl, ?_⟩
  refine (zread_spec s (by omega) 0 a1 W).mono ?_
  have hok := ZlM.read_ok (s := s.data.toList) (most := a1)
  have hbad := ZlM.read_bad (s := s.data.toList) (at_ := 0) (most := a1)
  rw [show s.data.toList.length = s.size by simp] at hok
  generalize ZlM.read s.data.toList 0 a1 = r at hok hbad
  rintro e w5 ⟨rfl, hlen, hf5⟩
  have up : ∀ {w' : World}, Fr (fun _ => False) W w' → Fr (fun k => W.heap.size ≤ k) W w' := fun h => h.mono fun _ _ h => h.elim
  refine ⟨_, _, _, rfl, fun hne => ?_, fun heq => ?_⟩
  · have hne : r.2.2 ≠ 0 := fun hh => by rw [hh] at hne; simp at hne
    obtain ⟨g1, g2⟩ := hbad hne
    refine (awake6_spec w5).mono ?_
    rintro e w10 ⟨rfl, hf10⟩
    rw [g1, g2]
    exact ⟨_, rfl, fun _ => ⟨fun _ => ⟨rfl, up (hf5.trans' hf10)⟩, fun h => absurd h (by decide +kernel)⟩, fun h => (by cases h)⟩
  · have heq : r.2.2 = 0 := Int.ofNat.inj (by simpa using heq)
    obtain ⟨k1, k2, k3, k4, k5, k6⟩ := hok heq
    have hmost := hlen heq
    refine (infl_spec s (by omega) 2 a1 w5).mono ?_
    generalize InfM.inflate s.data.toList 2 a1 = q at k3 k4 k5 k6
    rintro e w13 ⟨rfl, _, hf13⟩
    refine ⟨_, _, _, rfl, fun w17 d17 => ⟨fun w' => True, trivial, (awake6_spec w17).mono ?_⟩⟩
    rintro e w20 ⟨rfl, hf20⟩
    refine ⟨_, rfl, trivial, fun _ => ⟨⟨by decide, by omega⟩, ⟨by decide, by omega⟩, ?_⟩, fun h => (by cases h)⟩
    rw [show (0 : Int) = ((0 : Nat) : Int) from rfl, show (1 : Int) = ((1 : Nat) : Int) from rfl, byteAt_nat, byteAt_nat]
    refine (zhead_spec _ _ (byt_lt s 0) (byt_lt s 1) w20).mono ?_
    rw [byt_getD, byt_getD, k2]
    rintro e w23 ⟨rfl, hw⟩
    replace hw := hw.symm
    subst hw
    have hfin := up (((hf5.trans' hf13).trans' (.drew _ d17)).trans' hf20)
    have e7 : IntKind.i64.wrap ((q.2.1 : Int) + 6) = ((q.2.1 + 6 : Nat) : Int) := by rw [wrap_i64 (by omega) (by omega)]; omega
    rw [e7, k3, k4, k5]
    refine ⟨_, rfl, trivial, fun _ => ⟨fun _ => ⟨fun _ => ⟨fun _ => ⟨fun _ => ⟨?_, hfin⟩, fun h => ?_⟩, fun h => ?_⟩, fun h => ?_⟩, fun h => (by cases h)⟩, fun h => (by cases h)⟩
    · rw [decide_eq_true]
      rw [show ByteArray.size ⟨q.1.toArray⟩ = q.1.length by simp [ByteArray.size], ← k4]
      exact hmost
    · have := of_decide_eq_false h; omega
    · rw [beq_self_eq_true] at h; cases h
    · rw [beq_self_eq_true] at h; cases h
/-- 'ZlibHeads'. -/
theorem heads_walk (a0 : Int) (h0 : 0 ≤ a0 ∧ a0 ≤ 255) (W : World) :
    Calls Try.prog F_cartularylaw06_ZlibHeads #[.int .u8 a0] W fun e w' => e = .returned (.bool true) ∧ RowKit.Below W.heap.size W w' := by
  refine vc_cartularylaw06_ZlibHeads_ok (R := fun v w' => v = .bool true ∧ Fr (fun k => W.heap.size ≤ k) W w') ?_ (fun v w' h => ⟨by rw [h.1], h.2.below (Nat.le_refl _)⟩)
  obtain ⟨a, rfl⟩ := Int.eq_ofNat_of_zero_le h0.1
  have ha : a < 256 := by omega
  rw [vc_cartularylaw06_ZlibHeads, zand15 a ha, zshr4]
  have hcl : ∀ k, ZlM.cnt a k ≤ k := fun k => by
    induction k with
    | zero => exact Nat.le_refl _
    | succ k ih => unfold ZlM.cnt; split <;> omega
  have hc0 : ZlM.cnt a 0 = 0 := rfl
  have hcs : ∀ k, ZlM.cnt a (k + 1) = ZlM.cnt a k + (if ZlM.head a k = true then 1 else 0) := fun _ => rfl
  have hca := ZlM.cnt_all a ha
  generalize ZlM.cnt a = C at hcl hc0 hcs hca
  refine ⟨fun n b w' => ∃ k : Nat, b = (k : Int) ∧ k ≤ 256 ∧ n = (C k : Int) ∧ w' = W, fun _ b _ => 256 - b.toNat, ⟨0, rfl, by decide, by rw [hc0]; rfl, rfl⟩, ?_⟩
  rintro n b w5 ⟨k, rfl, hk, rfl, hw⟩
  replace hw := hw.symm
  subst hw
  refine ⟨fun hlt => ?_, fun hge => ?_⟩
  · have hlt := of_decide_eq_true hlt
    rw [wrap_u8 (by omega) (by omega)]
    refine (zhead_spec a k ha (by omega) W).mono ?_
    rintro e w7 ⟨rfl, hw⟩
    replace hw := hw.symm
    subst hw
    have e1 : IntKind.i64.wrap ((k : Int) + 1) = ((k + 1 : Nat) : Int) := by rw [wrap_i64 (by omega) (by omega)]; omega
    have hc := hcl k
    have e2 : IntKind.i64.wrap ((C k : Int) + 1) = ((C k + 1 : Nat) : Int) := by rw [wrap_i64 (by omega) (by omega)]; omega
    rw [e1, e2]
    refine ⟨_, rfl, fun hyes => ?_, fun hno => ⟨⟨k + 1, rfl, by omega, by rw [hcs, if_neg (by rw [hno]; decide)]; rfl, rfl⟩, by dsimp only; omega⟩⟩
    have hh := hyes
    unfold ZlM.head at hh
    simp only [Bool.and_eq_true, beq_iff_eq, decide_eq_true_eq] at hh
    have hand : ((IntKind.i64.wrap (((BitVec.ofInt 64 (k : Int) &&& BitVec.ofInt 64 32).toNat : Nat) : Int)) != 0) = false := by
      have h32 := and_nat 64 k 32 (by omega) (by decide)
      rw [show ((32 : Nat) : Int) = 32 from rfl] at h32
      have hz := and32 k (by omega)
      rw [hh.2.2.2] at hz
      have hz : k &&& 32 = 0 := eq_of_beq (hz.trans rfl)
      rw [h32, hz]; decide
    obtain ⟨hh1, hh2, hh3, hh4⟩ := hh
    clear hh3 hh4
    clear hca
    have hC : C (k + 1) = C k + 1 := by rw [hcs, if_pos hyes]
    have hk1 : k + 1 ≤ 256 := by omega
    have hm : 256 - (((k + 1 : Nat) : Int)).toNat < 256 - ((k : Int)).toNat := by omega
    have key : (∃ j : Nat, ((k + 1 : Nat) : Int) = (j : Int) ∧ j ≤ 256 ∧ ((C k + 1 : Nat) : Int) = (C j : Int) ∧ W = W) := ⟨k + 1, rfl, hk1, by rw [hC], rfl⟩
    refine ⟨fun h => ?_, fun _ => ⟨fun h => ?_, fun _ => ⟨by decide, fun h => ?_, fun _ => ?_⟩⟩⟩
    · rw [hand] at h; cases h
    · rw [hh1] at h; simp at h
    · have := of_decide_eq_true h; omega
    · exact ⟨key, hm⟩
  · have hge := of_decide_eq_false hge
    have : k = 256 := by omega
    subst this
    obtain ⟨hiff, h5⟩ := hca
    refine (awake6_spec W).mono ?_
    rintro e w10 ⟨rfl, hf10⟩
    have up : Fr (fun k => W.heap.size ≤ k) W w10 := hf10.mono fun _ _ h => h.elim
    refine ⟨_, rfl, fun _ => ⟨fun h8 => ⟨by decide, fun h => ⟨by rw [decide_eq_true (by omega)], up⟩, fun h => ?_⟩, fun h8 => ⟨fun h => ⟨by rw [decide_eq_true (by omega)], up⟩, fun h => ?_⟩⟩, fun h => (by cases h)⟩
    · exfalso
      have h8 : a % 16 = 8 := by have := eq_of_beq h8; omega
      by_cases h7 : a / 16 ≤ 7
      · have := hiff.1 ⟨h8, h7⟩
        rw [decide_eq_true (by omega), decide_eq_true (by omega)] at h; cases h
      · have : ¬ 0 < C 256 := fun hh => h7 (hiff.2 hh).2
        rw [decide_eq_false (by omega), decide_eq_false (by omega)] at h; cases h
    · exfalso
      have h8 : a % 16 ≠ 8 := fun hh => by rw [hh] at h8; simp at h8
      have : ¬ 0 < C 256 := fun hh => h8 (hiff.2 hh).1
      rw [decide_eq_false (by omega)] at h; cases h
end Go.Proofs.Ytofejgaanpaieaa

/- The laws 'any bits are read as the symbols whose codes come' and 'in a set of codes without a gap every long enough row of bits begins with a code' walked: they return true and write nothing that was there. Conditions: the lists are as Go's values are. -/
import Derived.Test.YtcboiljbkkleiaaWHuff
set_option linter.unusedVariables false
namespace Go.Proofs.Ytcboiljbkkleiaa
open Go Vc BitsM HuffM Go.Proofs

/-- Where a reader stands. -/
def rdPos (w : World) (b : Nat) : Nat := 8 * cellNat w ⟨b, 1, none⟩ - cellNat w ⟨b, 3, none⟩
theorem Rd.at_pos {w : World} {b : Nat} {s : ByteArray} {pos : Nat} {from_ : Int} (h : Rd w b s pos from_) : rdPos w b = pos := by
  obtain ⟨a, h⟩ := h
  have c1 := h.c1
  have c3 := h.c3
  have := h.lo
  simp only [rdPos, cellNat, c1, c3, Int.toNat_natCast]; omega

theorem reads4_walk (a0 : Option Addr) (len0 cap0 : Nat) (z0 : List Int) (a1 : ByteArray) (W : World) (w0 : IsRow .i64 W a0 len0 cap0 z0) :
    Calls Try.prog F_cartularylaw04_HuffReads #[.slice a0 len0 cap0, .string a1] W fun e w' => e = .returned (.bool true) ∧ RowKit.Below W.heap.size W w' := by
  refine vc_cartularylaw04_HuffReads_ok (R := fun v w' => v = .bool true ∧ Fr (fun k => W.heap.size ≤ k) W w') ?_ (fun v w' h => ⟨by rw [h.1], h.2.below (Nat.le_refl _)⟩)
  refine (few_spec a1 60 W).mono ?_
  rintro e W0 ⟨rfl, hW0⟩
  subst hW0
  have hs60 : (if a1.size > 60 then a1.extract 0 60 else a1).size ≤ 60 := by
    split
    · rw [ByteArray.size_extract]; omega
    · omega
  generalize (if a1.size > 60 then a1.extract 0 60 else a1) = s at hs60
  generalize hB : W0.heap.size = B
  refine ⟨s, rfl, ?_⟩
  refine (few4_spec w0).mono ?_
  rintro e w2 ⟨l3, rfl, o3, f2⟩
  generalize hZ : (z0.take len0).take 400 = Z at o3
  have hZl : Z.length ≤ 400 := by rw [← hZ]; simp; omega
  have hl3 : l3.len = Z.length := by rw [o3.len, List.length_map]
  have fW2 : Fr (fun k => B ≤ k) W0 w2 := f2.mono (by simp)
  refine ⟨l3, rfl, ?_⟩
  refine (hnew_spec o3.reads hl3.symm (fun x hx => (o3.blk hx).2)).mono ?_
  intro e w5 h5
  obtain ⟨p6, he, ht5, f5⟩ : ∃ p6, e = .returned (.tuple #[.pointer p6, .int .i64 ((chk Z : Nat) : Int)]) ∧ ((chk Z ≠ 0 ∧ p6 = none) ∨ (chk Z = 0 ∧ ∃ b, p6 = some ⟨b, 0, none⟩ ∧ Tab w5 w2.heap.size w5.heap.size b (Z.map Int.toNat))) ∧ Fr (fun _ => False) w2 w5 := by
    obtain ⟨⟨h, he⟩ | ⟨h, b, he, ht⟩, hf⟩ := h5
    · exact ⟨none, he, .inl ⟨h, rfl⟩, hf⟩
    · exact ⟨_, by rw [h]; exact he, .inr ⟨h, b, rfl, ht⟩, hf⟩
  subst he
  clear h5
  have fW5 := fW2.up f5
  have hB5 : B ≤ w5.heap.size := by rw [← hB]; exact fW5.size
  refine ⟨p6, _, rfl, ?_⟩
  refine (few4_spec (w0.keep (by rw [hB]; exact fW5))).mono ?_
  rintro e w9 ⟨l10, rfl, o10, f9⟩
  rw [hZ] at o10
  refine ⟨l10, rfl, ?_⟩
  refine (check_spec o10.reads (by rw [o10.len, List.length_map])).mono ?_
  rintro e w12 ⟨rfl, rfl⟩
  have fW12 := fW5.up f9
  refine ⟨_, rfl, fun hne => ?_, fun heq => ?_⟩
  · refine (awake4_spec w12).mono ?_
    rintro e w15 ⟨rfl, f15⟩
    exact ⟨true, rfl, fun _ => ⟨by rw [hne], fW12.up f15⟩, fun h => by cases h⟩
  have heq : chk Z = 0 := by
    by_cases h : chk Z = 0
    · exact h
    · exfalso
      have : (((chk Z : Nat) : Int) != 0) = true := by simp; omega
      rw [this] at heq; cases heq
  rcases ht5 with ⟨h, _⟩ | ⟨_, b, rfl, ht⟩
  · exact absurd heq h
  obtain ⟨hZ320, hZ15⟩ := chk_zero heq
  have hio := iv_nats (fun z hz => (hZ15 z hz).1)
  generalize hls : Z.map Int.toNat = ls at ht hio
  have hlsl : ls.length = Z.length := by rw [← hls]; simp
  refine (rnew_spec (s := s) (by omega) 0 w12).mono ?_
  rintro e w21 ⟨rfl, r21, f21⟩
  have p0 : 8 * min (0 : Int).toNat s.size = 0 := by simp
  have p1 : ((min (0 : Int).toNat s.size : Nat) : Int) = 0 := by simp
  rw [p0, p1] at r21
  generalize hrb : w12.heap.size = rb at r21
  have f5_12 := f9.size
  have f12_21 := f21.size
  have fW21 := fW12.up f21
  refine ⟨_, rfl, (fun h => absurd h (by simp)), fun _ => ⟨(fun h => absurd h (by simp)), fun _ => ?_⟩⟩
  refine (few4_spec (w0.keep (by rw [hB]; exact fW21))).mono ?_
  rintro e w24 ⟨l25, rfl, o25, f24⟩
  rw [hZ, hio] at o25
  refine ⟨l25, rfl, ?_⟩
  have hfits := ht.fits
  refine (codes_spec (c := l25.cap) o25.reads (by rw [o25.len, List.length_map]) hfits (by omega)).mono ?_
  rintro e w27 ⟨o, rfl, bo, f27⟩
  refine ⟨o, rfl, ?_⟩
  refine (bits_spec s (by omega) w27).mono ?_
  rintro e w30 ⟨l31, rfl, o31, f30⟩
  refine ⟨l31, rfl, ?_⟩
  have f21_24 := f24.size
  have f24_27 := f27.size
  have f27_30 := f30.size
  have f21_30 := (f24.trans' f27).trans' f30
  have hobl : ∀ x, o.a = some x → w24.heap.size ≤ x.block := by
    obtain ⟨ins, _, h2, _⟩ := bo
    exact fun x hx => (h2.blk hx).1
  have hrblt := r21.lt
  have ht30 : Tab w30 w2.heap.size w5.heap.size b ls := ht.keep ((f9.trans' f21).trans' f21_30) (by simp)
  have bo30 := bo.keep f30 (by simp) (by simp)
  have r30 := r21.keep f21_30 (by simp)
  have hslen : (sbits s.data.toList).length = 8 * s.size := by rw [sbits_length]; simp
  have hl31 : l31.len = 8 * s.size := by rw [o31.len, List.length_map, hslen]
  have hX : ∀ x, l31.a = some x → w27.heap.size ≤ x.block := fun x hx => (o31.blk hx).1
  refine ⟨fun l i w' => ∃ (pos k : Nat), k ≤ 500 ∧ i = (k : Int) ∧ pos ≤ 8 * s.size ∧ Rd w' rb s pos 0 ∧ Fr (· = rb) w30 w' ∧ l.len = 8 * s.size - pos ∧ l.len ≤ l.cap ∧ Reads w' l.a (bl ((sbits s.data.toList).drop pos)) ∧ (∀ x, l.a = some x → x.block ≠ rb),
    fun _ i _ => (500 - i).toNat, ⟨0, 0, by decide, rfl, by omega, r30, .refl _ _, hl31, o31.cap, by rw [List.drop_zero]; exact o31.reads, fun x hx => by have := hX x hx; omega⟩, ?_⟩
  rintro l i w36 ⟨pos, k, hk, rfl, hpos, r36, f36, hll, hlc, hlr, hlb⟩
  have ht36 := ht30.keep f36 (fun k h1 h2 h3 => by omega)
  have bo36 := bo30.keep f36 (fun x hx h => by have := hobl x hx; omega) (fun k h1 h2 h3 => by omega)
  have fW36 : Fr (fun k => B ≤ k) W0 w36 := ((((fW21.up f24).up f27).up f30)).trans f36 (fun q hq h => by have := ht.lt; omega)
  have hBl : ((sbits s.data.toList).drop pos).length = 8 * s.size - pos := by rw [List.length_drop, hslen]
  refine ⟨fun hlt => ?_, fun hge => ?_⟩
  · have hlt := of_decide_eq_true hlt
    refine (hread_spec ht36 r36 (by omega)).mono ?_
    rintro e w38 ⟨x, err, n, rfl, hres, r38, f38⟩
    refine ⟨_, _, rfl, ?_⟩
    have bo38 := bo36.keep f38 (fun x hx h => by have := hobl x hx; omega) (fun k h1 h2 h3 => by omega)
    have hlr38 := hlr.keep f38 (fun x hx h => hlb x hx h)
    refine (rread_spec bo38 hfits (by omega) (c := l.cap) hlr38 (n := l.len) (by rw [hBl, hll]) (by omega)).mono ?_
    rintro e w42 ⟨y, m, err', rfl, href, d42⟩
    obtain ⟨rfl, rfl, hnm⟩ := res_ref hfits ht.gap hres href
    refine ⟨_, _, _, rfl, (fun h => absurd h (by simp)), fun _ => ⟨(fun h => absurd h (by simp)), fun _ => ⟨fun hne => ?_, fun heq => ?_⟩⟩⟩
    · refine (awake4_spec w42).mono ?_
      rintro e w47 ⟨rfl, f47⟩
      exact ⟨true, rfl, rfl, (((fW36.trans f38 (fun q hq h => by have := ht.lt; omega))).trans' (.drew _ d42)).up f47⟩
    have heq : err = 0 := by
      by_cases h : err = 0
      · exact h
      · exfalso
        have : (((err : Nat) : Int) != 0) = true := by simp; omega
        rw [this] at heq; cases heq
    have := hnm heq
    subst this
    have hnle := hres.le
    have e1 : IntKind.i64.wrap ((k : Int) + 1) = ((k + 1 : Nat) : Int) := by rw [wrap_i64 (by omega) (by omega)]; omega
    rw [e1, Int.toNat_natCast]
    refine ⟨⟨by omega, by omega⟩, ?_⟩
    refine (left_spec (r38.drew d42)).mono ?_
    rintro e w50 ⟨rfl, d50⟩
    refine ⟨_, rfl, fun hne => ?_, fun _ => ?_⟩
    · exfalso
      have : left s (pos + n) = l.len - n := by unfold left; omega
      rw [this] at hne; simp at hne
    refine ⟨⟨pos + n, k + 1, by omega, rfl, by omega, (r38.drew d42).drew d50, ((f36.trans' f38).trans' (.drew _ d42)).trans' (.drew _ d50), by dsimp only; omega, by dsimp only; omega, ?_, ?_⟩, by dsimp only; omega⟩
    · have := ((hlr38.keep (.drew (fun _ => False) d42) (by simp)).keep (.drew (fun _ => False) d50) (by simp)).sub (cap := l.cap) (by rw [List.length_map]; omega) n
      rw [bl, ← List.map_drop, List.drop_drop] at this
      exact this
    · intro x hx
      simp only [subA] at hx
      split at hx
      · exact hlb x hx
      · cases hla : l.a with
        | none => rw [hla] at hx; cases hx
        | some y =>
          rw [hla] at hx; simp only [Option.map_some, Option.some.injEq] at hx
          rw [← hx, add_block]; exact hlb y hla
  · refine (awake4_spec w36).mono ?_
    rintro e w53 ⟨rfl, f53⟩
    exact ⟨true, rfl, rfl, fW36.up f53⟩

theorem all_walk (a0 : Option Addr) (len0 cap0 : Nat) (z0 : List Int) (a1 : ByteArray) (W : World) (w0 : IsRow .i64 W a0 len0 cap0 z0) :
    Calls Try.prog F_cartularylaw04_HuffAll #[.slice a0 len0 cap0, .string a1] W fun e w' => e = .returned (.bool true) ∧ RowKit.Below W.heap.size W w' := by
  refine vc_cartularylaw04_HuffAll_ok (R := fun v w' => v = .bool true ∧ Fr (fun k => W.heap.size ≤ k) W w') ?_ (fun v w' h => ⟨by rw [h.1], h.2.below (Nat.le_refl _)⟩)
  refine ⟨fun s w' => s.size ≤ 10 ∧ w' = W, ⟨fun h => ?_, fun h => ?_⟩, ?_⟩
  · have h := of_decide_eq_true h
    exact ⟨⟨by decide, by omega⟩, by rw [ByteArray.size_extract]; show min 10 a1.size - 0 ≤ 10; omega, rfl⟩
  · have h := of_decide_eq_false h
    exact ⟨by omega, rfl⟩
  rintro s w3 ⟨hs, rfl⟩
  generalize hB : w3.heap.size = B
  refine (few4_spec w0).mono ?_
  rintro e w2 ⟨l3, rfl, o3, f2⟩
  generalize hZ : (z0.take len0).take 400 = Z at o3
  have hZl : Z.length ≤ 400 := by rw [← hZ]; simp; omega
  have hl3 : l3.len = Z.length := by rw [o3.len, List.length_map]
  have fW2 : Fr (fun k => B ≤ k) w3 w2 := f2.mono (by simp)
  refine ⟨l3, rfl, ?_⟩
  refine (hnew_spec o3.reads hl3.symm (fun x hx => (o3.blk hx).2)).mono ?_
  rintro e w5 ⟨⟨h5, rfl⟩ | ⟨h5, b, rfl, ht⟩, f5⟩
  · refine ⟨none, _, rfl, fun _ => ?_, fun h => ?_⟩
    · refine (awake4_spec w5).mono ?_
      rintro e w9 ⟨rfl, f9⟩
      exact ⟨true, rfl, fun _ => ⟨rfl, (fW2.up f5).up f9⟩, fun h => by cases h⟩
    · exfalso
      have : (((chk Z : Nat) : Int) != 0) = true := by simp; omega
      rw [this] at h; cases h
  have fW5 := fW2.up f5
  refine ⟨_, _, rfl, (fun h => absurd h (by decide)), fun _ => ?_⟩
  refine (few4_spec (w0.keep (by rw [hB]; exact fW5))).mono ?_
  rintro e w12 ⟨l13, rfl, o13, f12⟩
  rw [hZ] at o13
  refine ⟨l13, rfl, ?_⟩
  obtain ⟨hZ320, hZ15⟩ := chk_zero h5
  have hio := iv_nats (fun z hz => (hZ15 z hz).1)
  have ht12 := ht.keep f12 (by simp)
  have fW12 := fW5.up f12
  rw [hio] at o13
  have hfits := ht.fits
  have hgap := ht.gap
  generalize hls : Z.map Int.toNat = ls at ht12 hfits o13 hgap
  have hlsl : ls.length = Z.length := by rw [← hls]; simp
  have hl13 : l13.len = ls.length := by rw [o13.len, List.length_map]
  refine ⟨fun codes i w' => w' = w12 ∧ ∃ k : Nat, k ≤ ls.length ∧ i = (k : Int) ∧ codes = (((ls.take k).countP (fun x => decide (1 ≤ x)) : Nat) : Int), fun _ i _ => ((ls.length : Int) - i).toNat, ⟨rfl, 0, Nat.zero_le _, rfl, rfl⟩, ?_⟩
  rintro codes i w21 ⟨rfl, k, hk, rfl, rfl⟩
  have hcp : (ls.take k).countP (fun x => decide (1 ≤ x)) ≤ (ls.take k).length := List.countP_le_length
  have htl : (ls.take k).length ≤ k := by rw [List.length_take]; omega
  refine ⟨fun hlt => ?_, fun hge => ?_⟩
  · have hlt := of_decide_eq_true hlt
    have hkl : k < ls.length := by omega
    have hgk : ls[k]? = some ls[k] := List.getElem?_eq_getElem hkl
    obtain ⟨x, hx, hcx⟩ := o13.reads k _ (nv_get hgk)
    have e1 : IntKind.i64.wrap ((k : Int) + 1) = ((k + 1 : Nat) : Int) := by rw [wrap_i64 (by omega) (by omega)]; omega
    have e2 : IntKind.i64.wrap ((((ls.take k).countP (fun x => decide (1 ≤ x)) : Nat) : Int) + 1) = (((ls.take k).countP (fun x => decide (1 ≤ x)) + 1 : Nat) : Int) := by rw [wrap_i64 (by omega) (by omega)]; omega
    have hstep : (ls.take (k + 1)).countP (fun x => decide (1 ≤ x)) = (ls.take k).countP (fun x => decide (1 ≤ x)) + if 1 ≤ ls[k] then 1 else 0 := by
      rw [List.take_succ_eq_append_getElem hkl, List.countP_append, List.countP_singleton]
      simp only [decide_eq_true_eq]
    rw [e1, e2]
    refine ⟨⟨by omega, by omega⟩, x, hx, _, by rw [Int.toNat_natCast, Nat.mul_one]; exact hcx, fun hp => ?_, fun hp => ?_⟩
    · have hp := of_decide_eq_true hp
      rw [if_pos (by omega)] at hstep
      exact ⟨⟨rfl, k + 1, by omega, rfl, by rw [hstep]⟩, by dsimp only; omega⟩
    · have hp := of_decide_eq_false hp
      rw [if_neg (by omega)] at hstep
      exact ⟨⟨rfl, k + 1, by omega, rfl, by rw [hstep]; rfl⟩, by dsimp only; omega⟩
  have hge := of_decide_eq_false hge
  have hkk : k = ls.length := by omega
  subst hkk
  rw [List.take_length]
  have hcs : ls.countP (fun x => decide (1 ≤ x)) = (sorted ls 15).length := by
    rw [sorted_length]
    exact List.countP_congr fun x hx => by have := hfits.2 x hx; simp only [decide_eq_true_eq]; omega
  rw [hcs]
  refine (rnew_spec (s := s) (by omega) 0 w21).mono ?_
  rintro e w25 ⟨rfl, r25, f25⟩
  have p0 : 8 * min (0 : Int).toNat s.size = 0 := by simp
  have p1 : ((min (0 : Int).toNat s.size : Nat) : Int) = 0 := by simp
  rw [p0, p1] at r25
  generalize hrb : w21.heap.size = rb at r25
  have hrlo : w5.heap.size ≤ rb := by rw [← hrb]; exact f12.size
  have fW25 := fW12.up f25
  have ht25 := ht12.keep f25 (by simp)
  refine ⟨_, rfl, (fun h => absurd h (by simp)), fun _ => ?_⟩
  refine ⟨fun w' => ∃ pos, Rd w' rb s pos 0 ∧ Fr (· = rb) w25 w', fun w' => 8 * s.size - rdPos w' rb, ⟨0, r25, .refl _ _⟩, ?_⟩
  rintro w29 ⟨pos, r29, f29⟩
  have fW29 : Fr (fun k => B ≤ k) w3 w29 := fW25.trans f29 (fun q hq h => by have := fW5.size; omega)
  refine ⟨fun hc => ?_, fun _ => ?_⟩
  · have hc := of_decide_eq_true hc
    refine (left_spec r29).mono ?_
    rintro e w31 ⟨rfl, d31⟩
    have r31 := r29.drew d31
    refine ⟨_, rfl, fun h15 => ?_, fun _ => ?_⟩
    · have h15 := of_decide_eq_true h15
      have ht31 := (ht25.keep f29 (fun k h1 h2 h3 => by omega)).drew d31
      refine (hread_spec ht31 r31 (by omega)).mono ?_
      rintro e w34 ⟨x, err, n, rfl, hres, r34, f34⟩
      have hBl : ((sbits s.data.toList).drop pos).length = left s pos := by rw [List.length_drop, sbits_length]; unfold left; simp
      have hfull : Full ls := by
        rcases hgap with h | h | h
        · exact h
        · omega
        · omega
      have hat : err = 0 ∧ 1 ≤ n ∧ n ≤ left s pos := by
        rcases hres with ⟨h1, h2⟩ | ⟨_, _, h1, h2, _⟩ | ⟨_, _, h1, h2, h3, h4⟩
        · exact ⟨h1, h2.2.1, by have := h2.2.2.1; omega⟩
        · omega
        · exfalso
          have := full_later hfull h2 h4
          have hl := hv_lt (((sbits s.data.toList).drop pos).take n)
          rw [List.length_take, Nat.min_eq_left h1] at hl
          omega
      obtain ⟨rfl, h1, h2⟩ := hat
      refine ⟨_, _, rfl, (fun h => absurd h (by decide)), fun _ => ⟨⟨pos + n, r34, (f29.trans' (.drew _ d31)).trans' f34⟩, ?_⟩⟩
      dsimp only
      rw [r34.at_pos, r29.at_pos]
      unfold left at h2; omega
    · refine (awake4_spec w31).mono ?_
      rintro e w38 ⟨rfl, f38⟩
      exact ⟨true, rfl, rfl, (fW29.trans' (.drew _ d31)).up f38⟩
  · refine (awake4_spec w29).mono ?_
    rintro e w41 ⟨rfl, f41⟩
    exact ⟨true, rfl, rfl, fW29.up f41⟩
end Go.Proofs.Ytcboiljbkkleiaa

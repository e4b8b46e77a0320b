/- The law 'symbols whose codes are written are read back' walked: it returns true and writes nothing that was there. Conditions: the lists are as Go's values are. -/
import Derived.Test.YtcboiljbkkleiaaWHuff
import Derived.Test.YtcboiljbkkleiaaWr
set_option linter.unusedVariables false
namespace Go.Proofs.Ytcboiljbkkleiaa
open Go Vc BitsM HuffM Go.Proofs

theorem res_at {ls : List Nat} {B : List Bool} {x err n s m : Nat} (h : Res ls B x err n) (ha : HuffM.At ls B s m) : x = s ∧ err = 0 ∧ n = m := by
  rcases h with ⟨rfl, h⟩ | ⟨_, _, hn, _, hge, _⟩ | ⟨_, _, hn, _, hge, hz⟩
  · obtain ⟨h1, h2⟩ := h.one ha; exact ⟨h1, rfl, h2⟩
  · subst hn
    exact absurd ha (no_at (Nat.le_refl _) (by rwa [List.take_length]) ha.2.2.1)
  · exact absurd ha (no_at hn hge (hz _ (List.mem_of_getElem? ha.1)))
/-- The symbols that have a code. -/
def coded (ls : List Nat) (l : List Int) : List Int := l.filter (fun z => decide (0 < (cd ls z).2))
/-- Their bits. -/
def cbitsAll (ls : List Nat) (l : List Int) : List Bool := l.flatMap (fun z => cbits ls z.toNat)
theorem cd_pos {ls : List Nat} {z : Int} (h : 0 < (cd ls z).2) : ∃ s n : Nat, z = (s : Int) ∧ ls[s]? = some n ∧ 1 ≤ n ∧ cd ls z = (code ls s, n) := by
  unfold cd at h
  split at h
  · rename_i h1
    obtain ⟨s, rfl⟩ := Int.eq_ofNat_of_zero_le h1.1
    rw [Int.toNat_natCast] at h1 h
    have hs : ls[s]? = some (ls.getD s 0) := by
      rw [List.getD_eq_getElem?_getD] at h1 ⊢
      cases hh : ls[s]? with
      | none => rw [hh] at h1; simp at h1
      | some v => rfl
    exact ⟨s, _, rfl, hs, by omega, cd_some hs (by omega)⟩
  · simp at h
theorem coded_step (ls : List Nat) (l : List Int) (z : Int) : coded ls (l ++ [z]) = coded ls l ++ (if 0 < (cd ls z).2 then [z] else []) := by
  unfold coded
  rw [List.filter_append]
  congr 1
  by_cases h : 0 < (cd ls z).2
  · simp [h]
  · simp [h]
theorem cbitsAll_len (ls : List Nat) (hf : Fits ls) : ∀ l : List Int, (cbitsAll ls l).length ≤ 15 * l.length
  | [] => Nat.le_refl _
  | z :: l => by
    have h1 := cbitsAll_len ls hf l
    have h2 : (cbits ls z.toNat).length ≤ 15 := by
      rw [cbits_length, List.getD_eq_getElem?_getD]
      cases h : ls[z.toNat]? with
      | none => exact Nat.zero_le _
      | some v => exact hf.mem h
    show (cbits ls z.toNat ++ cbitsAll ls l).length ≤ _
    rw [List.length_append, List.length_cons]; omega
/-- Two slices that share no block. -/
def Dis (l l' : Sl) : Prop := ∀ x y, l.a = some x → l'.a = some y → x.block ≠ y.block

theorem back4_walk (a0 : Option Addr) (len0 cap0 : Nat) (z0 : List Int) (a1 : Option Addr) (len1 cap1 : Nat) (z1 : List Int) (W : World) (w0 : IsRow .i64 W a0 len0 cap0 z0) (w1 : IsRow .i64 W a1 len1 cap1 z1) :
    Calls Try.prog F_cartularylaw04_HuffBack #[.slice a0 len0 cap0, .slice a1 len1 cap1] W fun e w' => e = .returned (.bool true) ∧ RowKit.Below W.heap.size W w' := by
  refine vc_cartularylaw04_HuffBack_ok (R := fun v w' => v = .bool true ∧ Fr (fun k => W.heap.size ≤ k) W w') ?_ (fun v w' h => ⟨by rw [h.1], h.2.below (Nat.le_refl _)⟩)
  generalize hB : W.heap.size = B
  refine (few4_spec w0).mono ?_
  rintro e w2 ⟨l3, rfl, o3, f2⟩
  generalize hZ : (z0.take len0).take 400 = Z at o3
  have hZl : Z.length ≤ 400 := by rw [← hZ]; simp; omega
  have hl3 : l3.len = Z.length := by rw [o3.len, List.length_map]
  have fW2 : Fr (fun k => B ≤ k) W w2 := f2.mono (by simp)
  refine ⟨l3, rfl, ?_⟩
  refine (hnew_spec o3.reads hl3.symm (fun x hx => (o3.blk hx).2)).mono ?_
  rintro e w5 ⟨⟨h5, rfl⟩ | ⟨h5, b, rfl, ht⟩, f5⟩
  · refine ⟨none, _, rfl, fun _ => ?_, fun h => ?_⟩
    · refine (awake4_spec w5).mono ?_
      rintro e w9 ⟨rfl, f9⟩
      exact ⟨true, rfl, rfl, (fW2.up f5).up f9⟩
    · exfalso
      have : (((chk Z : Nat) : Int) != 0) = true := by simp; omega
      rw [this] at h; cases h
  have fW5 := fW2.up f5
  refine ⟨_, _, rfl, (fun h => absurd h (by decide)), fun _ => ?_⟩
  have hfits := ht.fits
  generalize hls : Z.map Int.toNat = ls at ht hfits
  have hlsl : ls.length = Z.length := by rw [← hls]; simp
  intro w11 hw11
  have hz11 := alloc_new w5 (.cells #[.slice none 0 0, .int .u64 0, .int .i64 0] T_bitin_Writer)
  have f11 : Fr (fun _ => False) w5 w11 := hw11 ▸ Fr.alloc _ _ _
  rw [← hw11] at hz11
  generalize hwb : w5.heap.size = wb at hz11
  have hwblo : B ≤ wb := by rw [← hwb, ← hB]; exact fW5.size
  have h11 : wb < w11.heap.size := lt_blk hz11
  intro w12 hw12
  have f12 : Fr (fun _ => False) w11 w12 := hw12 ▸ Fr.alloc _ _ _
  have o12 : Own w12 w11.heap.size T_int ⟨some ⟨w11.heap.size, 0, none⟩, 0, 0⟩ [] := hw12 ▸ own_empty w11 T_int
  have fW12 := (fW5.up f11).up f12
  have ht12 := (ht.keep f11 (by simp)).keep f12 (by simp)
  have hwr12 : Wrt w12 wb ⟨none, 0, 0⟩ [] := (Wrt.zero hz11).keep f12 (by simp) (by simp)
  generalize hH : w11.heap.size = H at o12
  rw [hwb] at ht12
  have hget : ∀ {k : Nat}, k < len1 → (z1.take len1)[k]? = some (z1.getD k 0) := fun {k} hk => by
    rcases w1 with ⟨_, h, _⟩ | ⟨x, _, h1, _, h2, _⟩
    · omega
    · rw [List.getElem?_take, if_pos hk, List.getD_eq_getElem?_getD, List.getElem?_eq_getElem (by omega)]; rfl
  let S : Nat → List Int := fun k => coded ls ((z1.take len1).take k)
  have hS : ∀ k, (S k).length ≤ k := fun k => by
    have : (S k).length ≤ ((z1.take len1).take k).length := List.length_filter_le _ _
    rw [List.length_take] at this; omega
  have hSstep : ∀ {k : Nat}, k < len1 → S (k + 1) = S k ++ (if 0 < (cd ls (z1.getD k 0)).2 then [z1.getD k 0] else []) := fun {k} hk => by
    have hg := hget hk
    have hlt := (List.getElem?_eq_some_iff.1 hg).1
    have hel : (z1.take len1)[k] = z1.getD k 0 := (List.getElem?_eq_some_iff.1 hg).2
    show coded ls ((z1.take len1).take (k + 1)) = coded ls ((z1.take len1).take k) ++ _
    rw [List.take_succ_eq_append_getElem hlt, coded_step, hel]
  refine ⟨fun l w' => ∃ (k : Nat) (sl : Sl), k ≤ 200 ∧ Own w' H T_int l (iv (S k)) ∧ Wrt w' wb sl (cbitsAll ls (S k)) ∧ Fr (fun k => wb ≤ k) w12 w', ?_, ?_⟩
  · refine ⟨fun l i w' => ∃ (k : Nat) (sl : Sl), k ≤ 200 ∧ k ≤ len1 ∧ i = (k : Int) ∧ Own w' H T_int l (iv (S k)) ∧ Wrt w' wb sl (cbitsAll ls (S k)) ∧ Fr (fun k => wb ≤ k) w12 w' ∧ Dis sl l, fun _ i _ => ((len1 : Int) - i).toNat,
      ⟨0, ⟨none, 0, 0⟩, by decide, Nat.zero_le _, rfl, o12, hwr12, .refl _ _, fun x y hx => by cases hx⟩, ?_⟩
    rintro l i w18 ⟨k, sl, hk2, hk1, rfl, ol, hwr, f18, hdis⟩
    refine ⟨fun hlt => ⟨fun h200 => ?_, fun _ => ⟨k, sl, hk2, ol, hwr, f18⟩⟩, fun _ => ⟨k, sl, hk2, ol, hwr, f18⟩⟩
    have hlt := of_decide_eq_true hlt
    have h200 := of_decide_eq_true h200
    have hkl : k < len1 := by omega
    have fW18 : Fr (fun b => B ≤ b) W w18 := fW12.trans f18 (fun q hq h => by omega)
    obtain ⟨x, hx, hcx⟩ := w1.at hkl (by rw [hB]; exact fW18)
    have e1 : IntKind.i64.wrap ((k : Int) + 1) = ((k + 1 : Nat) : Int) := by rw [wrap_i64 (by omega) (by omega)]; omega
    have hst := hSstep hkl
    rw [e1, Int.toNat_natCast, Nat.mul_one]
    refine ⟨⟨by omega, by omega⟩, x, hx, _, hcx, ?_⟩
    have ht18 : Tab w18 w2.heap.size wb b ls := ht12.keep f18 (fun k h1 h2 h3 => by omega)
    refine (hcode_spec ht18 (z1.getD k 0)).mono ?_
    rintro e w22 ⟨rfl, rfl⟩
    refine ⟨_, _, rfl, fun hpos => ?_, fun hz => ?_⟩
    · have hpos := of_decide_eq_true hpos
      rw [if_pos (by omega)] at hst
      obtain ⟨s, n, hzs, hgs, hn1, hcd⟩ := cd_pos (ls := ls) (z := z1.getD k 0) (by omega)
      have hn15 := hfits.mem hgs
      have hcl := code_lt hgs hn1
      have hfl := hfits.le hn15
      have hp15 : 2 ^ n ≤ 2 ^ 15 := Nat.pow_le_pow_right (by decide) hn15
      rw [hcd]
      have hlenA := cbitsAll_len ls hfits (S k)
      have hSk := hS k
      refine (wcode_spec hwr (x := code ls s) (n := n) (by omega) hn1 (by omega) (by omega)).mono ?_
      rintro e w26 ⟨rfl, sl', hwr26, f26, s26⟩
      have hcb : (lowB n (code ls s)).reverse = cbits ls s := by unfold cbits; rw [getD_of hgs]
      rw [hcb] at hwr26
      have hXw : ∀ q, WX wb sl q → wb ≤ q := fun q hq => by
        rcases hq with rfl | ⟨y, hy, rfl⟩
        · omega
        · have := (hwr.1.own.blk hy).1; omega
      have hlb : ∀ y, l.a = some y → ¬ WX wb sl y.block := fun y hy h => by
        have hyb := (ol.blk hy).1
        rcases h with h | ⟨z, hz, h⟩
        · omega
        · exact hdis z y hz hy h.symm
      have ol26 := ol.keep f26 hlb
      have fW26 : Fr (fun b => B ≤ b) W w26 := fW18.trans f26 (fun q hq h => by have := hXw q h; omega)
      obtain ⟨x', hx', hcx'⟩ := w1.at hkl (by rw [hB]; exact fW26)
      have hHw : H ≤ w26.heap.size := by have := f18.size; have := f26.size; have := f12.size; omega
      refine ⟨rfl, ⟨by omega, by omega⟩, x', hx', _, hcx', ?_⟩
      intro w29 hw29
      have hlen : (iv (S k)).length ≤ 200 := by rw [List.length_map]; omega
      obtain ⟨w30, l31, hr30, o30, f30, s30⟩ := append_one' elInt ol26 (v := .int .i64 (z1.getD k 0)) rfl (by unfold maxLen; omega) (by omega) hHw hw29
      have hdis26 : ∀ x, sl'.a = some x → ¬ Vc.At l x.block := fun x hx ⟨y, hy, e⟩ => by
        rcases s26 x hx with ⟨z, hz, hzb⟩ | hnew
        · exact hdis z y hz hy (by omega)
        · have := (ol.blk hy).2; omega
      have hwr30 : Wrt w30 wb sl' (cbitsAll ls (S k) ++ cbits ls s) := hwr26.keep f30 (fun ⟨y, hy, e⟩ => by have := (ol.blk hy).1; omega) (fun x hx => hdis26 x hx)
      refine ⟨w30, l31, hr30, ⟨k + 1, sl', by omega, by omega, rfl, ?_, ?_, (f18.trans f26 (fun q hq h => hXw q h)).trans f30 (fun q hq ⟨y, hy, e⟩ => by have := (ol.blk hy).1; omega), ?_⟩, by dsimp only; omega⟩
      · rw [hst, iv, List.map_append]; exact o30
      · have : cbitsAll ls (S (k + 1)) = cbitsAll ls (S k) ++ cbits ls s := by
          rw [hst, cbitsAll, List.flatMap_append, hzs]
          simp [cbitsAll]
        rw [this]; exact hwr30
      · intro x y hx hy
        have hxb : x.block < w26.heap.size := (hwr26.1.own.blk hx).2
        rcases s30 y hy with ⟨z, hz, hzb⟩ | hnew
        · exact fun h => hdis26 x hx ⟨z, hz, by omega⟩
        · omega
    · have hz := of_decide_eq_false hz
      rw [if_neg (by omega), List.append_nil] at hst
      exact ⟨⟨k + 1, sl, by omega, by omega, rfl, by rw [hst]; exact ol, by rw [hst]; exact hwr, f18, hdis⟩, by dsimp only; omega⟩
  rintro l w33 ⟨K, sl, hK, ol, hwr, f33⟩
  have hall : ∀ z ∈ S K, ∃ s n : Nat, z = (s : Int) ∧ ls[s]? = some n ∧ 1 ≤ n := fun z hz => by
    have := (List.mem_filter.1 hz).2
    obtain ⟨s, n, h1, h2, h3, _⟩ := cd_pos (ls := ls) (z := z) (of_decide_eq_true this)
    exact ⟨s, n, h1, h2, h3⟩
  have hSK := hS K
  generalize S K = L at ol hwr hall hSK
  clear hSstep hS hget S
  have fW33 : Fr (fun b => B ≤ b) W w33 := fW12.trans f33 (fun q hq h => by omega)
  have ht33 : Tab w33 w2.heap.size wb b ls := ht12.keep f33 (fun k h1 h2 h3 => by omega)
  refine (wtext_spec hwr).mono ?_
  rintro e w35 ⟨rfl, f35⟩
  refine ⟨_, rfl, ?_⟩
  have hss : sbits (⟨(textOf (cbitsAll ls L)).toArray⟩ : ByteArray).data.toList = fill8 (cbitsAll ls L) := by
    rw [show (⟨(textOf (cbitsAll ls L)).toArray⟩ : ByteArray).data.toList = textOf (cbitsAll ls L) from rfl, sbits_textOf]
  have hsz : (⟨(textOf (cbitsAll ls L)).toArray⟩ : ByteArray).size = ((cbitsAll ls L).length + 7) / 8 := by
    show (textOf (cbitsAll ls L)).toArray.size = _
    rw [List.size_toArray, textOf_length]
  generalize (⟨(textOf (cbitsAll ls L)).toArray⟩ : ByteArray) = s at hss hsz ⊢
  have hcl := cbitsAll_len ls hfits L
  refine (rnew_spec (s := s) (by omega) 0 w35).mono ?_
  rintro e w38 ⟨rfl, r38, f38⟩
  have p0 : 8 * min (0 : Int).toNat s.size = 0 := by simp
  have p1 : ((min (0 : Int).toNat s.size : Nat) : Int) = 0 := by simp
  rw [p0, p1] at r38
  generalize hrb : w35.heap.size = rb at r38
  have hrlo : w33.heap.size ≤ rb := by rw [← hrb]; exact f35.size
  have fW38 := (fW33.up f35).up f38
  have ht38 := (ht33.keep f35 (by simp)).keep f38 (by simp)
  have ol38 := (ol.keep f35 (by simp)).keep f38 (by simp)
  have hwbl : wb < w33.heap.size := hwr.lt
  have hll : l.len = L.length := by rw [ol.len, List.length_map]
  refine ⟨_, rfl, (fun h => absurd h (by simp)), fun _ => ?_⟩
  refine ⟨fun i w' => ∃ k : Nat, k ≤ L.length ∧ i = (k : Int) ∧ Rd w' rb s (cbitsAll ls (L.take k)).length 0 ∧ Fr (· = rb) w38 w', fun i _ => ((L.length : Int) - i).toNat, ⟨0, Nat.zero_le _, rfl, r38, .refl _ _⟩, ?_⟩
  rintro i w43 ⟨k, hk, rfl, r43, f43⟩
  have fW43 : Fr (fun b => B ≤ b) W w43 := fW38.trans f43 (fun q hq h => by omega)
  refine ⟨fun hlt => ?_, fun hge => ?_⟩
  · have hlt := of_decide_eq_true hlt
    have hkl : k < L.length := by omega
    obtain ⟨x, hx, hcx⟩ := (ol38.keep f43 (fun x hx h => by have := (ol.blk hx).2; omega)).reads k (.int .i64 L[k]) (by rw [iv, List.getElem?_map, List.getElem?_eq_getElem hkl]; rfl)
    obtain ⟨q, n, hq, hgq, hn1⟩ := hall L[k] (List.getElem_mem hkl)
    have e1 : IntKind.i64.wrap ((k : Int) + 1) = ((k + 1 : Nat) : Int) := by rw [wrap_i64 (by omega) (by omega)]; omega
    rw [e1]
    refine ⟨⟨by omega, by omega⟩, x, hx, _, by rw [Int.toNat_natCast, Nat.mul_one]; exact hcx, ?_⟩
    have ht43 := ht38.keep f43 (fun k h1 h2 h3 => by omega)
    refine (hread_spec ht43 r43 (by omega)).mono ?_
    rintro e w47 ⟨x, err, m, rfl, hres, r47, f47⟩
    have hsplit : cbitsAll ls L = cbitsAll ls (L.take k) ++ (cbits ls q ++ cbitsAll ls (L.drop (k + 1))) := by
      have h1 : L = L.take k ++ (L[k] :: L.drop (k + 1)) := by rw [List.getElem_cons_drop, List.take_append_drop]
      have h2 : cbitsAll ls L = cbitsAll ls (L.take k ++ (L[k] :: L.drop (k + 1))) := congrArg (cbitsAll ls) h1
      have h3 : cbitsAll ls (L.take k ++ (L[k] :: L.drop (k + 1))) = cbitsAll ls (L.take k) ++ (cbits ls L[k].toNat ++ cbitsAll ls (L.drop (k + 1))) := by
        simp only [cbitsAll, List.flatMap_append, List.flatMap_cons]
      rw [h2, h3, hq, Int.toNat_natCast]
    have hat : HuffM.At ls ((sbits s.data.toList).drop (cbitsAll ls (L.take k)).length) q n := by
      rw [← cbits_prefix hfits hgq hn1, hss]
      unfold fill8
      rw [hsplit, List.append_assoc, List.append_assoc, List.drop_left]
      exact List.prefix_append _ _
    obtain ⟨rfl, rfl, rfl⟩ := res_at hres hat
    rw [hq]
    refine ⟨_, _, rfl, (fun h => absurd h (by simp)), fun _ => ⟨(fun h => absurd h (by decide)), fun _ => ⟨⟨k + 1, by omega, rfl, ?_, f43.trans' f47⟩, by dsimp only; omega⟩⟩⟩
    have : (cbitsAll ls (L.take (k + 1))).length = (cbitsAll ls (L.take k)).length + m := by
      rw [List.take_succ_eq_append_getElem hkl, cbitsAll, List.flatMap_append, List.length_append, hq]
      simp only [List.flatMap_cons, List.flatMap_nil, List.append_nil, cbits_length, Int.toNat_natCast, getD_of hgq, cbitsAll]
    rw [this]; exact r47
  · refine (awake4_spec w43).mono ?_
    rintro e w51 ⟨rfl, f51⟩
    exact ⟨true, rfl, rfl, fW43.up f51⟩
end Go.Proofs.Ytcboiljbkkleiaa

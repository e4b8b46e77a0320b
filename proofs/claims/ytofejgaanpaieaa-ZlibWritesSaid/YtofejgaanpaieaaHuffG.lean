/- What the reference's Codes and Read do. Conditions: the lengths are those of codes; the lists are short enough for a slice to hold. -/
import Derived.Test.YtofejgaanpaieaaHuffF
set_option linter.unusedVariables false
namespace Go.Proofs.Ytofejgaanpaieaa
open Go Vc BitsM HuffM Go.Proofs

theorem elSB : El Try.prog T_S_S_bool T_S_bool (.slice none 0 0) 24 := ⟨by kernel_rfl, by kernel_rfl, rfl⟩
abbrev slv (i : Sl) : Value := .slice i.a i.len i.cap

/-- A slice of slices of bits: the inner ones lie from lo' up to hi. -/
def BitRows (w : World) (lo lo' hi : Nat) (o : Sl) (bss : List (List Bool)) : Prop :=
  ∃ ins : List Sl, ins.length = bss.length ∧ Own w lo T_S_bool o (ins.map slv) ∧
    ∀ (k : Nat) (i : Sl) (bs : List Bool), ins[k]? = some i → bss[k]? = some bs → Reads w i.a (bl bs) ∧ i.len = bs.length ∧ ∀ x, i.a = some x → lo' ≤ x.block ∧ x.block < hi
theorem BitRows.keep {w w2 : World} {lo lo' hi : Nat} {o : Sl} {bss : List (List Bool)} (h : BitRows w lo lo' hi o bss) {X : Nat → Prop} (hf : Fr X w w2) (ho : ∀ x, o.a = some x → ¬ X x.block) (hx : ∀ k, lo' ≤ k → k < hi → ¬ X k) : BitRows w2 lo lo' hi o bss := by
  obtain ⟨ins, h1, h2, h3⟩ := h
  refine ⟨ins, h1, h2.keep hf ho, fun k i bs hi hb => ?_⟩
  obtain ⟨h4, h5, h6⟩ := h3 k i bs hi hb
  exact ⟨h4.keep hf fun x hxx => hx _ (h6 x hxx).1 (h6 x hxx).2, h5, h6⟩
theorem BitRows.wide {w : World} {lo lo' hi hi' : Nat} {o : Sl} {bss : List (List Bool)} (h : BitRows w lo lo' hi o bss) (hh : hi ≤ hi') : BitRows w lo lo' hi' o bss := by
  obtain ⟨ins, h1, h2, h3⟩ := h
  refine ⟨ins, h1, h2, fun k i bs hi hb => ?_⟩
  obtain ⟨h4, h5, h6⟩ := h3 k i bs hi hb
  exact ⟨h4, h5, fun x hx => ⟨(h6 x hx).1, by have := (h6 x hx).2; omega⟩⟩
theorem BitRows.len {w : World} {lo lo' hi : Nat} {o : Sl} {bss : List (List Bool)} (h : BitRows w lo lo' hi o bss) : o.len = bss.length := by
  obtain ⟨ins, h1, h2, h3⟩ := h
  rw [h2.len, List.length_map, h1]
/-- One row of them. -/
theorem BitRows.at {w : World} {lo lo' hi : Nat} {o : Sl} {bss : List (List Bool)} (h : BitRows w lo lo' hi o bss) {k : Nat} {bs : List Bool} (hk : bss[k]? = some bs) :
    ∃ y i, o.a = some y ∧ w.cell? (y.add k) = some (slv i) ∧ Reads w i.a (bl bs) ∧ i.len = bs.length ∧ ∀ x, i.a = some x → lo' ≤ x.block ∧ x.block < hi := by
  obtain ⟨ins, h1, h2, h3⟩ := h
  have hkl : k < ins.length := by rw [h1]; exact (List.getElem?_eq_some_iff.1 hk).1
  have hi := List.getElem?_eq_getElem hkl
  obtain ⟨y, hy, hc⟩ := h2.reads k (slv ins[k]) (by simp [hi])
  exact ⟨y, ins[k], hy, hc, h3 k _ bs hi hk⟩

/-- A symbol's bits as they stand when the codes of less than n bits are made, and those of n bits of the symbols below s. -/
def stage (ls : List Nat) (n s k : Nat) : List Bool := if ls.getD k 0 < n ∨ (ls.getD k 0 = n ∧ k < s) then cbits ls k else []
theorem cbits_none {ls : List Nat} {k : Nat} (h : ls.getD k 0 = 0) : cbits ls k = [] := by unfold cbits; rw [h]; rfl
theorem stage_next (ls : List Nat) (n : Nat) : (List.range ls.length).map (stage ls n ls.length) = (List.range ls.length).map (stage ls (n + 1) 0) := by
  refine List.map_congr_left fun k hk => ?_
  have hk := List.mem_range.1 hk
  unfold stage
  by_cases h : ls.getD k 0 < n + 1
  · rw [if_pos (by omega), if_pos (.inl h)]
  · rw [if_neg (by omega), if_neg (by omega)]
theorem stage_other (ls : List Nat) (n s : Nat) (h : ls.getD s 0 ≠ n) : (List.range ls.length).map (stage ls n (s + 1)) = (List.range ls.length).map (stage ls n s) := by
  refine List.map_congr_left fun k _ => ?_
  unfold stage
  by_cases hk : k = s
  · subst hk
    by_cases h2 : ls.getD k 0 < n
    · rw [if_pos (.inl h2), if_pos (.inl h2)]
    · rw [if_neg (by omega), if_neg (by omega)]
  · by_cases h2 : ls.getD k 0 < n ∨ (ls.getD k 0 = n ∧ k < s)
    · rw [if_pos (by omega), if_pos h2]
    · rw [if_neg (by omega), if_neg h2]
theorem stage_set (ls : List Nat) (n s : Nat) (hs : s < ls.length) (h : ls.getD s 0 = n) : (List.range ls.length).map (stage ls n (s + 1)) = ((List.range ls.length).map (stage ls n s)).set s (cbits ls s) := by
  refine List.ext_getElem? fun k => ?_
  rw [List.getElem?_set, List.getElem?_map, List.getElem?_map]
  by_cases hk : s = k
  · subst hk
    rw [if_pos rfl, if_pos (by simpa using hs), List.getElem?_range hs]
    simp only [Option.map_some, stage]
    rw [if_pos (.inr ⟨h, by omega⟩)]
  · rw [if_neg hk]
    by_cases hkl : k < ls.length
    · rw [List.getElem?_range hkl]
      simp only [Option.map_some, stage]
      congr 1
      by_cases h2 : ls.getD k 0 < n ∨ (ls.getD k 0 = n ∧ k < s)
      · rw [if_pos (by omega), if_pos h2]
      · rw [if_neg (by omega), if_neg h2]
    · rw [List.getElem?_eq_none (by simpa using hkl)]; rfl
theorem stage_zero (ls : List Nat) : (List.range ls.length).map (stage ls 1 0) = List.replicate ls.length [] := by
  refine List.ext_getElem (by simp) fun k h1 h2 => ?_
  rw [List.getElem_map, List.getElem_range, List.getElem_replicate]
  unfold stage
  split
  · exact cbits_none (by omega)
  · rfl
theorem stage_end {ls : List Nat} (hf : Fits ls) : (List.range ls.length).map (stage ls 16 0) = (List.range ls.length).map (cbits ls) := by
  refine List.map_congr_left fun k hk => ?_
  have hk := List.mem_range.1 hk
  unfold stage
  have h1 := hf.mem (List.getElem?_eq_getElem hk)
  have h2 : ls.getD k 0 < 16 := by
    rw [List.getD_eq_getElem?_getD, List.getElem?_eq_getElem hk]
    simp only [Option.getD_some]; omega
  rw [if_pos (.inl h2)]

theorem bit_eq' (x k : Nat) (hx : x < 65536) : (Int.tmod ((x / 2 ^ k : Nat) : Int) 2 == 1) = x.testBit k := by
  rw [Nat.testBit_eq_decide_div_mod_eq]
  generalize x / 2 ^ k = y
  rw [Int.tmod_eq_emod_of_nonneg (by omega), Bool.eq_iff_iff]
  simp only [beq_iff_eq, decide_eq_true_eq]; omega

/-- 'Codes'. -/
theorem codes_spec {a : Option Addr} {ls : List Nat} {n c : Nat} {w : World} (hr : Reads w a (nv ls)) (hn : ls.length = n) (hf : Fits ls) (hs : ls.length ≤ 400) :
    Calls Try.prog F_cartularyref04_Codes #[.slice a n c] w fun e w' => ∃ o : Sl, e = .returned (slv o) ∧ BitRows w' w.heap.size w.heap.size w'.heap.size o ((List.range ls.length).map (cbits ls)) ∧ Fr (fun _ => False) w w' := by
  subst hn
  refine vc_cartularyref04_Codes_ok (R := fun v w' => ∃ o : Sl, v = slv o ∧ BitRows w' w.heap.size w.heap.size w'.heap.size o ((List.range ls.length).map (cbits ls)) ∧ Fr (fun _ => False) w w') ?_ (fun v w' ⟨o, h⟩ => ⟨o, by rw [h.1], h.2⟩)
  intro w1 hw1
  have ho1 : Own w1 w.heap.size T_S_bool ⟨some ⟨w.heap.size, 0, none⟩, 0, 0⟩ [] := hw1 ▸ own_empty w T_S_bool
  have hf1 : Fr (fun _ => False) w w1 := hw1 ▸ Fr.alloc _ _ _
  have hat : ∀ {wx : World}, Fr (fun _ => False) w wx → Reads wx a (nv ls) := fun {wx} hf => hr.keep hf (by simp)
  have hget : ∀ {k : Nat}, k < ls.length → ls[k]? = some (ls.getD k 0) := fun {k} hk => by
    rw [List.getD_eq_getElem?_getD, List.getElem?_eq_getElem hk]; rfl
  refine ⟨fun l i w' => ∃ k : Nat, k ≤ ls.length ∧ i = (k : Int) ∧ Own w' w.heap.size T_S_bool l ((List.replicate k (Sl.mk none 0 0)).map slv) ∧ Fr (fun _ => False) w w', fun _ i _ => ((ls.length : Int) - i).toNat,
    ⟨0, Nat.zero_le _, rfl, ho1, hf1⟩, ?_⟩
  rintro l i w6 ⟨k, hk, rfl, ho, hfr⟩
  refine ⟨fun hlt => ?_, fun hge => ?_⟩
  · have hlt := of_decide_eq_true hlt
    intro w7 hw7
    have e1 : IntKind.i64.wrap ((k : Int) + 1) = ((k + 1 : Nat) : Int) := by rw [wrap_i64 (by omega) (by omega)]; omega
    have hll : ((List.replicate k (Sl.mk none 0 0)).map slv).length = k := by simp
    obtain ⟨w8, l9, hr8, ho8, hf8⟩ := append_one elSB ho (v := .slice none 0 0) rfl (by rw [hll]; unfold maxLen; omega) (by rw [hll]; omega) hfr.size hw7
    refine ⟨w8, l9, hr8, ?_⟩
    rw [e1]
    refine ⟨⟨k + 1, by omega, rfl, ?_, hfr.trans hf8 (fun q hq ⟨y, hy, e⟩ => by have := (ho.blk hy).1; omega)⟩, by dsimp only; omega⟩
    rw [List.replicate_succ', List.map_append]; exact ho8
  have hge := of_decide_eq_false hge
  have hkk : k = ls.length := by omega
  subst hkk
  generalize hH : w6.heap.size = H
  have hHw : w.heap.size ≤ H := by rw [← hH]; exact hfr.size
  have hob : ∀ x, l.a = some x → x.block < H := fun x hx => by rw [← hH]; exact (ho.blk hx).2
  have hllen : l.len = ls.length := by rw [ho.len]; simp
  have b0 : BitRows w6 w.heap.size H H l ((List.range ls.length).map (stage ls 1 0)) := by
    refine ⟨List.replicate ls.length ⟨none, 0, 0⟩, by simp, ho, fun k i bs hi hb => ?_⟩
    rw [stage_zero] at hb
    obtain ⟨_, rfl⟩ := List.getElem?_eq_some_iff.1 hi
    obtain ⟨_, rfl⟩ := List.getElem?_eq_some_iff.1 hb
    rw [List.getElem_replicate, List.getElem_replicate]
    exact ⟨.nil _ _, rfl, fun x hx => by cases hx⟩
  have hfle : ∀ {m : Nat}, m ≤ 15 → fin ls m ≤ 32768 := fun {m} hm => by
    have := hf.le hm
    have : 2 ^ m ≤ 2 ^ 15 := Nat.pow_le_pow_right (by decide) hm
    omega
  refine ⟨fun cde n w' => ∃ m : Nat, m ≤ 15 ∧ n = (m : Int) + 1 ∧ cde = ((fin ls m : Nat) : Int) ∧ BitRows w' w.heap.size H w'.heap.size l ((List.range ls.length).map (stage ls (m + 1) 0)) ∧ Fr (fun _ => False) w w' ∧ H ≤ w'.heap.size, fun _ n _ => (17 - n).toNat,
    ⟨0, by decide, rfl, rfl, by rw [hH]; exact b0, hfr, by omega⟩, ?_⟩
  rintro cde n w14 ⟨m, hm, rfl, rfl, hb, hfr14, hH14⟩
  have hfm := hfle hm
  refine ⟨fun hle => ?_, fun hgt => ?_⟩
  · have hle := of_decide_eq_true hle
    have hm14 : m + 1 ≤ 15 := by omega
    have hfs : fin ls (m + 1) = 2 * fin ls m + ls.count (m + 1) := rfl
    have hfm1 := hfle hm14
    have e1 : IntKind.i64.wrap (2 * ((fin ls m : Nat) : Int)) = ((2 * fin ls m : Nat) : Int) := by rw [wrap_i64 (by omega) (by omega)]; omega
    have e2 : IntKind.i64.wrap ((m : Int) + 1 + 1) = ((m + 1 : Nat) : Int) + 1 := by rw [wrap_i64 (by omega) (by omega)]; omega
    rw [e1, e2]
    refine ⟨fun cde i w' => ∃ s : Nat, s ≤ ls.length ∧ i = (s : Int) ∧ cde = ((2 * fin ls m + (ls.take s).count (m + 1) : Nat) : Int) ∧ BitRows w' w.heap.size H w'.heap.size l ((List.range ls.length).map (stage ls (m + 1) s)) ∧ Fr (fun _ => False) w w' ∧ H ≤ w'.heap.size, fun _ i _ => ((ls.length : Int) - i).toNat,
      ⟨0, Nat.zero_le _, rfl, rfl, hb, hfr14, hH14⟩, ?_⟩
    rintro cde i w19 ⟨s, hsl, rfl, rfl, hb19, hfr19, hH19⟩
    refine ⟨fun hlt => ?_, fun hge => ?_⟩
    · have hlt := of_decide_eq_true hlt
      have hs' : s < ls.length := by omega
      have hgs := hget hs'
      obtain ⟨x, hx, hcx⟩ := hat hfr19 s _ (nv_get hgs)
      have e3 : IntKind.i64.wrap ((s : Int) + 1) = ((s + 1 : Nat) : Int) := by rw [wrap_i64 (by omega) (by omega)]; omega
      have hcs := count_take_step' ls (m + 1) hgs
      rw [e3]
      refine ⟨⟨by omega, by omega⟩, x, hx, _, by rw [Int.toNat_natCast, Nat.mul_one]; exact hcx, fun hne => ?_, fun heq => ?_⟩
      · have hne : ¬ ls.getD s 0 = m + 1 := fun h => by rw [h] at hne; simp at hne
        simp only [if_neg hne, Nat.add_zero] at hcs
        exact ⟨⟨s + 1, by omega, rfl, by rw [hcs], by rw [stage_other _ _ _ hne]; exact hb19, hfr19, hH19⟩, by dsimp only; omega⟩
      have heq : ls.getD s 0 = m + 1 := by have : ((ls.getD s 0 : Nat) : Int) = (m : Int) + 1 := by simpa using heq
                                           omega
      rw [if_pos heq] at hcs
      have hcode : code ls s = 2 * fin ls m + (ls.take s).count (m + 1) := by rw [code, heq, Nat.add_sub_cancel]
      rw [← hcode]
      have hcl := code_lt hgs (by omega)
      rw [heq] at hcl
      intro w22 hw22
      have hob22 : Own w22 w19.heap.size T_bool ⟨some ⟨w19.heap.size, 0, none⟩, 0, 0⟩ [] := hw22 ▸ own_empty w19 T_bool
      have hf22 : Fr (fun _ => False) w19 w22 := hw22 ▸ Fr.alloc _ _ _
      refine ⟨fun bs y j w' => ∃ q : Nat, q ≤ m + 1 ∧ j = (q : Int) ∧ y = ((code ls s / 2 ^ q : Nat) : Int) ∧ Own w' w19.heap.size T_bool bs (bl (lowB q (code ls s)).reverse) ∧ Fr (fun _ => False) w19 w', fun _ _ j _ => ((m : Int) + 1 - j).toNat,
        ⟨0, Nat.zero_le _, rfl, by rw [Nat.pow_zero, Nat.div_one], hob22, hf22⟩, ?_⟩
      rintro bs y j w28 ⟨q, hq, rfl, rfl, hob28, hf28⟩
      refine ⟨fun hlt => ?_, fun hge => ?_⟩
      · have hlt := of_decide_eq_true hlt
        refine ⟨by decide, ?_⟩
        intro w29 hw29
        rw [bit_eq' _ _ (by omega)] at hw29
        have ho29 : Own w29 w19.heap.size T_bool ⟨some ⟨w28.heap.size, 0, none⟩, 1, 1⟩ [.bool ((code ls s).testBit q)] :=
          ⟨rfl, .inr ⟨w28.heap.size, #[.bool ((code ls s).testBit q)], rfl, hf28.size, hw29 ▸ alloc_new _ _, Nat.le_refl _, by simp [maxLen], rfl, rfl⟩⟩
        have hf29 : Fr (fun _ => False) w28 w29 := hw29 ▸ Fr.alloc _ _ _
        have hlen28 : (bl (lowB q (code ls s)).reverse).length = q := by rw [List.length_map, List.length_reverse, lowB_length]
        obtain ⟨w30, l31, hr30, ho30, hf30⟩ := append_all elBool ho29 bs.cap (hob28.reads.keep hf29 (by simp)) (one_bl _) (by rw [hlen28]; simp [maxLen]; omega) (by rw [hlen28]; simp; omega) (hf28.trans' hf29).size (m := bs.len) hob28.len.symm
        refine ⟨w30, l31, hr30, by decide, ?_⟩
        have e4 : IntKind.i64.wrap (Int.tdiv ((code ls s / 2 ^ q : Nat) : Int) 2) = ((code ls s / 2 ^ (q + 1) : Nat) : Int) := by
          have h1 : code ls s / 2 ^ (q + 1) = code ls s / 2 ^ q / 2 := by rw [Nat.pow_succ, Nat.div_div_eq_div_mul]
          have h2 : code ls s / 2 ^ q ≤ code ls s := Nat.div_le_self _ _
          rw [h1]
          generalize code ls s / 2 ^ q = z at h2
          rw [Int.tdiv_eq_ediv_of_nonneg (by omega), wrap_i64 (by omega) (by omega)]; omega
        have e5 : IntKind.i64.wrap ((q : Int) + 1) = ((q + 1 : Nat) : Int) := by rw [wrap_i64 (by omega) (by omega)]; omega
        rw [e4, e5]
        refine ⟨⟨q + 1, by omega, rfl, rfl, ?_, (hf28.trans' hf29).trans hf30 (fun k hk ⟨y, hy, e⟩ => by cases hy; simp only at e; have := hf28.size; omega)⟩, by dsimp only; omega⟩
        rw [lowB_snoc, List.reverse_append]
        exact ho30
      · have hge := of_decide_eq_false hge
        have hqm : q = m + 1 := by omega
        subst hqm
        have hbits : (lowB (m + 1) (code ls s)).reverse = cbits ls s := by unfold cbits; rw [heq]
        rw [hbits] at hob28
        obtain ⟨ins, g1, g2, g3⟩ := hb19.keep hf28 (by simp) (by simp)
        have hins : ins.length = ls.length := by rw [g1]; simp
        obtain ⟨z, hz, hzc, hzw, hzs⟩ := g2.set (i := s) (by rw [List.length_map]; omega)
        refine ⟨⟨by omega, by omega⟩, z, hz, by rw [Int.toNat_natCast, Nat.mul_one]; exact hzw, ?_⟩
        rw [Int.toNat_natCast, Nat.mul_one]
        intro w33 hw33
        obtain ⟨ho33, hf33⟩ := hzs (.slice bs.a bs.len bs.cap)
        rw [← hw33] at ho33 hf33
        have hX : ∀ k, (∃ y, l.a = some y ∧ k = y.block) → w.heap.size ≤ k ∧ k < H := fun k ⟨y, hy, e⟩ => by rw [e]; exact ⟨(g2.blk hy).1, hob y hy⟩
        have hfl : fin ls (m + 1) ≤ 32768 := hfm1
        have e6 : IntKind.i64.wrap (((code ls s : Nat) : Int) + 1) = ((code ls s + 1 : Nat) : Int) := by rw [wrap_i64 (by omega) (by omega)]; omega
        rw [e6]
        refine ⟨⟨s + 1, by omega, rfl, by rw [hcs, hcode]; omega, ?_, (hfr19.trans' hf28).trans hf33 (fun k hk hh => by have := hX k hh; omega), by have := hf28.size; have := hf33.size; omega⟩, by dsimp only; omega⟩
        rw [stage_set ls (m + 1) s hs' heq]
        refine ⟨ins.set s bs, by simp [hins], by rw [List.map_set]; exact ho33, fun k i bs' hi hb' => ?_⟩
        by_cases hks : s = k
        · subst hks
          rw [List.getElem?_set_self (by omega)] at hi
          rw [List.getElem?_set_self (by simp; omega)] at hb'
          cases hi; cases hb'
          refine ⟨hob28.reads.keep hf33 (fun x hx hh => by have := hX _ hh; have := (hob28.blk hx).1; omega), by rw [hob28.len, List.length_map], fun x hx => ?_⟩
          have := hob28.blk hx
          have := hf33.size
          exact ⟨by omega, by omega⟩
        · rw [List.getElem?_set_ne hks] at hi hb'
          obtain ⟨p1, p2, p3⟩ := g3 k i bs' hi hb'
          refine ⟨p1.keep hf33 (fun x hx hh => by have := hX _ hh; have := (p3 x hx).1; omega), p2, fun x hx => ⟨(p3 x hx).1, ?_⟩⟩
          have := (p3 x hx).2
          have := hf28.size
          have := hf33.size
          omega
    · have hge := of_decide_eq_false hge
      have : s = ls.length := by omega
      subst this
      rw [List.take_length, ← hfs]
      exact ⟨⟨m + 1, hm14, rfl, rfl, by rw [stage_next] at hb19; exact hb19, hfr19, hH19⟩, by dsimp only; omega⟩
  · have hgt := of_decide_eq_false hgt
    have : m = 15 := by omega
    subst this
    rw [stage_end hf] at hb
    obtain ⟨ins, g1, g2, g3⟩ := hb
    exact ⟨l, rfl, ⟨ins, g1, g2, fun k i bs hi hb => by
      obtain ⟨p1, p2, p3⟩ := g3 k i bs hi hb
      exact ⟨p1, p2, fun x hx => ⟨by have := (p3 x hx).1; omega, (p3 x hx).2⟩⟩⟩, hfr14⟩

/-- 'Read'. -/
theorem rread_spec {w : World} {lo lo' hi : Nat} {o : Sl} {ls : List Nat} (hb : BitRows w lo lo' hi o ((List.range ls.length).map (cbits ls))) (hf : Fits ls) (hs : ls.length ≤ 400)
    {a : Option Addr} {n c : Nat} {B : List Bool} (hr : Reads w a (bl B)) (hn : B.length = n) (hB : B.length ≤ 1099511627776) :
    Calls Try.prog F_cartularyref04_Read #[slv o, .slice a n c] w fun e w' => ∃ y k err, e = .returned (.tuple #[.int .i64 ((y : Nat) : Int), .int .i64 ((k : Nat) : Int), .int .i64 ((err : Nat) : Int)]) ∧ RefRes ls B y k err ∧ Drew w w' := by
  subst hn
  refine vc_cartularyref04_Read_ok (R := fun v w' => ∃ y k err, v = .tuple #[.int .i64 ((y : Nat) : Int), .int .i64 ((k : Nat) : Int), .int .i64 ((err : Nat) : Int)] ∧ RefRes ls B y k err ∧ Drew w w') ?_ (fun v w' ⟨y, k, err, h⟩ => ⟨y, k, err, by rw [h.1], h.2⟩)
  have hol : o.len = ls.length := by rw [hb.len]; simp
  have hget : ∀ {k : Nat}, k < ls.length → ls[k]? = some (ls.getD k 0) := fun {k} hk => by
    rw [List.getD_eq_getElem?_getD, List.getElem?_eq_getElem hk]; rfl
  have hrow : ∀ {k : Nat}, k < ls.length → ((List.range ls.length).map (cbits ls))[k]? = some (cbits ls k) := fun {k} hk => by
    rw [List.getElem?_map, List.getElem?_range hk]; rfl
  have hd : ∀ {w' : World}, Drew w w' → BitRows w' lo lo' hi o ((List.range ls.length).map (cbits ls)) := fun d => hb.keep (.drew (fun _ => False) d) (by simp) (by simp)
  have no_of : ∀ {k : Nat}, k < ls.length → (∀ s, s < k → 1 ≤ ls.getD s 0 → ¬ cbits ls s <+: B) → ∀ s m, s < k → ¬ HuffM.At ls B s m := fun {k} hk h s m hs ha => by
    have h1 : ls.getD s 0 = m := getD_of ha.1
    exact h s hs (by have := ha.2.1; omega) ((cbits_prefix hf ha.1 ha.2.1 B).2 ha)
  refine ⟨fun some_ i w' => ∃ k : Nat, k ≤ ls.length ∧ i = (k : Int) ∧ (∀ s, s < k → 1 ≤ ls.getD s 0 → ¬ cbits ls s <+: B) ∧ (some_ = false → ∀ s, s < k → ls.getD s 0 = 0) ∧ Drew w w', fun _ i _ => ((ls.length : Int) - i).toNat,
    ⟨0, Nat.zero_le _, rfl, by omega, by omega, .refl _⟩, ?_⟩
  rintro some_ i w5 ⟨k, hk, rfl, hno, hsome, d⟩
  refine ⟨fun hlt => ?_, fun hge => ?_⟩
  · have hlt := of_decide_eq_true hlt
    have hkl : k < ls.length := by omega
    have hgk := hget hkl
    obtain ⟨z, i, hz, hc, hri, hil, _⟩ := (hd d).at (hrow hkl)
    have hcl : (cbits ls k).length = ls.getD k 0 := cbits_length ls k
    have hl15 := hf.mem hgk
    have e1 : IntKind.i64.wrap ((k : Int) + 1) = ((k + 1 : Nat) : Int) := by rw [wrap_i64 (by omega) (by omega)]; omega
    rw [e1]
    refine ⟨⟨by omega, by omega⟩, z, hz, i, by rw [Int.toNat_natCast, Nat.mul_one]; exact hc, fun hpos => ?_, fun hz0 => ?_⟩
    · have hpos := of_decide_eq_true hpos
      refine (begins_spec (c := c) (c' := i.cap) (hr.keep (.drew (fun _ => False) d) (by simp)) rfl hri hil.symm (by omega)).mono ?_
      rintro e w9 ⟨rfl, d9⟩
      refine ⟨_, rfl, fun hyes => ?_, fun hnot => ?_⟩
      · have hyes := of_decide_eq_true hyes
        have ha := (cbits_prefix hf hgk (by omega) B).1 hyes
        rw [hil, hcl]
        exact ⟨k, ls.getD k 0, 0, rfl, .inl ⟨rfl, ha⟩, d.trans d9⟩
      · have hnot := of_decide_eq_false hnot
        refine ⟨⟨k + 1, by omega, rfl, fun s hs h1 => ?_, (fun h => by cases h), d.trans d9⟩, by dsimp only; omega⟩
        rcases Nat.lt_or_ge s k with h | h
        · exact hno s h h1
        · have : s = k := by omega
          subst this; exact hnot
    · have hz0 := of_decide_eq_false hz0
      refine ⟨⟨k + 1, by omega, rfl, fun s hs h1 => ?_, fun h s hs => ?_, d⟩, by dsimp only; omega⟩
      · rcases Nat.lt_or_ge s k with h | h
        · exact hno s h h1
        · have : s = k := by omega
          subst this; omega
      · rcases Nat.lt_or_ge s k with h' | h'
        · exact hsome h s h'
        · have : s = k := by omega
          subst this; omega
  have hge := of_decide_eq_false hge
  have hkk : k = ls.length := by omega
  subst hkk
  have noat : ∀ s m, ¬ HuffM.At ls B s m := fun s m ha => by
    have h1 : ls.getD s 0 = m := getD_of ha.1
    have h2 : s < ls.length := (List.getElem?_eq_some_iff.1 ha.1).1
    exact hno s h2 (by have := ha.2.1; omega) ((cbits_prefix hf ha.1 ha.2.1 B).2 ha)
  refine ⟨fun hn => ?_, fun hy => ?_⟩
  · have hn : some_ = false := by simpa using hn
    refine ⟨0, 0, 3, rfl, .inr (.inr ⟨rfl, rfl, rfl, noat, fun s hs h1 => ?_⟩), d⟩
    rw [cbits_length, hsome hn s hs] at h1; omega
  refine ⟨fun i w' => ∃ k : Nat, k ≤ ls.length ∧ i = (k : Int) ∧ (∀ s, s < k → B.length < (cbits ls s).length → ¬ B <+: cbits ls s) ∧ Drew w w', fun i _ => ((ls.length : Int) - i).toNat,
    ⟨0, Nat.zero_le _, rfl, by omega, d⟩, ?_⟩
  rintro i w14 ⟨k, hk, rfl, hno2, d14⟩
  refine ⟨fun hlt => ?_, fun hge => ?_⟩
  · have hlt := of_decide_eq_true hlt
    have hkl : k < ls.length := by omega
    have hgk := hget hkl
    obtain ⟨z, i, hz, hc, hri, hil, _⟩ := (hd d14).at (hrow hkl)
    have hcl : (cbits ls k).length = ls.getD k 0 := cbits_length ls k
    have hl15 := hf.mem hgk
    have e1 : IntKind.i64.wrap ((k : Int) + 1) = ((k + 1 : Nat) : Int) := by rw [wrap_i64 (by omega) (by omega)]; omega
    rw [e1]
    refine ⟨⟨by omega, by omega⟩, z, hz, i, by rw [Int.toNat_natCast, Nat.mul_one]; exact hc, fun hgt => ?_, fun hle => ?_⟩
    · have hgt := of_decide_eq_true hgt
      refine (begins_spec (c := i.cap) (c' := c) hri hil.symm (hr.keep (.drew (fun _ => False) d14) (by simp)) rfl hB).mono ?_
      rintro e w18 ⟨rfl, d18⟩
      refine ⟨_, rfl, fun hyes => ?_, fun hnot => ?_⟩
      · have hyes := of_decide_eq_true hyes
        exact ⟨0, 0, 6, rfl, .inr (.inl ⟨rfl, rfl, rfl, noat, k, by omega, hyes⟩), d14.trans d18⟩
      · have hnot := of_decide_eq_false hnot
        refine ⟨⟨k + 1, by omega, rfl, fun s hs h1 => ?_, d14.trans d18⟩, by dsimp only; omega⟩
        rcases Nat.lt_or_ge s k with h | h
        · exact hno2 s h h1
        · have : s = k := by omega
          subst this; exact hnot
    · have hle := of_decide_eq_false hle
      refine ⟨⟨k + 1, by omega, rfl, fun s hs h1 => ?_, d14⟩, by dsimp only; omega⟩
      rcases Nat.lt_or_ge s k with h | h
      · exact hno2 s h h1
      · have : s = k := by omega
        subst this; omega
  · have hge := of_decide_eq_false hge
    have : k = ls.length := by omega
    subst this
    exact ⟨0, 0, 3, rfl, .inr (.inr ⟨rfl, rfl, rfl, noat, hno2⟩), d14⟩
end Go.Proofs.Ytofejgaanpaieaa

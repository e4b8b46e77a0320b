/- The laws 'the codes of any lengths are the document's' and 'no code begins another one' walked: they return true and write nothing that was there. Conditions: the lists are as Go's values are. -/
import Derived.Test.YtcboiljbkkleiaaHuffG
import Derived.Test.YtcboiljbkkleiaaR3b
import Derived.Test.YtcboiljbkkleiaaVcApp
import Derived.Test.YtcboiljbkkleiaaLaw4
set_option linter.unusedVariables false
namespace Go.Proofs.Ytcboiljbkkleiaa
open Go Vc BitsM HuffM Go.Proofs

theorem _root_.Vc.Fr.up {B : Nat} {W w w1 : World} (h : Fr (fun k => B ≤ k) W w) (h' : Fr (fun _ => False) w w1) : Fr (fun k => B ≤ k) W w1 := h.trans h' (by simp)
theorem _root_.Vc.IsRow.keep {k : IntKind} {w w1 : World} {a : Option Addr} {len cap : Nat} {zs : List Int} (h : IsRow k w a len cap zs) (hf : Fr (fun b => w.heap.size ≤ b) w w1) : IsRow k w1 a len cap zs := by
  rcases h with h | ⟨x, hx, hl, hm, hz, hc, hw⟩
  · exact .inl h
  · exact .inr ⟨x, hx, hl, hm, hz, fun i hi => hf.cell (hc i hi) (by have := World.block_lt_of_cell? w _ (hc i hi); omega), hw⟩
theorem chk_zero {zs : List Int} (h : chk zs = 0) : zs.length ≤ 320 ∧ ∀ z ∈ zs, 0 ≤ z ∧ z ≤ 15 := by
  unfold chk at h
  split at h
  · cases h
  · split at h
    · cases h
    · rename_i h1 h2
      refine ⟨by omega, fun z hz => ?_⟩
      rcases Decidable.em (z < 0 ∨ 15 < z) with h3 | h3
      · exact absurd ⟨z, hz, h3⟩ h2
      · omega
theorem cd_some {ls : List Nat} {s n : Nat} (h : ls[s]? = some n) (h1 : 1 ≤ n) : cd ls (s : Int) = (code ls s, n) := by
  unfold cd
  rw [Int.toNat_natCast, getD_of h, if_pos ⟨by omega, by omega⟩]
theorem cd_zero {ls : List Nat} {s : Nat} (h : ls.getD s 0 = 0) : cd ls (s : Int) = (0, 0) := by
  unfold cd
  rw [Int.toNat_natCast, if_neg (by omega)]

theorem codes_walk (a0 : Option Addr) (len0 cap0 : Nat) (z0 : List Int) (W : World) (w0 : IsRow .i64 W a0 len0 cap0 z0) :
    Calls Try.prog F_cartularylaw04_HuffCodes #[.slice a0 len0 cap0] W fun e w' => e = .returned (.bool true) ∧ RowKit.Below W.heap.size W w' := by
  refine vc_cartularylaw04_HuffCodes_ok (R := fun v w' => v = .bool true ∧ Fr (fun k => W.heap.size ≤ k) W w') ?_ (fun v w' h => ⟨by rw [h.1], h.2.below (Nat.le_refl _)⟩)
  generalize hB : W.heap.size = B
  refine (few4_spec w0).mono ?_
  rintro e w2 ⟨l3, rfl, o3, f2⟩
  generalize hZ : (z0.take len0).take 400 = Z at o3
  have hZl : Z.length ≤ 400 := by rw [← hZ]; simp; omega
  have hl3 : l3.len = Z.length := by rw [o3.len, List.length_map]
  have fW2 : Fr (fun k => B ≤ k) W w2 := f2.mono (by simp)
  refine ⟨l3, rfl, ?_⟩
  refine (hnew_spec o3.reads hl3.symm (fun x hx => (o3.blk hx).2)).mono ?_
  intro e w5 h5
  obtain ⟨p6, he, ht5, f5⟩ : ∃ p6, e = .returned (.tuple #[.pointer p6, .int .i64 ((chk Z : Nat) : Int)]) ∧ ((chk Z ≠ 0 ∧ p6 = none) ∨ (chk Z = 0 ∧ ∃ b, p6 = some ⟨b, 0, none⟩ ∧ Tab w5 w2.heap.size w5.heap.size b (Z.map Int.toNat))) ∧ Fr (fun _ => False) w2 w5 := by
    obtain ⟨⟨h, he⟩ | ⟨h, b, he, ht⟩, hf⟩ := h5
    · exact ⟨none, he, .inl ⟨h, rfl⟩, hf⟩
    · exact ⟨_, by rw [h]; exact he, .inr ⟨h, b, rfl, ht⟩, hf⟩
  subst he
  have fW5 := fW2.up f5
  refine ⟨p6, _, rfl, ?_⟩
  refine (few4_spec (w0.keep (by rw [hB]; exact fW5))).mono ?_
  rintro e w9 ⟨l10, rfl, o10, f9⟩
  rw [hZ] at o10
  refine ⟨l10, rfl, ?_⟩
  refine (check_spec o10.reads (by rw [o10.len, List.length_map])).mono ?_
  rintro e w12 ⟨rfl, rfl⟩
  refine ⟨_, rfl, ?_⟩
  refine (awake4_spec w12).mono ?_
  rintro e w15 ⟨rfl, f15⟩
  have fW15 := (fW5.up f9).up f15
  refine ⟨true, rfl, (fun h => by cases h), fun _ => ⟨fun h => absurd h (by simp), fun _ => ⟨fun hne => ?_, fun heq => ?_⟩⟩⟩
  · have hne : chk Z ≠ 0 := fun h => by rw [h] at hne; exact absurd hne (by decide)
    rcases ht5 with ⟨_, rfl⟩ | ⟨h, _⟩
    · exact ⟨rfl, fW15⟩
    · exact absurd h hne
  have heq : chk Z = 0 := by
    by_cases h : chk Z = 0
    · exact h
    · exfalso
      have : (((chk Z : Nat) : Int) != 0) = true := by simp; omega
      rw [this] at heq; cases heq
  rcases ht5 with ⟨h, _⟩ | ⟨_, b, rfl, ht⟩
  · exact absurd heq h
  obtain ⟨hZ320, hZ15⟩ := chk_zero heq
  have hio := iv_nats (fun z hz => (hZ15 z hz).1)
  rw [hio] at o3
  generalize hls : Z.map Int.toNat = ls at o3 ht
  have hlsl : ls.length = Z.length := by rw [← hls]; simp
  have hlt5 : w2.heap.size ≤ w5.heap.size := f5.size
  have f2_15 : Fr (fun _ => False) w2 w15 := (f5.trans' f9).trans' f15
  have o315 := o3.keep f2_15 (by simp)
  refine (codes_spec (c := l3.cap) o315.reads (by rw [hl3, hlsl]) ht.fits (by omega)).mono ?_
  rintro e w18 ⟨o, rfl, bo, f18⟩
  refine ⟨o, rfl, ?_⟩
  have hol : o.len = ls.length := by rw [bo.len]; simp
  have hobl : ∀ x, o.a = some x → w15.heap.size ≤ x.block := by
    obtain ⟨ins, _, h2, _⟩ := bo
    exact fun x hx => (h2.blk hx).1
  have o318 := o315.keep f18 (by simp)
  have hl3b : ∀ k, Vc.At l3 k → B ≤ k ∧ k < w2.heap.size := fun k ⟨y, hy, e⟩ => by rw [e, ← hB]; exact o3.blk hy
  have h2_15 := f2_15.size
  have h15_18 := f18.size
  have fW18 := fW15.up f18
  have ht18 : Tab w18 w2.heap.size w5.heap.size b ls := ht.keep ((f9.trans' f15).trans' f18) (by simp)
  refine ⟨fun i w' => ∃ (k : Nat) (xs : List Value), k ≤ ls.length ∧ i = (k : Int) ∧ xs.length = ls.length ∧ Own w' B T_int l3 xs ∧ Fr (Vc.At l3) w18 w', fun i _ => ((ls.length : Int) - i).toNat,
    ⟨0, nv ls, Nat.zero_le _, rfl, by simp, by rw [← hB]; exact o318, .refl _ _⟩, ?_⟩
  rintro i w23 ⟨k, xs, hk, rfl, hxs, ox, f23⟩
  refine ⟨fun hlt => ?_, fun hge => ?_⟩
  · have hlt := of_decide_eq_true hlt
    obtain ⟨z, hz, hzc, hzw, hzs⟩ := ox.set (i := k) (by omega)
    have e1 : IntKind.i64.wrap ((k : Int) + 1) = ((k + 1 : Nat) : Int) := by rw [wrap_i64 (by omega) (by omega)]; omega
    rw [e1]
    refine ⟨⟨by omega, by omega⟩, z, hz, by rw [Int.toNat_natCast, Nat.mul_one]; exact hzw, ?_⟩
    rw [Int.toNat_natCast, Nat.mul_one]
    intro w25 hw25
    obtain ⟨h1, h2⟩ := hzs (.int .i64 7)
    rw [← hw25] at h1 h2
    exact ⟨⟨k + 1, _, by omega, rfl, by simpa using hxs, h1, f23.trans' h2⟩, by dsimp only; omega⟩
  have ht23 : Tab w23 w2.heap.size w5.heap.size b ls := ht18.keep f23 (fun k h1 h2 h3 => by have := hl3b k h3; omega)
  have b23 : BitRows w23 w15.heap.size w15.heap.size w18.heap.size o ((List.range ls.length).map (cbits ls)) :=
    bo.keep f23 (fun x hx h => by have := hl3b _ h; have := hobl x hx; omega) (fun k h1 h2 h3 => by have := hl3b k h3; omega)
  have fW23 : Fr (fun k => B ≤ k) W w23 := fW18.trans f23 (fun k hk h => (hl3b k h).1)
  refine ⟨fun i w' => ∃ k : Nat, k ≤ ls.length ∧ i = (k : Int) ∧ Fr (fun _ => False) w23 w', fun i _ => ((ls.length : Int) - i).toNat, ⟨0, Nat.zero_le _, rfl, .refl _ _⟩, ?_⟩
  rintro i w29 ⟨k, hk, rfl, f29⟩
  have ht29 := ht23.keep f29 (by simp)
  refine ⟨fun hlt => ?_, fun hge => ?_⟩
  · have hlt := of_decide_eq_true hlt
    have hkl : k < ls.length := by omega
    have hgk : ls[k]? = some (ls.getD k 0) := by rw [List.getD_eq_getElem?_getD, List.getElem?_eq_getElem hkl]; rfl
    have hrow : ((List.range ls.length).map (cbits ls))[k]? = some (cbits ls k) := by rw [List.getElem?_map, List.getElem?_range hkl]; rfl
    obtain ⟨z, i, hz, hc, hri, hil, _⟩ := (b23.keep f29 (by simp) (by simp)).at hrow
    have hcl : (cbits ls k).length = ls.getD k 0 := cbits_length ls k
    have h15 := ht.fits.mem hgk
    have e1 : IntKind.i64.wrap ((k : Int) + 1) = ((k + 1 : Nat) : Int) := by rw [wrap_i64 (by omega) (by omega)]; omega
    rw [e1]
    refine ⟨⟨by omega, by omega⟩, z, hz, i, by rw [Int.toNat_natCast, Nat.mul_one]; exact hc, ?_⟩
    refine (hcode_spec ht29 (k : Int)).mono ?_
    rintro e w33 ⟨rfl, rfl⟩
    have h2 : (cd ls (k : Int)).2 = ls.getD k 0 := by
      rcases Nat.eq_zero_or_pos (ls.getD k 0) with h | h
      · rw [cd_zero h, h]
      · rw [cd_some hgk h]
    have h1 : ((cd ls (k : Int)).1 : Int) = ((num (cbits ls k).reverse % 4294967296 : Nat) : Int) := by
      rcases Nat.eq_zero_or_pos (ls.getD k 0) with h | h
      · rw [cd_zero h, cbits_none h]; rfl
      · have hv := hv_cbits ht.fits hgk h
        have hlt := hv_lt (cbits ls k)
        have hp : 2 ^ (cbits ls k).length ≤ 2 ^ 15 := Nat.pow_le_pow_right (by decide) (by omega)
        rw [cd_some hgk h, show num (cbits ls k).reverse = HuffM.hv (cbits ls k) from rfl, Nat.mod_eq_of_lt (by omega), hv]
    refine ⟨_, _, rfl, fun hne => ?_, fun _ => ?_⟩
    · rw [h2, hil, hcl] at hne; simp at hne
    refine (turn_spec (c := i.cap) hri hil.symm (by omega)).mono ?_
    rintro e w37 ⟨l38, rfl, o38, f37⟩
    refine ⟨l38, rfl, ?_⟩
    refine (number_spec (c := l38.cap) o38.reads (by rw [o38.len, List.length_map]) (by rw [List.length_reverse]; omega)).mono ?_
    rintro e w40 ⟨rfl, rfl⟩
    refine ⟨_, rfl, fun hne => ?_, fun _ => ⟨⟨k + 1, by omega, rfl, f29.trans' f37⟩, by dsimp only; omega⟩⟩
    rw [h1] at hne; simp at hne
  · refine (hcode_spec ht29 (-1)).mono ?_
    rintro e w43 ⟨rfl, rfl⟩
    have c1 : cd ls (-1) = (0, 0) := rfl
    rw [c1]
    refine ⟨_, _, rfl, ?_⟩
    refine (hcode_spec ht29 (o.len : Int)).mono ?_
    rintro e w47 ⟨rfl, rfl⟩
    have c2 : cd ls (o.len : Int) = (0, 0) := cd_zero (by rw [List.getD_eq_getElem?_getD, List.getElem?_eq_none (by omega)]; rfl)
    rw [c2]
    exact ⟨_, _, rfl, fun _ => ⟨fun _ => ⟨fun _ => ⟨rfl, fW23.up f29⟩, fun h => absurd h (by decide)⟩, fun h => absurd h (by decide)⟩, fun h => absurd h (by decide)⟩

theorem fdiv_pow {a q : Nat} {n m : Int} (h : n - m = (q : Int)) (hq : q < 32) : Int.fdiv (a : Int) (2 ^ min (Int.toNat (IntKind.i64.wrap (n - m))) 32) = ((a / 2 ^ q : Nat) : Int) := by
  have hp : ((2 : Int) ^ q) = ((2 ^ q : Nat) : Int) := by push_cast; rfl
  rw [h, wrap_i64 (by omega) (by omega), Int.toNat_natCast, Nat.min_eq_left (by omega), hp, Int.fdiv_eq_ediv_of_nonneg _ (Int.natCast_nonneg _), ← Int.natCast_ediv]
theorem code_step {ls : List Nat} {x s n : Nat} (hx : ls[x]? = some n) (hs : ls[s]? = some n) (h : x < s) : code ls x < code ls s := by
  have := count_take_step hx h
  rw [code, code, getD_of hx, getD_of hs]; omega

theorem apart_walk (a0 : Option Addr) (len0 cap0 : Nat) (z0 : List Int) (W : World) (w0 : IsRow .i64 W a0 len0 cap0 z0) :
    Calls Try.prog F_cartularylaw04_HuffApart #[.slice a0 len0 cap0] W fun e w' => e = .returned (.bool true) ∧ RowKit.Below W.heap.size W w' := by
  refine vc_cartularylaw04_HuffApart_ok (R := fun v w' => v = .bool true ∧ Fr (fun k => W.heap.size ≤ k) W w') ?_ (fun v w' h => ⟨by rw [h.1], h.2.below (Nat.le_refl _)⟩)
  generalize hB : W.heap.size = B
  refine (few4_spec w0).mono ?_
  rintro e w2 ⟨l3, rfl, o3, f2⟩
  generalize hZ : (z0.take len0).take 400 = Z at o3
  have hZl : Z.length ≤ 400 := by rw [← hZ]; simp; omega
  have hl3 : l3.len = Z.length := by rw [o3.len, List.length_map]
  have fW2 : Fr (fun k => B ≤ k) W w2 := f2.mono (by simp)
  refine ⟨l3, rfl, ?_⟩
  refine (hnew_spec o3.reads hl3.symm (fun x hx => (o3.blk hx).2)).mono ?_
  rintro e w5 ⟨⟨h5, rfl⟩ | ⟨h5, b, rfl, ht⟩, f5⟩
  · refine ⟨none, _, rfl, fun _ => ?_, fun h => ?_⟩
    · refine (awake4_spec w5).mono ?_
      rintro e w9 ⟨rfl, f9⟩
      exact ⟨true, rfl, fun _ => ⟨rfl, (fW2.up f5).up f9⟩, fun h => by cases h⟩
    · exfalso
      have : (((chk Z : Nat) : Int) != 0) = true := by simp; omega
      rw [this] at h; cases h
  have fW5 := fW2.up f5
  refine ⟨_, _, rfl, fun h => absurd h (by decide), fun _ => ?_⟩
  refine (few4_spec (w0.keep (by rw [hB]; exact fW5))).mono ?_
  rintro e w12 ⟨l13, rfl, o13, f12⟩
  rw [hZ] at o13
  have hl13 : l13.len = Z.length := by rw [o13.len, List.length_map]
  refine ⟨l13, rfl, ?_⟩
  have ht12 := ht.keep f12 (by simp)
  have fW12 := fW5.up f12
  have hfits := ht.fits
  generalize hls : Z.map Int.toNat = ls at ht12 hfits
  have hlsl : ls.length = Z.length := by rw [← hls]; simp
  have key : ∀ x : Nat, (ls.getD x 0 = 0 ∧ cd ls (x : Int) = (0, 0)) ∨ (∃ n, ls[x]? = some n ∧ 1 ≤ n ∧ n ≤ 15 ∧ cd ls (x : Int) = (code ls x, n) ∧ code ls x < 2 ^ n) := fun x => by
    rcases Nat.eq_zero_or_pos (ls.getD x 0) with h | h
    · exact .inl ⟨h, cd_zero h⟩
    · have hx : ls[x]? = some (ls.getD x 0) := by
        rw [List.getD_eq_getElem?_getD] at h ⊢
        cases hh : ls[x]? with
        | none => rw [hh] at h; simp at h
        | some v => rfl
      have h15 := hfits.mem hx
      exact .inr ⟨_, hx, h, h15, cd_some hx h, by have := code_lt hx h; have := hfits.le h15; omega⟩
  refine ⟨fun i w' => w' = w12 ∧ ∃ k : Nat, k ≤ ls.length ∧ i = (k : Int), fun i _ => ((ls.length : Int) - i).toNat, ⟨rfl, 0, Nat.zero_le _, rfl⟩, ?_⟩
  rintro i w17 ⟨rfl, s, hs, rfl⟩
  refine ⟨fun hlt => ?_, fun hge => ?_⟩
  · have hlt := of_decide_eq_true hlt
    have e1 : IntKind.i64.wrap ((s : Int) + 1) = ((s + 1 : Nat) : Int) := by rw [wrap_i64 (by omega) (by omega)]; omega
    rw [e1]
    refine (hcode_spec ht12 (s : Int)).mono ?_
    rintro e w19 ⟨rfl, rfl⟩
    refine ⟨_, _, rfl, ?_⟩
    obtain ⟨c, n, hcd, hn15, hcp, hprop⟩ : ∃ c n : Nat, cd ls (s : Int) = (c, n) ∧ n ≤ 15 ∧ c < 2 ^ n ∧ (1 ≤ n → ls[s]? = some n ∧ c = code ls s) := by
      rcases key s with ⟨_, h⟩ | ⟨n, h1, h2, h3, h4, h5⟩
      · exact ⟨0, 0, h, by decide, by decide, by omega⟩
      · exact ⟨_, n, h4, h3, h5, fun _ => ⟨h1, rfl⟩⟩
    rw [hcd]
    have hp15 : 2 ^ n ≤ 2 ^ 15 := Nat.pow_le_pow_right (by decide) hn15
    have e2 : IntKind.u32.wrap (1 * 2 ^ min (Int.toNat (n : Int)) 32) = ((2 ^ n : Nat) : Int) := by
      have hp : ((2 : Int) ^ n) = ((2 ^ n : Nat) : Int) := by push_cast; rfl
      rw [Int.toNat_natCast, Nat.min_eq_left (by omega), Int.one_mul, hp, wrap_u32 (by omega) (by omega)]
    rw [e2]
    refine ⟨fun h => absurd (of_decide_eq_true h) (by omega), fun _ => ⟨fun h => absurd (of_decide_eq_true h) (by omega), fun _ => ⟨by omega, fun h => absurd (of_decide_eq_true h) (by omega), fun _ => ?_⟩⟩⟩
    refine ⟨fun i w' => w' = w19 ∧ ∃ k : Nat, k ≤ s ∧ i = (k : Int), fun i _ => ((s : Int) - i).toNat, ⟨rfl, 0, Nat.zero_le _, rfl⟩, ?_⟩
    rintro i w25 ⟨rfl, x, hx, rfl⟩
    have e3 : IntKind.i64.wrap ((x : Int) + 1) = ((x + 1 : Nat) : Int) := by rw [wrap_i64 (by omega) (by omega)]; omega
    rw [e3]
    refine ⟨fun hxs => ⟨fun hpos => ?_, fun _ => ⟨⟨rfl, s + 1, by omega, rfl⟩, by dsimp only; omega⟩⟩, fun _ => ⟨⟨rfl, s + 1, by omega, rfl⟩, by dsimp only; omega⟩⟩
    have hxs := of_decide_eq_true hxs
    have hpos := of_decide_eq_true hpos
    have hxs : x < s := by omega
    obtain ⟨hgs, rfl⟩ := hprop (by omega)
    have next : ∀ {w' : World}, w' = w25 → (w' = w25 ∧ ∃ k : Nat, k ≤ s ∧ ((x + 1 : Nat) : Int) = (k : Int)) ∧ ((s : Int) - ((x + 1 : Nat) : Int)).toNat < ((s : Int) - (x : Int)).toNat := fun h => ⟨⟨h, x + 1, by omega, rfl⟩, by omega⟩
    refine (hcode_spec ht12 (x : Int)).mono ?_
    rintro e w27 ⟨rfl, rfl⟩
    refine ⟨_, _, rfl, ?_⟩
    rcases key x with ⟨_, h⟩ | ⟨m, hgx, hm1, hm15, h4, h5⟩
    · rw [h]
      exact ⟨fun _ => next rfl, fun h => absurd h (by decide)⟩
    rw [h4]
    have hm0 : ¬ ((m : Int) == 0) = true := by simp; omega
    refine ⟨fun h => absurd h hm0, fun _ => ?_⟩
    have hxc := code_lt hgx hm1
    have hsc := code_lt hgs (by omega)
    have noeq : ∀ {a b : Nat}, a ≠ b → ¬ (((a : Nat) : Int) == ((b : Nat) : Int)) = true := fun h => by simp; omega
    refine ⟨fun hle => ?_, fun hgt => ?_⟩
    · have hle := of_decide_eq_true hle
      rw [fdiv_pow (q := n - m) (by omega) (by omega), wrap_i64 (x := (n : Int) - (m : Int)) (by omega) (by omega)]
      have hne : code ls s / 2 ^ (n - m) ≠ code ls x := by
        rcases Nat.lt_or_ge m n with h | h
        · have := code_above hgs h; omega
        · have : m = n := by omega
          subst this
          have := code_step hgx hgs hxs
          rw [Nat.sub_self, Nat.pow_zero, Nat.div_one]; omega
      refine ⟨by omega, fun h => absurd h (noeq hne), fun _ => ⟨fun hle2 => ?_, fun hgt2 => ⟨fun h => ?_, fun _ => next rfl⟩⟩⟩
      · have hle2 := of_decide_eq_true hle2
        have : m = n := by omega
        subst this
        have hlt := code_step hgx hgs hxs
        rw [fdiv_pow (q := 0) (by omega) (by omega), wrap_i64 (x := (m : Int) - (m : Int)) (by omega) (by omega)]
        rw [Nat.pow_zero, Nat.div_one]
        refine ⟨by omega, fun h => absurd h (noeq (by omega)), fun _ => ⟨fun _ => ⟨fun h => absurd (of_decide_eq_true h) (by omega), fun _ => next rfl⟩, fun h => ?_⟩⟩
        simp at h
      · have hgt2 := of_decide_eq_false hgt2
        have h : (m : Int) = (n : Int) := by simpa using h
        omega
    · have hgt := of_decide_eq_false hgt
      have hne : code ls x / 2 ^ (m - n) ≠ code ls s := by have := code_above hgx (show n < m by omega); omega
      rw [fdiv_pow (q := m - n) (by omega) (by omega), wrap_i64 (x := (m : Int) - (n : Int)) (by omega) (by omega)]
      have hmn : ¬ (((m : Nat) : Int) == ((n : Nat) : Int)) = true := noeq (by omega)
      refine ⟨fun _ => ⟨by omega, fun h => absurd h (noeq hne), fun _ => ⟨fun h => absurd h hmn, fun _ => next rfl⟩⟩, fun _ => ⟨fun h => absurd h hmn, fun _ => next rfl⟩⟩
  · refine (awake4_spec w17).mono ?_
    rintro e w31 ⟨rfl, f31⟩
    exact ⟨true, rfl, rfl, fW12.up f31⟩
end Go.Proofs.Ytcboiljbkkleiaa

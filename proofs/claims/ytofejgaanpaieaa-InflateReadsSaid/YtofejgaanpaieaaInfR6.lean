/- The reference's tables of a dynamic block. Conditions: the stream is in order. -/
import Derived.Test.YtofejgaanpaieaaInfR5
import Derived.Test.YtofejgaanpaieaaInfQ
set_option linter.unusedVariables false
namespace Go.Proofs.Ytofejgaanpaieaa
open Go Vc BitsM HuffM Go.Proofs

theorem sfail_any {w : World} {base b : Nat} {bl0 sl : Sl} {B : List Bool} {p : Nat} {out : List UInt8} {most er : Nat} (h : RS w base b bl0 sl B p out most er) (x : Nat) :
    Calls Try.prog F_cartularyref05_Stream_fail #[.pointer (some ⟨b, 0, none⟩), .int .i64 (x : Int)] w fun e w' => e = .returned (.tuple #[]) ∧ RS w' base b bl0 sl B p out most (if er = 0 then x else er) ∧ Fr (· = b) w w' := by
  by_cases he : er = 0
  · subst he
    rw [if_pos rfl]
    exact fail_spec h x
  · rw [if_neg he]
    refine (fail_idle h he x).mono ?_
    rintro e w' ⟨rfl, hw⟩
    replace hw := hw.symm
    subst hw
    exact ⟨rfl, h, .refl _ _⟩
theorem snum_g {w : World} {base b : Nat} {bl0 sl : Sl} {B : List Bool} {p : Nat} {out : List UInt8} {most er : Nat} (h : RS w base b bl0 sl B p out most er) {n : Nat} (hn : n ≤ 16) (hin : er = 0 → p + n ≤ B.length) :
    Calls Try.prog F_cartularyref05_Stream_number #[.pointer (some ⟨b, 0, none⟩), .int .i64 (n : Int)] w fun e w' => ∃ v p' : Nat, e = .returned (.int .i64 (v : Int)) ∧ v < 2 ^ n ∧ RS w' base b bl0 sl B p' out most er ∧ Fr (· = b) w w' ∧
      (er = 0 → v = num ((B.drop p).take n) ∧ p' = p + n) := by
  by_cases he : er = 0
  · subst he
    refine (snumber_spec h hn).mono ?_
    rintro e w' ⟨hf, ⟨v, p', ht, rfl, h'⟩ | ⟨ht, rfl, h'⟩⟩
    · obtain ⟨_, h2, h3, h4⟩ := take_ok ht
      exact ⟨v, p', rfl, h4, h', hf, fun _ => ⟨h2, h3⟩⟩
    · have := (take_err ht).1
      have := hin rfl
      omega
  · refine (number_idle h he n).mono ?_
    rintro e w' ⟨rfl, hw⟩
    replace hw := hw.symm
    subst hw
    exact ⟨0, p, rfl, Nat.two_pow_pos _, h, .refl _ _, fun hh => absurd hh he⟩
theorem num_three (L : List Bool) (h : 14 ≤ L.length) : num (L.take 14) = num (L.take 5) + 32 * num ((L.drop 5).take 5) + 1024 * num ((L.drop 10).take 4) := by
  have h1 : L.take 14 = L.take 5 ++ ((L.drop 5).take 5 ++ (L.drop 10).take 4) := by
    rw [show 14 = 5 + 9 from rfl, List.take_add, show 9 = 5 + 4 from rfl, List.take_add, List.drop_drop]
  rw [h1, num_append, num_append, List.length_take, List.length_take, List.length_drop, show min 5 L.length = 5 by omega, show min 5 (L.length - 5) = 5 by omega]
  omega
/-- What the reading of the tables leaves. -/
def DRes (w w' : World) (base b : Nat) (bl0 sl : Sl) (B : List Bool) (out : List UInt8) (most : Nat) (r : InfM.E (List Nat × List Nat)) (v : Value) : Prop :=
  Fr (· = b) w w' ∧ ∃ l d : Sl, v = .tuple #[slv l, slv d] ∧ ((∃ lit dist p', r = .ok ((lit, dist), p') ∧ RS w' base b bl0 sl B p' out most 0 ∧ Reads w' l.a (nv lit) ∧ lit.length = l.len ∧ Reads w' d.a (nv dist) ∧ dist.length = d.len ∧ InfM.chkN lit = 0 ∧ InfM.chkN dist = 0 ∧ lit.length ≤ 400 ∧ dist.length ≤ 400) ∨
    (∃ er p', er ≠ 0 ∧ r = .error er ∧ RS w' base b bl0 sl B p' out most er))
theorem RS.err {w : World} {base b : Nat} {bl0 sl : Sl} {B : List Bool} {p : Nat} {out : List UInt8} {most er : Nat} (h : RS w base b bl0 sl B p out most er) : cellNat w ⟨b, 4, none⟩ = er := by
  unfold cellNat
  rw [h.c4]; simp
/-- The codes of lengths, one more read. -/
theorem clens_step {cl : List Nat} {tot : Nat} {B : List Bool} {f p p1 s : Nat} {xs : List Nat} (hx : xs.length < tot) (hs : InfM.sym cl B p = .ok (s, p1)) :
    InfM.clens cl tot B (f + 1) p xs = (if s < 16 then (if tot < xs.length + 1 then .error 3 else InfM.clens cl tot B f p1 (xs ++ List.replicate 1 s)) else if s = 16 ∧ xs = [] then .error 3 else
      match InfM.take B (if s = 16 then 2 else if s = 17 then 3 else 7) p1 with
      | .error e => .error e
      | .ok (n, p2) => (if tot < xs.length + ((if s = 16 ∨ s = 17 then 3 else 11) + n) then .error 3 else InfM.clens cl tot B f p2 (xs ++ List.replicate ((if s = 16 ∨ s = 17 then 3 else 11) + n) (if s = 16 then xs.getLastD 0 else 0)))) := by
  rw [InfM.clens, if_neg (by omega), hs]
  dsimp only
  by_cases h16 : s < 16
  · rw [if_pos h16, if_pos h16, if_neg (by omega)]; rfl
  · rw [if_neg h16, if_neg h16]
    by_cases h0 : s = 16 ∧ xs = []
    · rw [if_pos h0, if_pos h0]
    · rw [if_neg h0, if_neg h0]
      split <;> rename_i he <;> rw [he]
/-- 'dynamic'. -/
theorem sdynamic_spec {w : World} {base b : Nat} {bl0 sl : Sl} {B : List Bool} {p : Nat} {out : List UInt8} {most : Nat} (h : RS w base b bl0 sl B p out most 0) :
    Calls Try.prog F_cartularyref05_Stream_dynamic #[.pointer (some ⟨b, 0, none⟩)] w fun e w' => ∃ v, e = .returned v ∧ DRes w w' base b bl0 sl B out most (InfM.tables B p) v := by
  refine vc_cartularyref05_Stream_dynamic_ok (R := fun v w' => DRes w w' base b bl0 sl B out most (InfM.tables B p) v) ?_ (fun v w' h => ⟨v, rfl, h⟩)
  have hsm := h.small
  have hp := h.hp
  have hbl := h.blen
  obtain ⟨hbw, hslw⟩ := h.lts
  generalize hT : InfM.tables B p = T
  have keepRS : ∀ {w1 w2 : World} {px er : Nat} {Y : Nat → Prop}, RS w1 base b bl0 sl B px out most er → Fr Y w1 w2 → (∀ k, Y k → w.heap.size ≤ k) → RS w2 base b bl0 sl B px out most er := fun hx hf hY =>
    hx.keep hf (fun hh => by have := hY _ hh; omega) (fun x hx2 hh => by have := hY _ hh; have := (h.hbits x hx2).1; have := h.hbase; omega) (fun y hy hh => by have := hY _ hh; have := hslw y hy; omega)
  have far : ∀ {w1 w2 : World} {Y : Nat → Prop}, Fr (· = b) w w1 → Fr Y w1 w2 → (∀ k, Y k → k = b ∨ w.heap.size ≤ k) → Fr (· = b) w w2 := fun h1 h2 hY => h1.trans h2 fun k hk hh => by
    rcases hY k hh with hh | hh
    · exact hh
    · omega
  have bad : ∀ {w' : World} {px er : Nat}, Fr (· = b) w w' → RS w' base b bl0 sl B px out most er → er ≠ 0 → T = .error er → DRes w w' base b bl0 sl B out most T (.tuple #[.slice none 0 0, .slice none 0 0]) := fun hf hx he hT' =>
    ⟨hf, ⟨none, 0, 0⟩, ⟨none, 0, 0⟩, rfl, .inr ⟨_, _, he, hT', hx⟩⟩
  -- the fourteen bits
  refine ⟨fun w' => Fr (· = b) w w' ∧ ∃ er, RS w' base b bl0 sl B p out most er ∧ ((er = 0 ∧ p + 14 ≤ B.length) ∨ (er = 6 ∧ B.length < p + 14)), ⟨_, h.c4, fun _ => ⟨bl0, by rw [cell_blk h.blk]; rfl, (p : Int), by rw [cell_blk h.blk]; rfl, fun w5 d5 => ?_⟩, fun hh => (by simp at hh)⟩, ?_⟩
  · have e1 : IntKind.i64.wrap ((bl0.len : Int) - (p : Int)) = ((B.length - p : Nat) : Int) := by rw [wrap_i64 (by omega) (by omega)]; omega
    rw [e1]
    refine ⟨fun hlt => ?_, fun hge => ?_⟩
    · have hlt := of_decide_eq_true hlt
      refine (fail_spec (h.drew d5) 6).mono ?_
      rintro e w7 ⟨rfl, h7, hf7⟩
      exact ⟨rfl, (Fr.drew _ d5).trans' hf7, 6, h7, .inr ⟨rfl, by omega⟩⟩
    · have hge := of_decide_eq_false hge
      exact ⟨.drew _ d5, 0, h.drew d5, .inl ⟨rfl, by omega⟩⟩
  rintro w9 ⟨hf9, er, h9, hcase⟩
  refine (snum_g h9 (n := 5) (by omega) (by omega)).mono ?_
  rintro e w11 ⟨v1, p1, rfl, hv1, h11, hf11, g1⟩
  refine ⟨_, rfl, (snum_g h11 (n := 5) (by omega) (by omega)).mono ?_⟩
  rintro e w14 ⟨v2, p2, rfl, hv2, h14, hf14, g2⟩
  refine ⟨_, rfl, (snum_g h14 (n := 4) (by omega) (by omega)).mono ?_⟩
  rintro e w17 ⟨v3, p3, rfl, hv3, h17, hf17, g3⟩
  have hf17' := ((hf9.trans' hf11).trans' hf14).trans' hf17
  have hT6 : er ≠ 0 → T = .error er := fun he => by
    rcases hcase with ⟨h0, _⟩ | ⟨h6, hlt⟩
    · exact absurd h0 he
    · rw [← hT, h6]
      exact InfM.tables_err (by unfold InfM.take; rw [if_neg (by omega)])
  have hT0 : er = 0 → p3 = p + 14 ∧ T = InfM.tabs1 B (v1 + 257) (v2 + 1) (v3 + 4) p3 := fun he => by
    obtain ⟨a1, a2⟩ := g1 he
    obtain ⟨b1, b2⟩ := g2 he
    obtain ⟨c1, c2⟩ := g3 he
    have hlen : p + 14 ≤ B.length := by omega
    have hn := num_three (B.drop p) (by rw [List.length_drop]; omega)
    rw [List.drop_drop, List.drop_drop, ← a1, ← a2, ← b1, show p + 10 = p2 by omega, ← c1] at hn
    have htk : InfM.take B 14 p = .ok (v1 + 32 * v2 + 1024 * v3, p + 14) := by unfold InfM.take; rw [if_pos hlen, hn]
    rw [← hT, InfM.tables_ok htk, show (v1 + 32 * v2 + 1024 * v3) % 32 = v1 by omega, show (v1 + 32 * v2 + 1024 * v3) / 32 % 32 = v2 by omega, show (v1 + 32 * v2 + 1024 * v3) / 1024 = v3 by omega, show p3 = p + 14 by omega]
    exact ⟨rfl, rfl⟩
  have hv1' : v1 < 32 := hv1
  have hv2' : v2 < 32 := hv2
  have hv3' : v3 < 16 := hv3
  have enl : IntKind.i64.wrap ((v1 : Int) + 257) = ((v1 + 257 : Nat) : Int) := by rw [wrap_i64 (by omega) (by omega)]; omega
  have end_ : IntKind.i64.wrap ((v2 : Int) + 1) = ((v2 + 1 : Nat) : Int) := by rw [wrap_i64 (by omega) (by omega)]; omega
  have enc : IntKind.i64.wrap ((v3 : Int) + 4) = ((v3 + 4 : Nat) : Int) := by rw [wrap_i64 (by omega) (by omega)]; omega
  refine ⟨_, rfl, ?_⟩
  rw [enl, end_, enc]
  have hnl1 : 257 ≤ v1 + 257 := by omega
  have hnl2 : v1 + 257 ≤ 288 := by omega
  have hnd1 : 1 ≤ v2 + 1 := by omega
  have hnd2 : v2 + 1 ≤ 32 := by omega
  have hnc : v3 + 4 ≤ 19 := by omega
  clear enl end_ enc g1 g2 g3 hv1 hv2 hv3
  generalize v1 + 257 = nl at *
  generalize v2 + 1 = nd at *
  generalize v3 + 4 = nc at *
  have etot : IntKind.i64.wrap ((nl : Int) + (nd : Int)) = ((nl + nd : Nat) : Int) := by rw [wrap_i64 (by omega) (by omega)]; omega
  rw [etot]
  refine ⟨fun w' => Fr (· = b) w w' ∧ ∃ er' px, RS w' base b bl0 sl B px out most er' ∧ ((er' = 0 ∧ px = p3 ∧ T = InfM.tabs1 B nl nd nc p3 ∧ nl ≤ 286 ∧ nd ≤ 30) ∨ (er' ≠ 0 ∧ T = .error er')), ⟨fun hgt => ?_, fun hle => ⟨fun hgt => ?_, fun hle2 => ?_⟩⟩, ?_⟩
  · have hgt := of_decide_eq_true hgt
    refine (sfail_any h17 3).mono ?_
    rintro e w21 ⟨rfl, h21, hf21⟩
    refine ⟨rfl, hf17'.trans' hf21, _, _, h21, .inr ?_⟩
    by_cases he : er = 0
    · rw [if_pos he]
      exact ⟨by decide, by rw [(hT0 he).2, InfM.tabs1, if_pos (by omega)]⟩
    · rw [if_neg he]; exact ⟨he, hT6 he⟩
  · have hgt := of_decide_eq_true hgt
    refine (sfail_any h17 3).mono ?_
    rintro e w23 ⟨rfl, h23, hf23⟩
    refine ⟨rfl, hf17'.trans' hf23, _, _, h23, .inr ?_⟩
    by_cases he : er = 0
    · rw [if_pos he]
      exact ⟨by decide, by rw [(hT0 he).2, InfM.tabs1, if_pos (by omega)]⟩
    · rw [if_neg he]; exact ⟨he, hT6 he⟩
  · have hle := of_decide_eq_false hle
    have hle2 := of_decide_eq_false hle2
    refine ⟨hf17', er, p3, h17, ?_⟩
    by_cases he : er = 0
    · exact .inl ⟨he, rfl, (hT0 he).2, by omega, by omega⟩
    · exact .inr ⟨he, hT6 he⟩
  rintro w24 ⟨hf24, er4, px4, h24, hcase4⟩
  clear hT0 hT6 hcase h9 h11 h14 h17 hf9 hf11 hf14 hf17 hf17'
  obtain ⟨w25, hr25, ho25, hf25⟩ := make_ints (w := w24) (n := 19) (by omega) (Nat.le_refl _)
  have h25 := keepRS h24 hf25 (fun _ hh => hh.elim)
  refine ⟨w25, ⟨_, _, _⟩, hr25, fun w27 h27w => ?_⟩
  have hf27 : Fr (fun _ => False) w25 w27 := h27w ▸ Fr.alloc _ _ _
  have hpl0 : w27.heap[w25.heap.size]? = some (.cells (nv InfM.places).toArray T_int (0, 0)) := by rw [h27w]; exact alloc_new _ _
  have hs24 := hf24.size
  have hs25 := hf25.size
  have hs27 : w27.heap.size = w25.heap.size + 1 := by rw [h27w]; exact Array.size_push ..
  have hg25 : w24.heap.size < w25.heap.size := (ho25.blk rfl).2
  have h27 := keepRS h25 hf27 (fun _ hh => hh.elim)
  have ho27 := ho25.keep hf27 (by simp)
  have hf27' : Fr (· = b) w w27 := far (far hf24 hf25 (fun _ hh => hh.elim)) hf27 (fun _ hh => hh.elim)
  generalize hG : w24.heap.size = G at *
  generalize hP : w25.heap.size = P at *
  have hplen : (InfM.places.take nc).length = nc := by rw [List.length_take]; have : InfM.places.length = 19 := rfl; omega
  -- the first lengths
  refine ⟨fun w' => Fr (· = b) w w' ∧ P < w'.heap.size ∧ ∃ er' px l', RS w' base b bl0 sl B px out most er' ∧ Own w' G T_int ⟨some ⟨G, 0, none⟩, 19, 19⟩ (nv l') ∧ l'.length = 19 ∧ ((er' = 0 ∧ T = InfM.tabs2 B nl nd px l' ∧ nl ≤ 286 ∧ nd ≤ 30) ∨ (er' ≠ 0 ∧ T = .error er')), ?_, ?_⟩
  · refine ⟨fun i w' => Fr (· = b) w w' ∧ P < w'.heap.size ∧ w'.heap[P]? = some (.cells (nv InfM.places).toArray T_int (0, 0)) ∧ ∃ er' px l', RS w' base b bl0 sl B px out most er' ∧ Own w' G T_int ⟨some ⟨G, 0, none⟩, 19, 19⟩ (nv l') ∧ l'.length = 19 ∧
        ((er' = 0 ∧ nl ≤ 286 ∧ nd ≤ 30 ∧ ∃ k : Nat, i = (k : Int) ∧ k ≤ nc ∧ T = (match InfM.firsts B ((InfM.places.take nc).drop k) px l' with | .error e => .error e | .ok (first, p) => InfM.tabs2 B nl nd p first)) ∨ (er' ≠ 0 ∧ T = .error er')), fun i _ => nc - i.toNat,
      ⟨hf27', by omega, hpl0, er4, px4, List.replicate 19 0, h27, ho27, by simp, hcase4.imp (fun ⟨h1, h2, h3, h4, h5⟩ => ⟨h1, h4, h5, 0, rfl, Nat.zero_le _, by rw [h3, InfM.tabs1, if_neg (by omega), h2]; rfl⟩) id⟩, ?_⟩
    rintro i w32 ⟨hf32, hP32, hpl32, er', px, l', h32, ho32, hl', ⟨rfl, hnl, hnd, k, rfl, hk, hinv⟩ | ⟨he, hTe⟩⟩
    rotate_left 1
    · have done : Fr (· = b) w w32 ∧ P < w32.heap.size ∧ ∃ er' px l', RS w32 base b bl0 sl B px out most er' ∧ Own w32 G T_int ⟨some ⟨G, 0, none⟩, 19, 19⟩ (nv l') ∧ l'.length = 19 ∧ ((er' = 0 ∧ T = InfM.tabs2 B nl nd px l' ∧ nl ≤ 286 ∧ nd ≤ 30) ∨ (er' ≠ 0 ∧ T = .error er')) := ⟨hf32, hP32, er', px, l', h32, ho32, hl', .inr ⟨he, hTe⟩⟩
      exact ⟨fun _ => ⟨_, h32.c4, fun hh => (he (by simpa using hh)).elim, fun _ => done⟩, fun _ => done⟩
    have e3 : IntKind.i64.wrap ((k : Int) + 1) = ((k + 1 : Nat) : Int) := by rw [wrap_i64 (by omega) (by omega)]; omega
    refine ⟨fun hlt => ⟨_, h32.c4, fun _ w34 d34 => ?_, fun hh => (by simp at hh)⟩, fun hge => ?_⟩
    · have hlt := of_decide_eq_true hlt
      have hkn : k < (InfM.places.take nc).length := by omega
      rw [List.drop_eq_getElem_cons hkn] at hinv
      have hpk : (InfM.places.take nc)[k] = InfM.places.getD k 0 := by
        rw [List.getElem_take, List.getD_eq_getElem?_getD, List.getElem?_eq_getElem (by have : InfM.places.length = 19 := rfl; omega)]; rfl
      have hp19 : InfM.places.getD k 0 < 19 := by
        have : ∀ k, k < 19 → InfM.places.getD k 0 < 19 := by decide
        exact this k (by omega)
      have hpg : (nv InfM.places)[k]? = some (.int .i64 ((InfM.places.getD k 0 : Nat) : Int)) := by
        have hk19 : k < InfM.places.length := by have : InfM.places.length = 19 := rfl; omega
        rw [List.getD_eq_getElem?_getD, List.getElem?_eq_getElem hk19]
        exact nv_get (List.getElem?_eq_getElem hk19)
      rw [hpk, InfM.firsts] at hinv
      have h34 := h32.drew d34
      have hpl34 := (Fr.drew (fun _ => False) d34).keep hpl32 (by simp)
      refine ⟨fun w' => w'.heap[P]? = w34.heap[P]?, rfl, ⟨by omega, by omega⟩, _, rfl, ((InfM.places.getD k 0 : Nat) : Int), fun w' hw' => ?_, ?_⟩
      · rw [Int.toNat_natCast, Nat.mul_one, add_lit, cell_blk (hw'.trans hpl34), Nat.zero_add]
        simpa using hpg
      generalize InfM.places.getD k 0 = pk at hinv hp19 ⊢
      have hPb : P ≠ b := by omega
      have ho34 := ho32.drew d34
      have hf34 : Fr (· = b) w w34 := hf32.trans' (.drew _ d34)
      rw [e3]
      refine (snumber_spec h34 (n := 3) (by omega)).mono ?_
      rintro e w40 ⟨hf40, hres⟩
      have hpl40 : w40.heap[P]? = w34.heap[P]? := by rw [hpl34]; exact hf40.keep hpl34 hPb
      have ho40 := ho34.keep hf40 (fun y hy e => by cases hy; dsimp only at e; omega)
      have hs40 := hf40.size
      have hs34 := (Fr.drew (fun _ => False) d34).size
      obtain ⟨a, ha, hc, hw, hset⟩ := ho40.set (i := pk) (by rw [List.length_map]; omega)
      have hstore : ∀ x : Nat, Own (w40.setCell (a.add pk) (.int .i64 (x : Int))) G T_int ⟨some ⟨G, 0, none⟩, 19, 19⟩ (nv (l'.set pk x)) ∧ Fr (fun k => k = G) w40 (w40.setCell (a.add pk) (.int .i64 (x : Int))) := fun x => by
        obtain ⟨h1, h2⟩ := hset (.int .i64 (x : Int))
        rw [show (nv l').set pk (.int .i64 (x : Int)) = nv (l'.set pk x) by simp [nv, List.map_set]] at h1
        exact ⟨h1, h2.mono fun k _ ⟨y, hy, e⟩ => by cases hy; exact e⟩
      rcases hres with ⟨x, p14, htk', rfl, h40⟩ | ⟨htk', rfl, h40⟩
      · rw [htk'] at hinv
        dsimp only at hinv
        refine ⟨_, rfl, hpl40, ⟨by omega, by dsimp only; omega⟩, a, ha, ?_⟩
        rw [Int.toNat_natCast, Nat.mul_one]
        refine ⟨hw, ?_⟩
        rintro w43 rfl
        obtain ⟨ho43, hf43⟩ := hstore x
        have hs43 := hf43.size
        exact ⟨⟨far (far hf34 hf40 (fun _ hh => .inl hh)) hf43 (fun k hh => .inr (by omega)), by omega, hf43.keep (hpl40.trans hpl34) (by omega), 0, p14, _, keepRS h40 hf43 (fun k hh => by omega), ho43, by rw [List.length_set]; exact hl', .inl ⟨rfl, hnl, hnd, k + 1, rfl, by omega, hinv⟩⟩, by dsimp only; omega⟩
      · rw [htk'] at hinv
        dsimp only at hinv
        refine ⟨_, rfl, hpl40, ⟨by omega, by dsimp only; omega⟩, a, ha, ?_⟩
        rw [Int.toNat_natCast, Nat.mul_one]
        refine ⟨hw, ?_⟩
        rintro w43 rfl
        obtain ⟨ho43, hf43⟩ := hstore 0
        have hs43 := hf43.size
        exact ⟨⟨far (far hf34 hf40 (fun _ hh => .inl hh)) hf43 (fun k hh => .inr (by omega)), Nat.lt_of_lt_of_le (by omega) hs43, hf43.keep (hpl40.trans hpl34) (by omega), 6, _, _, keepRS h40 hf43 (fun k hh => by omega), ho43, by rw [List.length_set]; exact hl', .inr ⟨by decide, hinv⟩⟩, by dsimp only; omega⟩
    · have hge := of_decide_eq_false hge
      have hkk : k = nc := by omega
      subst hkk
      rw [List.drop_of_length_le (by omega), InfM.firsts] at hinv
      exact ⟨hf32, hP32, 0, px, l', h32, ho32, hl', .inl ⟨rfl, hinv, hnl, hnd⟩⟩
  rintro w44 ⟨hf44, hP44, er', px, l', h44, ho44, hl', hcase44⟩
  have hchk : InfM.chkN l' = chk (l'.map Int.ofNat) := rfl
  refine ⟨fun w' => Fr (· = b) w w' ∧ P < w'.heap.size ∧ ∃ er', RS w' base b bl0 sl B px out most er' ∧ Own w' G T_int ⟨some ⟨G, 0, none⟩, 19, 19⟩ (nv l') ∧ ((er' = 0 ∧ T = InfM.tabs2 B nl nd px l' ∧ InfM.chkN l' = 0 ∧ nl ≤ 286 ∧ nd ≤ 30) ∨ (er' ≠ 0 ∧ T = .error er')), ?_, ?_⟩
  · rcases hcase44 with ⟨rfl, hT2, hnl, hnd⟩ | ⟨he, hTe⟩
    · refine ⟨_, h44.c4, fun _ => ?_, fun hh => (by simp at hh)⟩
      have hoi := ho44
      rw [← iv_ofNat] at hoi
      refine (check_spec hoi.reads (n := 19) (by rw [List.length_map, hl'])).mono ?_
      rintro e w48 ⟨rfl, hw⟩
      replace hw := hw.symm
      subst hw
      rw [← hchk]
      refine ⟨_, rfl, fun hne => ?_, fun heq => ?_⟩
      · have hne : InfM.chkN l' ≠ 0 := by simpa using hne
        refine (fail_spec h44 3).mono ?_
        rintro e w51 ⟨rfl, h51, hf51⟩
        have hs51 := hf51.size
        exact ⟨rfl, hf44.trans' hf51, by omega, 3, h51, ho44.keep hf51 (fun y hy e => by cases hy; dsimp only at e; omega), .inr ⟨by decide, by rw [hT2, InfM.tabs2, if_pos hne]⟩⟩
      · have heq : InfM.chkN l' = 0 := by simpa using heq
        exact ⟨hf44, hP44, 0, h44, ho44, .inl ⟨rfl, hT2, heq, hnl, hnd⟩⟩
    · exact ⟨_, h44.c4, fun hh => (he (by simpa using hh)).elim, fun _ => ⟨hf44, hP44, er', h44, ho44, .inr ⟨he, hTe⟩⟩⟩
  clear hcase44 h44 ho44 hf44 hP44
  rintro w52 ⟨hf52, hP52, er2, h52, ho52, ⟨rfl, hT2, hchk0, hnl, hnd⟩ | ⟨he, hTe⟩⟩
  rotate_left 1
  · exact ⟨_, h52.c4, fun _ => bad hf52 h52 he hTe, fun hh => (he (by simpa using hh)).elim⟩
  rw [InfM.tabs2, if_neg (by omega)] at hT2
  refine ⟨_, h52.c4, fun hh => (by simp at hh), fun _ => ?_⟩
  have hlf := InfM.chk_fits hchk0
  refine (codes_spec ho52.reads (n := 19) hl' hlf (by omega)).mono ?_
  rintro e w55 ⟨o, rfl, hc55, hf55⟩
  refine ⟨o, rfl, fun w57 h57w => ?_⟩
  have h55 := keepRS h52 hf55 (fun _ hh => hh.elim)
  have hf57 : Fr (fun _ => False) w55 w57 := h57w ▸ Fr.alloc _ _ _
  have h57 := keepRS h55 hf57 (fun _ hh => hh.elim)
  have hs52 := hf52.size
  have hs55 := hf55.size
  have hc57 := hc55.keep hf57 (by simp) (by simp)
  have hf57' : Fr (· = b) w w57 := far (far hf52 hf55 (fun _ hh => hh.elim)) hf57 (fun _ hh => hh.elim)
  have ho57 : Own w57 w55.heap.size T_int ⟨some ⟨w55.heap.size, 0, none⟩, 0, 0⟩ [] := h57w ▸ own_empty w55 T_int
  have hob := hc55.oblk
  generalize hlo : w52.heap.size = lo at *
  generalize hhi : w55.heap.size = H at *
  obtain ⟨tot, htot⟩ : ∃ tot, nl + nd = tot := ⟨_, rfl⟩
  rw [htot] at hT2 ⊢
  generalize hCL : InfM.clens l' tot B (tot + 1) px [] = CL at hT2
  have tbad : ∀ {e : Nat}, CL = .error e → T = .error e := fun hx => by rw [hx] at hT2; exact hT2
  have kc : ∀ {w1 w2 : World} {Y : Nat → Prop}, BitRows w1 lo lo H o ((List.range l'.length).map (cbits l')) → Fr Y w1 w2 → (∀ k, Y k → k = b ∨ H ≤ k) → BitRows w2 lo lo H o ((List.range l'.length).map (cbits l')) := fun hb hf hY =>
    hb.keep hf (fun x hx hh => by have := hY _ hh; have := hob x hx; omega) (fun k h1 h2 hh => by have := hY _ hh; omega)
  -- the lengths of the codes
  refine ⟨fun l w' => Fr (· = b) w w' ∧ ((∃ q xs, CL = .ok (xs, q) ∧ xs.length = tot ∧ RS w' base b bl0 sl B q out most 0 ∧ Own w' H T_int l (nv xs)) ∨ (∃ er q, er ≠ 0 ∧ CL = .error er ∧ RS w' base b bl0 sl B q out most er)), ?_, ?_⟩
  · refine ⟨fun l w' => Fr (· = b) w w' ∧ H ≤ w'.heap.size ∧ ((∃ (q : Nat) (xs : List Nat) (f : Nat), CL = InfM.clens l' tot B f q xs ∧ tot + 1 ≤ f + xs.length ∧ xs.length ≤ tot ∧ RS w' base b bl0 sl B q out most 0 ∧ Own w' H T_int l (nv xs) ∧ BitRows w' lo lo H o ((List.range l'.length).map (cbits l'))) ∨ (∃ er q, er ≠ 0 ∧ CL = .error er ∧ RS w' base b bl0 sl B q out most er)),
      fun l w' => 2 * (tot - l.len) + (1 - cellNat w' ⟨b, 4, none⟩), ⟨hf57', by have := hf57.size; omega, .inl ⟨px, [], tot + 1, hCL.symm, by simp, Nat.zero_le _, h57, ho57, hc57⟩⟩, ?_⟩
    rintro l61 w62 ⟨hf62, hH62, ⟨q, xs, f, hcl, hfx, hxl, h62, ho62, hc62⟩ | ⟨er, q, he, hce, h62⟩⟩
    rotate_left 1
    · exact ⟨fun _ => ⟨_, h62.c4, fun hh => (he (by simpa using hh)).elim, fun _ => ⟨hf62, .inr ⟨er, q, he, hce, h62⟩⟩⟩, fun _ => ⟨hf62, .inr ⟨er, q, he, hce, h62⟩⟩⟩
    have hll : l61.len = xs.length := by rw [ho62.len, List.length_map]
    obtain ⟨f, rfl⟩ : ∃ g, f = g + 1 := ⟨f - 1, by omega⟩
    refine ⟨fun hlt => ⟨_, h62.c4, fun _ => ?_, fun hh => (by simp at hh)⟩, fun hge => ?_⟩
    rotate_left 1
    · have hge := of_decide_eq_false hge
      rw [InfM.clens, if_pos (by omega)] at hcl
      exact ⟨hf62, .inl ⟨q, xs, hcl, by omega, h62, ho62⟩⟩
    have hlt := of_decide_eq_true hlt
    have hxt : xs.length < tot := by omega
    refine (ssym_spec h62 hc62 hlf (by omega)).mono ?_
    rintro e w65 ⟨hf65, hres⟩
    have hf65' := hf62.trans' hf65
    have hs65 := hf65.size
    have ho65 := ho62.keep hf65 (fun y hy e => by have := (ho62.blk hy).1; omega)
    have hc65 := kc hc62 hf65 (fun _ hh => .inl hh)
    -- after an error nothing is appended
    have stuck : ∀ {w' : World} {er q : Nat} (t wh : Int), Fr (· = b) w w' → H ≤ w'.heap.size → RS w' base b bl0 sl B q out most er → er ≠ 0 → CL = .error er → Fr (· = b) w w' ∧ H ≤ w'.heap.size ∧ ((∃ (K what q2 : Nat), t = (K : Int) ∧ wh = (what : Int) ∧ 1 ≤ K ∧ K ≤ 200 ∧ RS w' base b bl0 sl B q2 out most 0 ∧ Own w' H T_int l61 (nv xs) ∧ BitRows w' lo lo H o ((List.range l'.length).map (cbits l')) ∧ CL = (if tot < xs.length + K then .error 3 else InfM.clens l' tot B f q2 (xs ++ List.replicate K what))) ∨ (∃ er q, er ≠ 0 ∧ CL = .error er ∧ RS w' base b bl0 sl B q out most er)) :=
      fun t wh hf hs hx he hc => ⟨hf, hs, .inr ⟨_, _, he, hc, hx⟩⟩
    obtain ⟨v, rfl, hv⟩ : ∃ v : Nat, e = .returned (.int .i64 (v : Int)) ∧ ((∃ q1, InfM.sym l' B q = .ok (v, q1) ∧ v < 19 ∧ RS w65 base b bl0 sl B q1 out most 0) ∨ (∃ er, er ≠ 0 ∧ v = 0 ∧ CL = .error er ∧ RS w65 base b bl0 sl B q out most er)) := by
      rcases hres with ⟨s, q1, hsy, rfl, hsl, hq1, h65⟩ | ⟨er, he, hsy, rfl, h65⟩
      · exact ⟨s, rfl, .inl ⟨q1, hsy, by omega, h65⟩⟩
      · rw [InfM.clens, if_neg (by omega), hsy] at hcl
        exact ⟨0, rfl, .inr ⟨er, he, rfl, hcl, h65⟩⟩
    refine ⟨_, rfl, fun t wh w' => Fr (· = b) w w' ∧ H ≤ w'.heap.size ∧ ((∃ (K what q2 : Nat), t = (K : Int) ∧ wh = (what : Int) ∧ 1 ≤ K ∧ K ≤ 200 ∧ RS w' base b bl0 sl B q2 out most 0 ∧ Own w' H T_int l61 (nv xs) ∧ BitRows w' lo lo H o ((List.range l'.length).map (cbits l')) ∧ CL = (if tot < xs.length + K then .error 3 else InfM.clens l' tot B f q2 (xs ++ List.replicate K what))) ∨ (∃ er q, er ≠ 0 ∧ CL = .error er ∧ RS w' base b bl0 sl B q out most er)), ?_, ?_⟩
    · rcases hv with ⟨q1, hsy, hsl, h65⟩ | ⟨er, he, rfl, hcl, h65⟩
      rotate_left 1
      · exact ⟨fun hh => (by simp at hh), fun _ => ⟨fun hh => (by simp at hh), fun _ => ⟨fun hh => (by simp at hh), fun _ => stuck _ _ hf65' (by omega) h65 he hcl⟩⟩⟩
      rw [clens_step hxt hsy] at hcl
      refine ⟨fun h16 => ?_, fun hn16 => ⟨fun h17 => ?_, fun hn17 => ⟨fun h18 => ?_, fun hn18 => ?_⟩⟩⟩
      · have h16 : v = 16 := by have := eq_of_beq h16; omega
        subst h16
        rw [if_neg (show ¬ 16 < 16 by omega)] at hcl
        refine ⟨fun h0 => ?_, fun hn0 => ?_⟩
        · have h0 : xs = [] := by
            have := eq_of_beq h0
            exact List.length_eq_zero_iff.1 (by omega)
          rw [if_pos ⟨rfl, h0⟩] at hcl
          refine (fail_spec h65 3).mono ?_
          rintro e w69 ⟨rfl, h69, hf69⟩
          exact ⟨rfl, bad (hf65'.trans' hf69) h69 (by decide) (tbad hcl)⟩
        · have hne : xs ≠ [] := fun hh => by rw [hll, hh] at hn0; simp at hn0
          have hpos : 0 < xs.length := List.length_pos_iff.2 hne
          rw [if_neg (fun hh => hne hh.2)] at hcl
          have e1 : IntKind.i64.wrap ((l61.len : Int) - 1) = ((xs.length - 1 : Nat) : Int) := by rw [hll, wrap_i64 (by omega) (by omega)]; omega
          rw [e1]
          obtain ⟨a, ha, hc⟩ := ho65.reads _ _ (show (nv xs)[xs.length - 1]? = some (.int .i64 ((xs.getLastD 0 : Nat) : Int)) by
            rw [nv, List.getElem?_map, List.getLastD_eq_getLast?, List.getLast?_eq_getElem?]
            rw [List.getElem?_eq_getElem (by omega)]; rfl)
          refine ⟨⟨by omega, by omega⟩, a, ha, _, by rw [Int.toNat_natCast, Nat.mul_one]; exact hc, ?_⟩
          refine (snumber_spec h65 (n := 2) (by omega)).mono ?_
          rintro e w73 ⟨hf73, ⟨m, q2, htk, rfl, h73⟩ | ⟨htk, rfl, h73⟩⟩
          · have hm := (take_ok htk).2.2.2
            have hs73 := hf73.size
            rw [show (if 16 = 16 then 2 else if 16 = 17 then 3 else 7) = 2 from rfl, htk] at hcl
            exact ⟨_, rfl, hf65'.trans' hf73, by omega, .inl ⟨3 + m, xs.getLastD 0, q2, by rw [wrap_i64 (by omega) (by omega)]; omega, rfl, by omega, by omega, h73, ho65.keep hf73 (fun y hy e => by have := (ho65.blk hy).1; omega), kc hc65 hf73 (fun _ hh => .inl hh), hcl⟩⟩
          · rw [show (if 16 = 16 then 2 else if 16 = 17 then 3 else 7) = 2 from rfl, htk] at hcl
            have hs73 := hf73.size
            exact ⟨_, rfl, stuck _ _ (hf65'.trans' hf73) (by omega) h73 (by decide) hcl⟩
      · have h17 : v = 17 := by have := eq_of_beq h17; omega
        subst h17
        rw [if_neg (show ¬ 17 < 16 by omega), if_neg (fun hh => by omega)] at hcl
        refine (snumber_spec h65 (n := 3) (by omega)).mono ?_
        rintro e w76 ⟨hf76, ⟨m, q2, htk, rfl, h76⟩ | ⟨htk, rfl, h76⟩⟩
        · have hm := (take_ok htk).2.2.2
          have hs76 := hf76.size
          rw [show (if 17 = 16 then 2 else if 17 = 17 then 3 else 7) = 3 from rfl, htk] at hcl
          exact ⟨_, rfl, hf65'.trans' hf76, by omega, .inl ⟨3 + m, 0, q2, by rw [wrap_i64 (by omega) (by omega)]; omega, rfl, by omega, by omega, h76, ho65.keep hf76 (fun y hy e => by have := (ho65.blk hy).1; omega), kc hc65 hf76 (fun _ hh => .inl hh), hcl⟩⟩
        · rw [show (if 17 = 16 then 2 else if 17 = 17 then 3 else 7) = 3 from rfl, htk] at hcl
          have hs76 := hf76.size
          exact ⟨_, rfl, stuck _ _ (hf65'.trans' hf76) (by omega) h76 (by decide) hcl⟩
      · have h18 : v = 18 := by have := eq_of_beq h18; omega
        subst h18
        rw [if_neg (show ¬ 18 < 16 by omega), if_neg (fun hh => by omega)] at hcl
        refine (snumber_spec h65 (n := 7) (by omega)).mono ?_
        rintro e w79 ⟨hf79, ⟨m, q2, htk, rfl, h79⟩ | ⟨htk, rfl, h79⟩⟩
        · have hm := (take_ok htk).2.2.2
          have hs79 := hf79.size
          rw [show (if 18 = 16 then 2 else if 18 = 17 then 3 else 7) = 7 from rfl, htk] at hcl
          exact ⟨_, rfl, hf65'.trans' hf79, by omega, .inl ⟨11 + m, 0, q2, by rw [wrap_i64 (by omega) (by omega)]; omega, rfl, by omega, by omega, h79, ho65.keep hf79 (fun y hy e => by have := (ho65.blk hy).1; omega), kc hc65 hf79 (fun _ hh => .inl hh), hcl⟩⟩
        · rw [show (if 18 = 16 then 2 else if 18 = 17 then 3 else 7) = 7 from rfl, htk] at hcl
          have hs79 := hf79.size
          exact ⟨_, rfl, stuck _ _ (hf65'.trans' hf79) (by omega) h79 (by decide) hcl⟩
      · have hs16 : v < 16 := by
          have h1 : v ≠ 16 := fun hh => by subst hh; simp at hn16
          have h2 : v ≠ 17 := fun hh => by subst hh; simp at hn17
          have h3 : v ≠ 18 := fun hh => by subst hh; simp at hn18
          omega
        rw [if_pos hs16] at hcl
        exact ⟨hf65', by omega, .inl ⟨1, v, q1, rfl, rfl, by omega, by omega, h65, ho65, hc65, hcl⟩⟩
    rintro t wh w83 ⟨hf83, hH83, hJ⟩
    refine ⟨fun w' => Fr (· = b) w w' ∧ H ≤ w'.heap.size ∧ ((∃ (K what q2 : Nat), t = (K : Int) ∧ wh = (what : Int) ∧ 1 ≤ K ∧ K ≤ 200 ∧ xs.length + K ≤ tot ∧ RS w' base b bl0 sl B q2 out most 0 ∧ Own w' H T_int l61 (nv xs) ∧ BitRows w' lo lo H o ((List.range l'.length).map (cbits l')) ∧ CL = InfM.clens l' tot B f q2 (xs ++ List.replicate K what)) ∨ (∃ er q, er ≠ 0 ∧ CL = .error er ∧ RS w' base b bl0 sl B q out most er)), ?_, ?_⟩
    · rcases hJ with ⟨K, what, q2, rfl, rfl, hK1, hK2, h83, ho83, hc83, hcl⟩ | ⟨er, q, he, hce, h83⟩
      · have ek : IntKind.i64.wrap ((l61.len : Int) + (K : Int)) = ((xs.length + K : Nat) : Int) := by rw [hll, wrap_i64 (by omega) (by omega)]; omega
        rw [ek]
        refine ⟨_, h83.c4, fun _ => ⟨fun hgt => ?_, fun hle => ?_⟩, fun hh => (by simp at hh)⟩
        · have hgt := of_decide_eq_true hgt
          rw [if_pos (by omega)] at hcl
          refine (fail_spec h83 3).mono ?_
          rintro e w87 ⟨rfl, h87, hf87⟩
          have := hf87.size
          exact ⟨rfl, hf83.trans' hf87, by omega, .inr ⟨3, _, by decide, hcl, h87⟩⟩
        · have hle := of_decide_eq_false hle
          rw [if_neg (by omega)] at hcl
          exact ⟨hf83, hH83, .inl ⟨K, what, q2, rfl, rfl, hK1, hK2, by omega, h83, ho83, hc83, hcl⟩⟩
      · exact ⟨_, h83.c4, fun hh => (he (by simpa using hh)).elim, fun _ => ⟨hf83, hH83, .inr ⟨er, q, he, hce, h83⟩⟩⟩
    rintro w88 ⟨hf88, hH88, hJ8⟩
    have herr62 := h62.err
    refine ⟨fun l i w' => Fr (· = b) w w' ∧ H ≤ w'.heap.size ∧ ((∃ (K what q2 k : Nat), t = (K : Int) ∧ wh = (what : Int) ∧ i = (k : Int) ∧ k ≤ K ∧ 1 ≤ K ∧ K ≤ 200 ∧ xs.length + K ≤ tot ∧ RS w' base b bl0 sl B q2 out most 0 ∧ Own w' H T_int l (nv (xs ++ List.replicate k what)) ∧ BitRows w' lo lo H o ((List.range l'.length).map (cbits l')) ∧ CL = InfM.clens l' tot B f q2 (xs ++ List.replicate K what)) ∨ (l61.len ≤ l.len ∧ ∃ er q, er ≠ 0 ∧ CL = .error er ∧ RS w' base b bl0 sl B q out most er)),
      fun _ i _ => (t - i).toNat, ⟨hf88, hH88, hJ8.imp (fun ⟨K, what, q2, g1, g2, g3, g4, g5, g6, g7, g8, g9⟩ => ⟨K, what, q2, 0, g1, g2, rfl, Nat.zero_le _, g3, g4, g5, g6, by simpa using g7, g8, g9⟩) (fun hh => ⟨Nat.le_refl _, hh⟩)⟩, ?_⟩
    rintro l91 i w93 ⟨hf93, hH93, ⟨K, what, q2, k, rfl, rfl, rfl, hk, hK1, hK2, hKt, h93, ho93, hc93, hcl⟩ | ⟨hlen, er, q, he, hce, h93⟩⟩
    rotate_left 1
    · have done : (Fr (· = b) w w93 ∧ H ≤ w93.heap.size ∧ ((∃ (q : Nat) (xs : List Nat) (f : Nat), CL = InfM.clens l' tot B f q xs ∧ tot + 1 ≤ f + xs.length ∧ xs.length ≤ tot ∧ RS w93 base b bl0 sl B q out most 0 ∧ Own w93 H T_int l91 (nv xs) ∧ BitRows w93 lo lo H o ((List.range l'.length).map (cbits l'))) ∨ (∃ er q, er ≠ 0 ∧ CL = .error er ∧ RS w93 base b bl0 sl B q out most er))) ∧
          2 * (tot - l91.len) + (1 - cellNat w93 ⟨b, 4, none⟩) < 2 * (tot - l61.len) + (1 - cellNat w62 ⟨b, 4, none⟩) :=
        ⟨⟨hf93, hH93, .inr ⟨er, q, he, hce, h93⟩⟩, by rw [h93.err, herr62]; omega⟩
      exact ⟨fun _ => ⟨_, h93.c4, fun hh => (he (by simpa using hh)).elim, fun _ => done⟩, fun _ => done⟩
    have e3 : IntKind.i64.wrap ((k : Int) + 1) = ((k + 1 : Nat) : Int) := by rw [wrap_i64 (by omega) (by omega)]; omega
    rw [e3]
    have hnl' : (nv (xs ++ List.replicate k what)).length = xs.length + k := by simp
    refine ⟨fun hlt => ⟨_, h93.c4, fun _ w95 h95 => ?_, fun hh => (by simp at hh)⟩, fun hge => ?_⟩
    · have hlt := of_decide_eq_true hlt
      obtain ⟨w96, l97, hr, ho96, hf96, _⟩ := append_one' elInt ho93 (v := .int .i64 (what : Int)) rfl (by rw [hnl']; unfold maxLen; omega) (by rw [hnl']; omega) hH93 h95
      rw [nv_snoc, List.append_assoc, ← List.replicate_succ'] at ho96
      have hY : ∀ k, At l91 k → H ≤ k := fun k ⟨y, hy, e⟩ => by have := (ho93.blk hy).1; omega
      have hs96 := hf96.size
      exact ⟨w96, l97, hr, ⟨far hf93 hf96 (fun k hh => .inr (by have := hY k hh; omega)), by omega, .inl ⟨K, what, q2, k + 1, rfl, rfl, rfl, by omega, hK1, hK2, hKt, keepRS h93 hf96 (fun k hh => by have := hY k hh; omega), ho96, kc hc93 hf96 (fun k hh => .inr (hY k hh)), hcl⟩⟩, by dsimp only; omega⟩
    · have hge := of_decide_eq_false hge
      have hkK : k = K := by omega
      subst hkK
      have hl91 : l91.len = xs.length + k := by rw [ho93.len, hnl']
      exact ⟨⟨hf93, hH93, .inl ⟨q2, _, f, hcl, by simp; omega, by simp; omega, h93, ho93, hc93⟩⟩, by dsimp only; rw [h93.err, herr62]; omega⟩
  rintro l98 w99 ⟨hf99, ⟨q, xs, hcl, hxt, h99, ho99⟩ | ⟨er, q, he, hce, h99⟩⟩
  rotate_left 1
  · exact ⟨_, h99.c4, fun _ => bad hf99 h99 he (tbad hce), fun hh => (he (by simpa using hh)).elim⟩
  rw [hcl] at hT2
  dsimp only at hT2
  have hll : l98.len = xs.length := by rw [ho99.len, List.length_map]
  have hcap := ho99.cap
  have hr1 : Reads w99 (subA l98.a l98.cap 0 1) (nv (xs.take nl)) := by
    have := ((ho99.reads).sub (cap := l98.cap) (by rw [List.length_map]; omega) 0).take nl
    simpa [nv, List.map_take] using this
  have hr2 : Reads w99 (subA l98.a l98.cap nl 1) (nv (xs.drop nl)) := by
    have := (ho99.reads).sub (cap := l98.cap) (by rw [List.length_map]; omega) nl
    simpa [nv, List.map_drop] using this
  obtain ⟨a, ha, hc⟩ := ho99.reads 256 (.int .i64 ((xs.getD 256 0 : Nat) : Int)) (by
    rw [nv, List.getElem?_map, List.getD_eq_getElem?_getD, List.getElem?_eq_getElem (by omega)]; rfl)
  have hc1 : InfM.chkN (xs.take nl) = chk ((xs.take nl).map Int.ofNat) := rfl
  have hc2 : InfM.chkN (xs.drop nl) = chk ((xs.drop nl).map Int.ofNat) := rfl
  rw [Int.toNat_natCast]
  refine ⟨_, h99.c4, fun hh => (by simp at hh), fun _ => ⟨⟨by decide, by omega⟩, a, ha, _, hc, fun h0 => ?_, fun hn0 => ?_⟩⟩
  · have h0 := eq_of_beq h0
    rw [if_pos (.inl (by omega))] at hT2
    refine (fail_spec h99 3).mono ?_
    rintro e w104 ⟨rfl, h104, hf104⟩
    exact ⟨rfl, bad (hf99.trans' hf104) h104 (by decide) hT2⟩
  have hn0 : xs.getD 256 0 ≠ 0 := fun hh => by rw [hh] at hn0; simp at hn0
  refine ⟨⟨by omega, by omega⟩, ?_⟩
  refine (check_spec (n := nl) (by rw [iv_ofNat]; exact hr1) (by simp; omega)).mono ?_
  rintro e w106 ⟨rfl, hw⟩
  replace hw := hw.symm
  subst hw
  rw [← hc1]
  refine ⟨_, rfl, fun h1 => ?_, fun hn1 => ?_⟩
  · have h1 : InfM.chkN (xs.take nl) ≠ 0 := by simpa using h1
    rw [if_pos (.inr (.inl h1))] at hT2
    refine (fail_spec h99 3).mono ?_
    rintro e w109 ⟨rfl, h109, hf109⟩
    exact ⟨rfl, bad (hf99.trans' hf109) h109 (by decide) hT2⟩
  have hn1 : InfM.chkN (xs.take nl) = 0 := by simpa using hn1
  refine ⟨⟨by omega, by omega⟩, ?_⟩
  refine (check_spec (n := l98.len - nl) (by rw [iv_ofNat]; exact hr2) (by simp; omega)).mono ?_
  rintro e w111 ⟨rfl, hw⟩
  replace hw := hw.symm
  subst hw
  rw [← hc2]
  refine ⟨_, rfl, fun h2 => ?_, fun hn2 => ?_⟩
  · have h2 : InfM.chkN (xs.drop nl) ≠ 0 := by simpa using h2
    rw [if_pos (.inr (.inr h2))] at hT2
    refine (fail_spec h99 3).mono ?_
    rintro e w114 ⟨rfl, h114, hf114⟩
    exact ⟨rfl, bad (hf99.trans' hf114) h114 (by decide) hT2⟩
  have hn2 : InfM.chkN (xs.drop nl) = 0 := by simpa using hn2
  rw [if_neg (fun hh => by rcases hh with hh | hh | hh <;> omega)] at hT2
  refine ⟨⟨by omega, by omega⟩, ⟨by omega, by omega⟩, fun w115 d115 => ?_⟩
  exact ⟨hf99.trans' (.drew _ d115), ⟨_, _, _⟩, ⟨_, _, _⟩, rfl, .inl ⟨_, _, q, hT2, h99.drew d115, hr1.keep (.drew (fun _ => False) d115) (by simp), by simp; omega, hr2.keep (.drew (fun _ => False) d115) (by simp), by simp; omega, hn1, hn2, by simp; omega, by simp; omega⟩⟩
end Go.Proofs.Ytofejgaanpaieaa

/- Texts of this seat in one: made by a program of ours. -/
import Derived.Test.YtaaimcbicpgjoaaGreatDoorCartularyPacksQ0
import Derived.Test.YtaaimcbicpgjoaaGreatDoorCartularyPacksQ1
import Derived.Test.YtaaimcbicpgjoaaGreatDoorCartularyPacksQ2
import Derived.Test.YtaaimcbicpgjoaaGreatDoorProg
import Derived.Laws.Strings
/- Plain laws on inflating: a stream that is cut short is told to be short. -/
set_option linter.unusedVariables false
namespace InfM
open BitsM HuffM Go.Proofs.YtaaimcbicpgjoaaGreatDoor
/-- What was read within the first L bits is read of these alone; what was read beyond them is told to be short. -/
def Cut {α : Type} (L : Nat) (r r' : E α) : Prop := ∀ v p', r = .ok (v, p') → r' = if p' ≤ L then .ok (v, p') else .error 6
theorem drop_cut (B : List Bool) (L p n : Nat) (h : p + n ≤ L) : ((B.take L).drop p).take n = (B.drop p).take n := by
  rw [List.drop_take, List.take_take, show min n (L - p) = n by omega]
theorem take_cut {B : List Bool} {L : Nat} (hL : L ≤ B.length) (n p : Nat) : Cut L (take B n p) (take (B.take L) n p) := fun v p' h => by
  have hl : (B.take L).length = L := by rw [List.length_take]; omega
  unfold take at h ⊢
  rw [hl]
  split at h
  · cases h
    split
    · rename_i h2; rw [drop_cut B L p n h2]
    · rfl
  · cases h
theorem At.cut {ls : List Nat} {b : List Bool} {s n k : Nat} (h : HuffM.At ls (b.take k) s n) : HuffM.At ls b s n := by
  obtain ⟨h1, h2, h3, h4⟩ := h
  rw [List.length_take] at h3
  rw [List.take_take, show min n k = n by omega] at h4
  exact ⟨h1, h2, by omega, h4⟩
theorem sym_cut {ls : List Nat} (hf : Fits ls) {B : List Bool} {L : Nat} (hL : L ≤ B.length) (p : Nat) (hp : p ≤ L) : Cut L (sym ls B p) (sym ls (B.take L) p) := fun v p' h => by
  unfold sym at h
  split at h
  · rename_i hx
    have ha := hx.choose_spec
    cases h
    generalize hx.choose = y at ha ⊢
    by_cases hle : p + y.2 ≤ L
    · rw [if_pos hle]
      refine sym_at ?_
      obtain ⟨h1, h2, h3, h4⟩ := ha
      exact ⟨h1, h2, by rw [List.length_drop, List.length_take]; omega, by rw [drop_cut B L p _ hle]; exact h4⟩
    · rw [if_neg hle]
      unfold sym
      have hno : ¬ ∃ x : Nat × Nat, HuffM.At ls ((B.take L).drop p) x.1 x.2 := fun ⟨x, hx'⟩ => by
        have h3 := hx'.2.2.1
        rw [List.length_drop, List.length_take] at h3
        rw [List.drop_take] at hx'
        have := ha.one (At.cut hx')
        omega
      rw [dif_neg hno, if_pos ?_]
      have hpre := (cbits_prefix hf ha.1 ha.2.1 (B.drop p)).2 ha
      have hcl : (cbits ls y.1).length = y.2 := by rw [cbits_length, List.getD_eq_getElem?_getD, ha.1]; rfl
      refine ⟨y.1, (List.getElem?_eq_some_iff.1 ha.1).1, by rw [hcl, List.length_drop, List.length_take]; omega, ?_⟩
      rw [List.drop_take]
      exact List.prefix_of_prefix_length_le (List.take_prefix _ _) hpre (by rw [hcl, List.length_take]; omega)
  · split at h <;> cases h
theorem firsts_cut {B : List Bool} {L : Nat} (hL : L ≤ B.length) : ∀ (r : List Nat) (p : Nat) (l : List Nat), p ≤ L → Cut L (firsts B r p l) (firsts (B.take L) r p l)
  | [], p, l, hp => fun v p' h => by
    rw [firsts] at h ⊢
    cases h
    rw [if_pos hp]
  | i :: r, p, l, hp => fun v p' h => by
    rw [firsts] at h ⊢
    split at h
    · cases h
    rename_i n p1 ht
    have h1 := take_cut hL 3 p _ _ ht
    have h2 := firsts_le _ _ _ _ _ h
    rw [h1]
    by_cases hle : p1 ≤ L
    · rw [if_pos hle]; exact firsts_cut hL r p1 _ hle _ _ h
    · rw [if_neg hle, if_neg (show ¬ p' ≤ L by omega)]
theorem clens_cut {cl : List Nat} (hf : Fits cl) {tot : Nat} {B : List Bool} {L : Nat} (hL : L ≤ B.length) : ∀ (f p : Nat) (l : List Nat), p ≤ L → Cut L (clens cl tot B f p l) (clens cl tot (B.take L) f p l)
  | 0, p, l, hp => fun v p' h => by cases h
  | f + 1, p, l, hp => fun v p' h => by
    rw [clens] at h ⊢
    split at h
    · rename_i h0
      cases h
      rw [if_pos h0, if_pos hp]
    rename_i h0
    rw [if_neg h0]
    split at h
    · cases h
    rename_i s p1 hs
    have h1 := sym_cut hf hL p hp _ _ hs
    rw [h1]
    by_cases hle : p1 ≤ L
    · rw [if_pos hle]
      simp only
      split at h
      · rename_i h16
        rw [if_pos h16]
        exact clens_cut hf hL f p1 _ hle _ _ h
      rename_i h16
      rw [if_neg h16]
      split at h
      · cases h
      rename_i h17
      rw [if_neg h17]
      split at h
      · cases h
      rename_i n p2 ht
      have h2 := take_cut hL _ p1 _ _ ht
      rw [h2]
      have key : ∀ k what, (if tot < l.length + k then (Except.error 3 : E (List Nat)) else clens cl tot B f p2 (l ++ List.replicate k what)) = .ok (v, p') →
          p2 ≤ p' ∧ (p2 ≤ L → (if tot < l.length + k then (Except.error 3 : E (List Nat)) else clens cl tot (B.take L) f p2 (l ++ List.replicate k what)) = if p' ≤ L then .ok (v, p') else .error 6) := fun k what h => by
        split at h
        · cases h
        · rename_i hk
          rw [if_neg hk]
          exact ⟨clens_le _ _ _ _ _ h, fun h2 => clens_cut hf hL f p2 _ h2 _ _ h⟩
      obtain ⟨k1, k2⟩ := key _ _ h
      by_cases hle2 : p2 ≤ L
      · rw [if_pos hle2]; exact k2 hle2
      · rw [if_neg hle2, if_neg (show ¬ p' ≤ L by omega)]
    · rw [if_neg hle, if_neg (c := p' ≤ L) ?_]
      have := clens_le (cl := cl) (tot := tot) (B := B) (f + 1) p l v p' (by rw [clens, if_neg h0, hs]; exact h)
      have hge : p1 ≤ p' := by
        simp only at h
        split at h
        · exact clens_le _ _ _ _ _ h
        split at h
        · cases h
        split at h
        · cases h
        rename_i n p2 ht
        have h2 := take_le ht
        have key : ∀ k what, (if tot < l.length + k then (Except.error 3 : E (List Nat)) else clens cl tot B f p2 (l ++ List.replicate k what)) = .ok (v, p') → p1 ≤ p' := fun k what h => by
          split at h
          · cases h
          · have := clens_le f _ _ _ _ h; omega
        exact key _ _ h
      omega
theorem chk_fits {ls : List Nat} (h : chkN ls = 0) : Fits ls := by
  unfold chkN chk at h
  rw [List.map_map, show (Int.toNat ∘ Int.ofNat) = id from rfl, List.map_id] at h
  split at h
  · cases h
  rename_i h1
  split at h
  · cases h
  rename_i h2
  split at h
  · cases h
  rename_i h3
  refine ⟨by omega, fun z hz => ?_⟩
  exact Nat.le_of_not_lt fun hl => h2 ⟨(z : Int), List.mem_map.2 ⟨z, hz, rfl⟩, .inr (by omega)⟩
theorem tables_cut {B : List Bool} {L : Nat} (hL : L ≤ B.length) (p : Nat) (hp : p ≤ L) : Cut L (tables B p) (tables (B.take L) p) := fun v p' h => by
  have hle := tables_le h
  obtain ⟨hd, p1, ht⟩ : ∃ hd p1, take B 14 p = .ok (hd, p1) := by
    cases ht : take B 14 p with
    | error e => rw [tables_err ht] at h; cases h
    | ok x => exact ⟨_, _, rfl⟩
  have c1 := take_cut hL 14 p _ _ ht
  rw [tables_ok ht] at h
  by_cases h1 : p1 ≤ L
  · rw [if_pos h1] at c1
    rw [tables_ok c1]
    rw [tabs1] at h ⊢
    split at h
    · cases h
    rename_i g1
    rw [if_neg g1]
    split at h
    · cases h
    rename_i first p2 hfi
    have c2 := firsts_cut hL _ p1 _ h1 _ _ hfi
    rw [c2]
    by_cases h2 : p2 ≤ L
    · rw [if_pos h2]
      simp only
      rw [tabs2] at h ⊢
      split at h
      · cases h
      rename_i g2
      rw [if_neg g2]
      split at h
      · cases h
      rename_i l p3 hcl
      have c3 := clens_cut (chk_fits (Classical.not_not.1 g2)) hL _ p2 _ h2 _ _ hcl
      rw [c3]
      split at h
      · cases h
      rename_i g3
      cases h
      by_cases h3 : p' ≤ L
      · rw [if_pos h3, if_pos h3]
        simp only
        rw [if_neg g3]
      · rw [if_neg h3, if_neg h3]
    · rw [if_neg h2, if_neg (show ¬ p' ≤ L from ?_)]
      rw [tabs2] at h
      split at h
      · cases h
      split at h
      · cases h
      rename_i hcl
      have := clens_le _ _ _ _ _ hcl
      split at h
      · cases h
      · cases h; omega
  · rw [if_neg h1] at c1
    rw [tables_err c1, if_neg (show ¬ p' ≤ L from ?_)]
    rw [tabs1] at h
    split at h
    · cases h
    split at h
    · cases h
    rename_i hfi
    have := firsts_le _ _ _ _ _ hfi
    rw [tabs2] at h
    split at h
    · cases h
    split at h
    · cases h
    rename_i hcl
    have := clens_le _ _ _ _ _ hcl
    split at h
    · cases h
    · cases h; omega
theorem rep_cut {dist : List Nat} (hf : Fits dist) {most : Nat} {B : List Bool} {L : Nat} (hL : L ≤ B.length) (s p : Nat) (out : List UInt8) (hp : p ≤ L) : Cut L (rep dist most B s p out) (rep dist most (B.take L) s p out) := fun v p' h => by
  unfold rep at h ⊢
  split at h
  · cases h
  rename_i g1
  rw [if_neg g1]
  split at h
  · cases h
  rename_i more p1 h1
  have c1 := take_cut hL _ p _ _ h1
  rw [c1]
  split at h
  · cases h
  rename_i d p2 h2
  have l2 := sym_le h2
  split at h
  · cases h
  rename_i g2
  split at h
  · cases h
  rename_i far p3 h3
  have l3 := take_le h3
  simp only at h
  split at h
  · cases h
  rename_i g3
  split at h
  · cases h
  rename_i g4
  cases h
  by_cases e1 : p1 ≤ L
  · rw [if_pos e1]
    simp only
    rw [sym_cut hf hL p1 e1 _ _ h2]
    by_cases e2 : p2 ≤ L
    · rw [if_pos e2]
      simp only
      rw [if_neg g2, take_cut hL _ p2 _ _ h3]
      by_cases e3 : p' ≤ L
      · rw [if_pos e3, if_pos e3]
        simp only
        rw [if_neg g3, if_neg g4]
      · rw [if_neg e3, if_neg e3]
    · rw [if_neg e2, if_neg (show ¬ p' ≤ L by omega)]
  · rw [if_neg e1, if_neg (show ¬ p' ≤ L by omega)]
theorem packed_le {lit dist : List Nat} {most : Nat} {B : List Bool} : ∀ (f p : Nat) (out out' : List UInt8) (p' : Nat), packed lit dist most B f p out = .ok (out', p') → p ≤ p'
  | 0, p, out, out', p', h => by cases h
  | f + 1, p, out, out', p', h => by
    rw [packed] at h
    split at h
    · cases h
    rename_i s p1 h1
    have l1 := sym_le h1
    split at h
    · cases h; exact l1
    split at h
    · split at h
      · cases h
      · have := packed_le f _ _ _ _ h; omega
    split at h
    · cases h
    rename_i o p2 h2
    have l2 := rep_le h2
    have := packed_le f _ _ _ _ h
    omega
theorem sym_lt {ls : List Nat} {B : List Bool} {p x p' : Nat} (h : sym ls B p = .ok (x, p')) : p < p' := by
  unfold sym at h
  split at h
  · rename_i hx
    have := hx.choose_spec.2.1
    cases h; omega
  · split at h <;> cases h
theorem packed_cut {lit dist : List Nat} (hl : Fits lit) (hd : Fits dist) {most : Nat} {B : List Bool} {L : Nat} (hL : L ≤ B.length) : ∀ (f f' p : Nat) (out : List UInt8), p ≤ L → L + 1 ≤ f' + p → Cut L (packed lit dist most B f p out) (packed lit dist most (B.take L) f' p out)
  | 0, f', p, out, hp, hf => fun v p' h => by cases h
  | f + 1, f', p, out, hp, hf => fun v p' h => by
    obtain ⟨f', rfl⟩ : ∃ g, f' = g + 1 := ⟨f' - 1, by omega⟩
    rw [packed] at h ⊢
    split at h
    · cases h
    rename_i s p1 h1
    have l1 := sym_lt h1
    rw [sym_cut hl hL p hp _ _ h1]
    by_cases e1 : p1 ≤ L
    · rw [if_pos e1]
      simp only
      split at h
      · rename_i g1
        cases h
        rw [if_pos g1, if_pos e1]
      rename_i g1
      rw [if_neg g1]
      split at h
      · rename_i g2
        rw [if_pos g2]
        split at h
        · cases h
        rename_i g3
        rw [if_neg g3]
        exact packed_cut hl hd hL f f' p1 _ e1 (by omega) _ _ h
      rename_i g2
      rw [if_neg g2]
      split at h
      · cases h
      rename_i o p2 h2
      have l2 := rep_le h2
      rw [rep_cut hd hL s p1 out e1 _ _ h2]
      by_cases e2 : p2 ≤ L
      · rw [if_pos e2]
        exact packed_cut hl hd hL f f' p2 _ e2 (by omega) _ _ h
      · have := packed_le f _ _ _ _ h
        rw [if_neg e2, if_neg (show ¬ p' ≤ L by omega)]
    · rw [if_neg e1, if_neg (show ¬ p' ≤ L from ?_)]
      split at h
      · cases h; omega
      split at h
      · split at h
        · cases h
        · have := packed_le f _ _ _ _ h; omega
      split at h
      · cases h
      rename_i o p2 h2
      have l2 := rep_le h2
      have := packed_le f _ _ _ _ h
      omega
theorem stored_cut {most : Nat} {B : List Bool} {L : Nat} (hL : L ≤ B.length) (p : Nat) (out : List UInt8) (hp : p ≤ L) : Cut L (stored most B p out) (stored most (B.take L) p out) := fun v p' h => by
  have hl : (B.take L).length = L := by rw [List.length_take]; omega
  unfold stored at h ⊢
  simp only at h ⊢
  rw [hl]
  generalize (p + 7) / 8 * 8 = q at h ⊢
  split at h
  · split at h
    · cases h
    rename_i g1
    split at h
    · split at h
      · cases h
      rename_i g2 g3
      cases h
      by_cases e1 : q + 32 ≤ L
      · rw [if_pos e1, drop_cut B L q 16 (by omega), drop_cut B L (q + 16) 16 (by omega), if_neg g1]
        generalize num ((B.drop q).take 16) = n at g1 g2 g3 ⊢
        by_cases e2 : q + 32 + 8 * n ≤ L
        · rw [if_pos e2, if_neg g3, if_pos e2]
          have : bytesAt (B.take L) n (q + 32) = bytesAt B n (q + 32) := by
            unfold bytesAt
            refine List.map_congr_left fun i hi => ?_
            have := List.mem_range.1 hi
            rw [drop_cut B L _ 8 (by omega)]
          rw [this]
        · rw [if_neg e2, if_neg (by omega), if_neg e2]
      · rw [if_neg e1, if_neg (by omega)]
    · split at h <;> cases h
  · cases h
theorem tables_chk {B : List Bool} {p p' : Nat} {lit dist : List Nat} (h : tables B p = .ok ((lit, dist), p')) : Fits lit ∧ Fits dist := by
  unfold tables at h
  split at h
  · cases h
  simp only at h
  split at h
  · cases h
  split at h
  · cases h
  split at h
  · cases h
  split at h
  · cases h
  split at h
  · cases h
  rename_i g
  cases h
  exact ⟨chk_fits (Classical.not_not.1 fun hh => g (.inr (.inl hh))), chk_fits (Classical.not_not.1 fun hh => g (.inr (.inr hh)))⟩
theorem block_le {most : Nat} {B : List Bool} {kind p p' : Nat} {out out' : List UInt8} (h : block most B kind p out = .ok (out', p')) : p ≤ p' := by
  unfold block at h
  split at h
  · exact stored_le h
  split at h
  · exact packed_le _ _ _ _ _ h
  split at h
  · split at h
    · cases h
    rename_i h1
    have := tables_le h1
    have := packed_le _ _ _ _ _ h
    omega
  · cases h
theorem block_cut {most : Nat} {B : List Bool} {L : Nat} (hL : L ≤ B.length) (kind p : Nat) (out : List UInt8) (hp : p ≤ L) : Cut L (block most B kind p out) (block most (B.take L) kind p out) := fun v p' h => by
  have hl : (B.take L).length = L := by rw [List.length_take]; omega
  unfold block at h ⊢
  rw [hl]
  split at h
  · rename_i g; rw [if_pos g]; exact stored_cut hL p out hp _ _ h
  rename_i g; rw [if_neg g]
  split at h
  · rename_i g; rw [if_pos g]; exact packed_cut (chk_fits fixedLit_chk) (chk_fits fixedDist_chk) hL _ _ p out hp (by omega) _ _ h
  rename_i g; rw [if_neg g]
  split at h
  · rename_i g
    rw [if_pos g]
    split at h
    · cases h
    rename_i lit dist p1 h1
    have hc := tables_chk h1
    rw [tables_cut hL p hp _ _ h1]
    by_cases e1 : p1 ≤ L
    · rw [if_pos e1]
      exact packed_cut hc.1 hc.2 hL _ _ p1 out e1 (by omega) _ _ h
    · have := packed_le _ _ _ _ _ h
      rw [if_neg e1, if_neg (show ¬ p' ≤ L by omega)]
  · cases h
theorem blocks_le {most : Nat} {B : List Bool} : ∀ (f p : Nat) (out out' : List UInt8) (p' : Nat), blocks most B f p out = .ok (out', p') → p ≤ p'
  | 0, p, out, out', p', h => by cases h
  | f + 1, p, out, out', p', h => by
    rw [blocks] at h
    split at h
    · cases h
    rename_i h1
    have := take_le h1
    split at h
    · cases h
    rename_i h2
    have := block_le h2
    split at h
    · cases h; omega
    · have := blocks_le f _ _ _ _ h; omega
theorem blocks_cut {most : Nat} {B : List Bool} {L : Nat} (hL : L ≤ B.length) : ∀ (f f' p : Nat) (out : List UInt8), p ≤ L → L + 1 ≤ f' + p → Cut L (blocks most B f p out) (blocks most (B.take L) f' p out)
  | 0, f', p, out, hp, hf => fun v p' h => by cases h
  | f + 1, f', p, out, hp, hf => fun v p' h => by
    obtain ⟨f', rfl⟩ : ∃ g, f' = g + 1 := ⟨f' - 1, by omega⟩
    have hle := blocks_le _ _ _ _ _ h
    rw [blocks] at h ⊢
    split at h
    · cases h
    rename_i hd p1 h1
    have l1 := take_le h1
    split at h
    · cases h
    rename_i o p2 h2
    have l2 := block_le h2
    have l3 : p2 ≤ p' := by
      split at h
      · cases h; omega
      · exact blocks_le f _ _ _ _ h
    rw [take_cut hL 3 p _ _ h1]
    by_cases e1 : p1 ≤ L
    · rw [if_pos e1]
      simp only
      rw [block_cut hL _ p1 out e1 _ _ h2]
      by_cases e2 : p2 ≤ L
      · rw [if_pos e2]
        simp only
        split at h
        · rename_i g
          cases h
          rw [if_pos g, if_pos e2]
        · rename_i g
          rw [if_neg g]
          exact blocks_cut hL f f' p2 _ e2 (by omega) _ _ h
      · rw [if_neg e2, if_neg (show ¬ p' ≤ L by omega)]
    · rw [if_neg e1, if_neg (show ¬ p' ≤ L by omega)]
/-- A stream that is cut short. -/
theorem inflate_cut {s : List UInt8} {most : Int} {cut : Nat} (hc : cut ≤ s.length) (h0 : (inflate s 0 most).2.2 = 0) (hok : ∃ x, inf most.toNat (sbits (s.drop (0 : Int).toNat)) = .ok x) :
    inflate (s.take cut) 0 most = if (inflate s 0 most).2.1 ≤ cut then inflate s 0 most else ([], 0, 6) := by
  unfold inflate at h0 ⊢
  by_cases hb : (0 : Int) < 0 ∨ (s.length : Int) < 0 ∨ most < 0 ∨ 65536 < most
  · rw [if_pos hb] at h0; cases h0
  rw [if_neg hb] at h0 ⊢
  rw [if_neg (by omega)]
  have e0 : (0 : Int).toNat = 0 := rfl
  rw [e0, List.drop_zero, List.drop_zero]
  have hL : 8 * cut ≤ (sbits s).length := by rw [sbits_length]; omega
  rw [sbits_take]
  cases hi : inf most.toNat (sbits s) with
  | error e =>
    obtain ⟨x, hx⟩ := hok
    rw [e0, List.drop_zero, hi] at hx
    cases hx
  | ok x =>
    obtain ⟨out, p⟩ := x
    have hl : ((sbits s).take (8 * cut)).length = 8 * cut := by rw [List.length_take]; omega
    have hcut : inf most.toNat ((sbits s).take (8 * cut)) = if p ≤ 8 * cut then .ok (out, p) else .error 6 := by
      unfold inf at hi ⊢
      rw [hl]
      exact blocks_cut hL _ _ 0 [] (Nat.zero_le _) (by omega) _ _ hi
    rw [hcut]
    by_cases hp : p ≤ 8 * cut
    · rw [if_pos hp]
      simp only
      rw [if_pos (by omega)]
    · rw [if_neg hp]
      simp only
      rw [if_neg (by omega)]
end InfM

/- Plain laws on inflating: a greater limit changes nothing of what was read within a smaller one. -/
set_option linter.unusedVariables false
namespace InfM
open BitsM HuffM Go.Proofs.YtaaimcbicpgjoaaGreatDoor
/-- Too much comes out; or a greater limit changes nothing. -/
def Good (most : Nat) (r r' : E (List UInt8)) : Prop := r = .error 2 ∨ (r' = r ∧ ∀ out p, r = .ok (out, p) → out.length ≤ most)
theorem Good.err {most e : Nat} : Good most (.error e) (.error e) := .inr ⟨rfl, fun _ _ h => by cases h⟩
theorem copy_len (back : Nat) : ∀ (k : Nat) (out : List UInt8), (copy back k out).length = out.length + k
  | 0, _ => rfl
  | k + 1, out => by rw [copy, copy_len back k, List.length_append]; simp; omega
theorem stored_good {most more : Nat} (hm : most ≤ more) (B : List Bool) (p : Nat) (out : List UInt8) : Good most (stored most B p out) (stored more B p out) := by
  unfold stored
  simp only
  split
  · split
    · exact .err
    · split
      · split
        · exact .inl rfl
        · rw [if_neg (by omega)]
          refine .inr ⟨rfl, fun o q h => ?_⟩
          cases h
          simp [bytesAt]; omega
      · split
        · exact .inl rfl
        · rw [if_neg (by omega)]; exact .err
  · exact .err
theorem rep_good {most more : Nat} (hm : most ≤ more) (dist : List Nat) (B : List Bool) (s p : Nat) (out : List UInt8) : Good most (rep dist most B s p out) (rep dist more B s p out) := by
  unfold rep
  split
  · exact .err
  split
  · exact .err
  split
  · exact .err
  split
  · exact .err
  split
  · exact .err
  simp only
  split
  · exact .err
  split
  · exact .inl rfl
  · rw [if_neg (by omega)]
    refine .inr ⟨rfl, fun o q h => ?_⟩
    cases h
    rw [copy_len]; omega
theorem packed_good {most more : Nat} (hm : most ≤ more) (lit dist : List Nat) (B : List Bool) : ∀ (f p : Nat) (out : List UInt8), out.length ≤ most → Good most (packed lit dist most B f p out) (packed lit dist more B f p out)
  | 0, p, out, ho => .err
  | f + 1, p, out, ho => by
    rw [packed, packed]
    split
    · exact .err
    split
    · exact .inr ⟨rfl, fun o q h => by cases h; exact ho⟩
    split
    · split
      · exact .inl rfl
      · rw [if_neg (by omega)]
        exact packed_good hm lit dist B f _ _ (by rw [List.length_append]; simp; omega)
    · rename_i s p1 _ _ _
      rcases rep_good hm dist B s p1 out with h | ⟨h, hl⟩
      · rw [h]; exact .inl rfl
      · rw [h]
        split
        · exact .err
        · rename_i o q hr
          exact packed_good hm lit dist B f _ _ (hl _ _ hr)
theorem block_good {most more : Nat} (hm : most ≤ more) (B : List Bool) (kind p : Nat) (out : List UInt8) (ho : out.length ≤ most) : Good most (block most B kind p out) (block more B kind p out) := by
  unfold block
  split
  · exact stored_good hm B p out
  split
  · exact packed_good hm _ _ B _ _ _ ho
  split
  · split
    · exact .err
    · exact packed_good hm _ _ B _ _ _ ho
  · exact .err
theorem blocks_good {most more : Nat} (hm : most ≤ more) (B : List Bool) : ∀ (f p : Nat) (out : List UInt8), out.length ≤ most → Good most (blocks most B f p out) (blocks more B f p out)
  | 0, p, out, ho => .err
  | f + 1, p, out, ho => by
    rw [blocks, blocks]
    split
    · exact .err
    rename_i h p1 _
    rcases block_good hm B (h / 2) p1 out ho with hb | ⟨hb, hl⟩
    · rw [hb]; exact .inl rfl
    · rw [hb]
      split
      · exact .err
      rename_i o q hr
      split
      · exact .inr ⟨rfl, fun o' q' h => by cases h; exact hl _ _ hr⟩
      · exact blocks_good hm B f _ _ (hl _ _ hr)
/-- A greater limit changes nothing of what was read within a smaller one. -/
theorem inflate_more {s : List UInt8} {most more : Int} (h0 : 0 ≤ most) (hm : most ≤ more) (h6 : more ≤ 65536) (h2 : (inflate s 0 most).2.2 ≠ 2) : inflate s 0 more = inflate s 0 most := by
  unfold inflate at h2 ⊢
  rw [if_neg (by omega)] at h2
  rw [if_neg (by omega), if_neg (by omega)]
  rcases blocks_good (show most.toNat ≤ more.toNat by omega) (sbits (s.drop (0 : Int).toNat)) ((sbits (s.drop (0 : Int).toNat)).length + 1) 0 [] (Nat.zero_le _) with h | ⟨h, _⟩
  · unfold inf at h2
    rw [h] at h2
    exact absurd rfl h2
  · unfold inf
    rw [h]
end InfM

/- Formulas of 2 Go functions of this seat (written by a program of the author's, vcgen.py), and that each is enough for the call. No condition. -/
set_option linter.unusedVariables false
namespace Go.Proofs.YtaaimcbicpgjoaaGreatDoor
open Go Vc Go.Proofs
set_option maxRecDepth 100000
/-- sums.FromBig -/
def vc_sums_FromBig (x0 : ByteArray) (w : World) (R : Value → World → Prop) : Prop :=
 ∃ I1 : Int → Int → World → Prop, ∃ I2 : Int → Int → World → Nat, (I1 0 0 w ∧
 ∀ n3 : Int,
 ∀ n4 : Int,
 ∀ w5 : World,
 (I1 n3 n4 w5 →
 (((decide (n4 < (↑(ByteArray.size x0) : Int)) = true →
 ((0 : Int) ≤ (8 : Int) ∧
 ((0 ≤ n4 ∧
 n4 < (↑(ByteArray.size x0) : Int)) ∧
 (I1 (IntKind.wrap IntKind.u64 (↑(BitVec.toNat (BitVec.ofInt 64 (IntKind.wrap IntKind.u64 (n3 * 2 ^ min (Int.toNat 8) 64)) ||| BitVec.ofInt 64 (IntKind.wrap IntKind.u64 (byteAt x0 n4)))) : Int)) (IntKind.wrap IntKind.i64 (n4 + 1)) w5 ∧
 I2 (IntKind.wrap IntKind.u64 (↑(BitVec.toNat (BitVec.ofInt 64 (IntKind.wrap IntKind.u64 (n3 * 2 ^ min (Int.toNat 8) 64)) ||| BitVec.ofInt 64 (IntKind.wrap IntKind.u64 (byteAt x0 n4)))) : Int)) (IntKind.wrap IntKind.i64 (n4 + 1)) w5 < I2 n3 n4 w5))))) ∧
 (decide (n4 < (↑(ByteArray.size x0) : Int)) = false →
 R (Value.int IntKind.u64 n3) w5))))
theorem vc_sums_FromBig_ok {x0 : ByteArray} {w : World} {R : Value → World → Prop} {R' : Ending → World → Prop} (h : vc_sums_FromBig x0 w R) (hR : ∀ v w', R v w' → R' (.returned v) w') :
    Calls Tryz.prog 33 #[.string x0] w R' :=
  calls_of_body (vs := [(.string x0, false)]) (ty := ty) (ann := ⟨[], [(3, [(3, .int .u64), (7, .int .i64)])], [], []⟩) (c := Tryz.f33.body.getD .skip) (by kernel_rfl) Tryz.func33 (by kernel_rfl) (by kernel_rfl) (Eq.mp (by kernel_rfl) h) hR
/-- sums.Big -/
def vc_sums_Big (x0 : Int) (x1 : Int) (w : World) (R : Value → World → Prop) : Prop :=
 ∃ I1 : Sl → Int → World → Prop, ∃ I2 : Sl → Int → World → Nat, (I1 (Sl.mk none 0 0) 0 w ∧
 ∀ l3 : Sl,
 ∀ n4 : Int,
 ∀ w5 : World,
 (I1 l3 n4 w5 →
 ((((decide (n4 < if 0 > x1 then 0 else x1) = true) →
 (((decide (IntKind.wrap IntKind.i64 (x1 - n4) > 8) = true →
 ∀ w6 : World,
 (w6 = World.alloc w5 (Obj.cells (Array.mk [Value.int IntKind.u8 0]) 5) →
 ∃ w7 : World, ∃ l8 : Sl, (Sem.run Tryz.prog (Builtin.append_ (Array.mk [60, 60]) 60 (Array.mk [Value.slice l3.1 l3.2 l3.3, Value.slice (some (Addr.mk (Array.size (World.heap w5)) 0 none)) 1 1])) w6 = Result.ok (Value.slice l8.1 l8.2 l8.3) w7 ∧
 (I1 (Sl.mk l8.1 l8.2 l8.3) (IntKind.wrap IntKind.i64 (n4 + 1)) w7 ∧
 I2 (Sl.mk l8.1 l8.2 l8.3) (IntKind.wrap IntKind.i64 (n4 + 1)) w7 < I2 l3 n4 w5))))) ∧
 (decide (IntKind.wrap IntKind.i64 (x1 - n4) > 8) = false →
 (0 ≤ IntKind.wrap IntKind.i64 (8 * IntKind.wrap IntKind.i64 (IntKind.wrap IntKind.i64 (x1 - 1) - n4)) ∧
 ∀ w9 : World,
 (w9 = World.alloc w5 (Obj.cells (Array.mk [Value.int IntKind.u8 (IntKind.wrap IntKind.u8 (Int.fdiv x0 (2 ^ min (Int.toNat (IntKind.wrap IntKind.i64 (8 * IntKind.wrap IntKind.i64 (IntKind.wrap IntKind.i64 (x1 - 1) - n4)))) 64)))]) 5) →
 ∃ w10 : World, ∃ l11 : Sl, (Sem.run Tryz.prog (Builtin.append_ (Array.mk [60, 60]) 60 (Array.mk [Value.slice l3.1 l3.2 l3.3, Value.slice (some (Addr.mk (Array.size (World.heap w5)) 0 none)) 1 1])) w9 = Result.ok (Value.slice l11.1 l11.2 l11.3) w10 ∧
 (I1 (Sl.mk l11.1 l11.2 l11.3) (IntKind.wrap IntKind.i64 (n4 + 1)) w10 ∧
 I2 (Sl.mk l11.1 l11.2 l11.3) (IntKind.wrap IntKind.i64 (n4 + 1)) w10 < I2 l3 n4 w5)))))))) ∧
 ((decide (n4 < if 0 > x1 then 0 else x1) = false) →
 ∃ w12 : World, ∃ s13 : ByteArray, (Sem.run Tryz.prog (convert 60 9 (Value.slice l3.1 l3.2 l3.3)) w5 = Result.ok (Value.string s13) w12 ∧
 R (Value.string s13) w12)))))
theorem vc_sums_Big_ok {x0 : Int} {x1 : Int} {w : World} {R : Value → World → Prop} {R' : Ending → World → Prop} (h : vc_sums_Big x0 x1 w R) (hR : ∀ v w', R v w' → R' (.returned v) w') :
    Calls Tryz.prog 17 #[.int .u64 x0, .int .i64 x1] w R' :=
  calls_of_body (vs := [(.int .u64 x0, false), (.int .i64 x1, false)]) (ty := ty) (ann := ⟨[], [(3, [(5, .slice), (9, .int .i64)])], [], []⟩) (c := Tryz.f17.body.getD .skip) (by kernel_rfl) Tryz.func17 (by kernel_rfl) (by kernel_rfl) (Eq.mp (by kernel_rfl) h) hR
end Go.Proofs.YtaaimcbicpgjoaaGreatDoor

/- FromBig and Big. Conditions: the numbers are within their kinds. -/
set_option linter.unusedVariables false
namespace Go.Proofs.YtaaimcbicpgjoaaGreatDoor
open Go Vc SumM Go.Proofs

/-- 'FromBig'. -/
theorem frombig_spec (s : ByteArray) (hs : s.size ≤ 8) (w : World) :
    Calls Tryz.prog F_sums_FromBig #[.string s] w fun e w' => e = .returned (.int .u64 ((num8 s.data.toList : Nat) : Int)) ∧ w' = w := by
  refine vc_sums_FromBig_ok (R := fun v w' => v = .int .u64 ((num8 s.data.toList : Nat) : Int) ∧ w' = w) ?_ (fun v w' h => ⟨by rw [h.1], h.2⟩)
  refine ⟨fun a i w5 => ∃ n : Nat, i = (n : Int) ∧ n ≤ s.size ∧ a = ((num8 (s.data.toList.take n) : Nat) : Int) ∧ w5 = w, fun a i w5 => s.size - i.toNat, ⟨0, rfl, Nat.zero_le _, rfl, rfl⟩, ?_⟩
  rintro a i w5 ⟨n, rfl, hn, rfl, hw⟩
  replace hw := hw.symm
  subst hw
  refine ⟨fun hlt => ?_, fun hge => ?_⟩
  · have hlt := of_decide_eq_true hlt
    have hb := byt_lt s n
    have hl : (s.data.toList.take n).length = n := by rw [List.length_take]; simp; omega
    have hv := num8_lt n _ hl
    have hp : 256 ^ n ≤ 256 ^ 7 := Nat.pow_le_pow_right (by decide) (by omega)
    have hsn := num8_snoc (s.data.toList.take n) (UInt8.ofNat (byt s n))
    rw [← take_byt s (by omega), toNat_byt] at hsn
    have hor : 2 ^ 8 * num8 (s.data.toList.take n) ||| byt s n = 2 ^ 8 * num8 (s.data.toList.take n) + byt s n := (Nat.two_pow_add_eq_or_of_lt hb _).symm
    generalize num8 (s.data.toList.take n) = x at hsn hv hor ⊢
    have e0 : (x : Int) * 2 ^ min (Int.toNat 8) 64 = ((2 ^ 8 * x : Nat) : Int) := by
      rw [show (2 : Int) ^ min (Int.toNat 8) 64 = ((2 ^ 8 : Nat) : Int) from rfl, ← Int.natCast_mul, Nat.mul_comm]
    have e2 : IntKind.u64.wrap (((BitVec.ofInt 64 (IntKind.u64.wrap ((x : Int) * 2 ^ min (Int.toNat 8) 64)) ||| BitVec.ofInt 64 (IntKind.u64.wrap (byteAt s (n : Int)))).toNat : Nat) : Int) = ((num8 (s.data.toList.take (n + 1)) : Nat) : Int) := by
      rw [e0, byteAt_nat, wrap_u64 (x := ((2 ^ 8 * x : Nat) : Int)) (by omega) (by omega), wrap_u64 (x := ((byt s n : Nat) : Int)) (by omega) (by omega), or_nat 64 _ _ (by omega) (by omega), hor, wrap_u64 (by omega) (by omega), hsn]
    have e3 : IntKind.i64.wrap ((n : Int) + 1) = ((n + 1 : Nat) : Int) := by rw [wrap_i64 (by omega) (by omega)]; omega
    refine ⟨by decide, ⟨by omega, by omega⟩, ?_⟩
    rw [e2, e3]
    exact ⟨⟨n + 1, rfl, by omega, rfl, rfl⟩, by dsimp only; omega⟩
  · have hge := of_decide_eq_false hge
    have : n = s.size := by omega
    subst this
    rw [take_size]
    exact ⟨rfl, rfl⟩
/-- 'Big'. -/
theorem big_spec (x n : Nat) (hx : x < 18446744073709551616) (hn : n ≤ 1000) (w : World) :
    Calls Tryz.prog F_sums_Big #[.int .u64 (x : Int), .int .i64 (n : Int)] w fun e w' => e = .returned (.string ⟨(bigB n x).toArray⟩) ∧ Fr (fun _ => False) w w' := by
  refine vc_sums_Big_ok (R := fun v w' => v = .string ⟨(bigB n x).toArray⟩ ∧ Fr (fun _ => False) w w') ?_ (fun v w' h => ⟨by rw [h.1], h.2⟩)
  have hlim : (if (0 : Int) > (n : Int) then 0 else (n : Int)) = (n : Int) := by rw [if_neg (by omega)]
  refine ⟨fun l i w' => ∃ k : Nat, i = (k : Int) ∧ k ≤ n ∧ Vc.Own w' w.heap.size T_uint8 l (byteV ((bigB n x).take k)) ∧ Fr (fun _ => False) w w', fun l i w' => n - i.toNat, ⟨0, rfl, Nat.zero_le _, .nil _ _ _, .refl _ _⟩, ?_⟩
  rintro l3 i w5 ⟨k, rfl, hk, ho, hf⟩
  rw [hlim]
  have e3 : IntKind.i64.wrap ((k : Int) + 1) = ((k + 1 : Nat) : Int) := by rw [wrap_i64 (by omega) (by omega)]; omega
  rw [e3]
  have hln : (byteV ((bigB n x).take k)).length = k := by simp [byteV, bigB_length]; omega
  refine ⟨fun hlt => ?_, fun hge => ?_⟩
  · have hlt := of_decide_eq_true hlt
    have step : ∀ z : Int, byteV ((bigB n x).take k) ++ [.int .u8 z] = byteV ((bigB n x).take (k + 1)) → ∀ w6, w6 = w5.alloc (.cells #[.int .u8 z] T_uint8) → ∃ w7 l8, (Builtin.append_ #[T_S_uint8, T_S_uint8] T_S_uint8 #[.slice l3.a l3.len l3.cap, .slice (some ⟨w5.heap.size, 0, none⟩) 1 1]).run Tryz.prog w6 = .ok (.slice l8.a l8.len l8.cap) w7 ∧
        ((∃ j : Nat, ((k + 1 : Nat) : Int) = (j : Int) ∧ j ≤ n ∧ Vc.Own w7 w.heap.size T_uint8 l8 (byteV ((bigB n x).take j)) ∧ Fr (fun _ => False) w w7) ∧ n - ((k + 1 : Nat) : Int).toNat < n - ((k : Int)).toNat) := fun z hz w6 h6 => by
      obtain ⟨w7, l8, hr, ho7, hf7, _⟩ := append_one' elByte ho (v := .int .u8 z) rfl (by rw [hln]; unfold maxLen; omega) (by rw [hln]; omega) hf.size h6
      rw [hz] at ho7
      exact ⟨w7, l8, hr, ⟨k + 1, rfl, by omega, ho7, hf.trans hf7 fun q hq ⟨y, hy, e⟩ => by have := (ho.blk hy).1; omega⟩, by omega⟩
    refine ⟨fun h8 => step 0 ?_, fun h8 => ?_⟩
    · have h8 := of_decide_eq_true h8
      rw [wrap_i64 (by omega) (by omega)] at h8
      rw [bigB_get (by omega), pow_big hx (by omega)]
      exact byteV_snoc _ 0 (by decide)
    · have h8 := of_decide_eq_false h8
      rw [wrap_i64 (by omega) (by omega)] at h8
      have e4 : IntKind.i64.wrap (8 * IntKind.i64.wrap (IntKind.i64.wrap ((n : Int) - 1) - (k : Int))) = ((8 * (n - 1 - k) : Nat) : Int) := by
        rw [wrap_i64 (x := (n : Int) - 1) (by omega) (by omega), wrap_i64 (x := (n : Int) - 1 - (k : Int)) (by omega) (by omega), wrap_i64 (by omega) (by omega)]; omega
      rw [e4, shift_byte, if_pos (by omega)]
      refine ⟨by omega, step _ ?_⟩
      rw [byteV_wrap _ _ (Int.natCast_nonneg _), Int.toNat_natCast, bigB_get (by omega)]
  · have hge := of_decide_eq_false hge
    have : k = n := by omega
    subst this
    rw [List.take_of_length_le (by rw [bigB_length]; omega)] at ho
    exact ⟨_, _, bytes_str (e := T_uint8) (by kernel_rfl) (by kernel_rfl) (by kernel_rfl) l3.cap ho.reads (by rw [ho.len]; simp [byteV]), rfl, hf⟩
end Go.Proofs.YtaaimcbicpgjoaaGreatDoor

/- Formulas of 1 Go functions of this seat (written by a program of the author's, vcgen.py), and that each is enough for the call. No condition. -/
set_option linter.unusedVariables false
namespace Go.Proofs.YtaaimcbicpgjoaaGreatDoor
open Go Vc Go.Proofs
set_option maxRecDepth 100000
/-- sums.Little -/
def vc_sums_Little (x0 : Int) (x1 : Int) (w : World) (R : Value → World → Prop) : Prop :=
 ∃ I1 : Sl → Int → World → Prop, ∃ I2 : Sl → Int → World → Nat, (I1 (Sl.mk none 0 0) 0 w ∧
 ∀ l3 : Sl,
 ∀ n4 : Int,
 ∀ w5 : World,
 (I1 l3 n4 w5 →
 ((((decide (n4 < if 0 > x1 then 0 else x1) = true) →
 (((decide (n4 ≥ 8) = true →
 ∀ w6 : World,
 (w6 = World.alloc w5 (Obj.cells (Array.mk [Value.int IntKind.u8 0]) 5) →
 ∃ w7 : World, ∃ l8 : Sl, (Sem.run Tryz.prog (Builtin.append_ (Array.mk [60, 60]) 60 (Array.mk [Value.slice l3.1 l3.2 l3.3, Value.slice (some (Addr.mk (Array.size (World.heap w5)) 0 none)) 1 1])) w6 = Result.ok (Value.slice l8.1 l8.2 l8.3) w7 ∧
 (I1 (Sl.mk l8.1 l8.2 l8.3) (IntKind.wrap IntKind.i64 (n4 + 1)) w7 ∧
 I2 (Sl.mk l8.1 l8.2 l8.3) (IntKind.wrap IntKind.i64 (n4 + 1)) w7 < I2 l3 n4 w5))))) ∧
 (decide (n4 ≥ 8) = false →
 (0 ≤ IntKind.wrap IntKind.i64 (8 * n4) ∧
 ∀ w9 : World,
 (w9 = World.alloc w5 (Obj.cells (Array.mk [Value.int IntKind.u8 (IntKind.wrap IntKind.u8 (Int.fdiv x0 (2 ^ min (Int.toNat (IntKind.wrap IntKind.i64 (8 * n4))) 64)))]) 5) →
 ∃ w10 : World, ∃ l11 : Sl, (Sem.run Tryz.prog (Builtin.append_ (Array.mk [60, 60]) 60 (Array.mk [Value.slice l3.1 l3.2 l3.3, Value.slice (some (Addr.mk (Array.size (World.heap w5)) 0 none)) 1 1])) w9 = Result.ok (Value.slice l11.1 l11.2 l11.3) w10 ∧
 (I1 (Sl.mk l11.1 l11.2 l11.3) (IntKind.wrap IntKind.i64 (n4 + 1)) w10 ∧
 I2 (Sl.mk l11.1 l11.2 l11.3) (IntKind.wrap IntKind.i64 (n4 + 1)) w10 < I2 l3 n4 w5)))))))) ∧
 ((decide (n4 < if 0 > x1 then 0 else x1) = false) →
 ∃ w12 : World, ∃ s13 : ByteArray, (Sem.run Tryz.prog (convert 60 9 (Value.slice l3.1 l3.2 l3.3)) w5 = Result.ok (Value.string s13) w12 ∧
 R (Value.string s13) w12)))))
theorem vc_sums_Little_ok {x0 : Int} {x1 : Int} {w : World} {R : Value → World → Prop} {R' : Ending → World → Prop} (h : vc_sums_Little x0 x1 w R) (hR : ∀ v w', R v w' → R' (.returned v) w') :
    Calls Tryz.prog 94 #[.int .u64 x0, .int .i64 x1] w R' :=
  calls_of_body (vs := [(.int .u64 x0, false), (.int .i64 x1, false)]) (ty := ty) (ann := ⟨[], [(3, [(5, .slice), (9, .int .i64)])], [], []⟩) (c := Tryz.f94.body.getD .skip) (by kernel_rfl) Tryz.func94 (by kernel_rfl) (by kernel_rfl) (Eq.mp (by kernel_rfl) h) hR
end Go.Proofs.YtaaimcbicpgjoaaGreatDoor

/- Little. Conditions: the numbers are within their kinds. -/
set_option linter.unusedVariables false
namespace Go.Proofs.YtaaimcbicpgjoaaGreatDoor
open Go Vc SumM Go.Proofs

/-- 'Little'. -/
theorem littleS_spec (x n : Nat) (hx : x < 18446744073709551616) (hn : n ≤ 1000) (w : World) :
    Calls Tryz.prog F_sums_Little #[.int .u64 (x : Int), .int .i64 (n : Int)] w fun e w' => e = .returned (.string ⟨(littleB n x).toArray⟩) ∧ Fr (fun _ => False) w w' := by
  refine vc_sums_Little_ok (R := fun v w' => v = .string ⟨(littleB n x).toArray⟩ ∧ Fr (fun _ => False) w w') ?_ (fun v w' h => ⟨by rw [h.1], h.2⟩)
  have hlim : (if (0 : Int) > (n : Int) then 0 else (n : Int)) = (n : Int) := by rw [if_neg (by omega)]
  refine ⟨fun l i w' => ∃ k : Nat, i = (k : Int) ∧ k ≤ n ∧ Vc.Own w' w.heap.size T_uint8 l (byteV ((littleB n x).take k)) ∧ Fr (fun _ => False) w w', fun l i w' => n - i.toNat, ⟨0, rfl, Nat.zero_le _, .nil _ _ _, .refl _ _⟩, ?_⟩
  rintro l3 i w5 ⟨k, rfl, hk, ho, hf⟩
  rw [hlim]
  have e3 : IntKind.i64.wrap ((k : Int) + 1) = ((k + 1 : Nat) : Int) := by rw [wrap_i64 (by omega) (by omega)]; omega
  rw [e3]
  have hln : (byteV ((littleB n x).take k)).length = k := by simp [byteV, littleB_length]; omega
  refine ⟨fun hlt => ?_, fun hge => ?_⟩
  · have hlt := of_decide_eq_true hlt
    have step : ∀ z : Int, byteV ((littleB n x).take k) ++ [.int .u8 z] = byteV ((littleB n x).take (k + 1)) → ∀ w6, w6 = w5.alloc (.cells #[.int .u8 z] T_uint8) → ∃ w7 l8, (Builtin.append_ #[T_S_uint8, T_S_uint8] T_S_uint8 #[.slice l3.a l3.len l3.cap, .slice (some ⟨w5.heap.size, 0, none⟩) 1 1]).run Tryz.prog w6 = .ok (.slice l8.a l8.len l8.cap) w7 ∧
        ((∃ j : Nat, ((k + 1 : Nat) : Int) = (j : Int) ∧ j ≤ n ∧ Vc.Own w7 w.heap.size T_uint8 l8 (byteV ((littleB n x).take j)) ∧ Fr (fun _ => False) w w7) ∧ n - ((k + 1 : Nat) : Int).toNat < n - ((k : Int)).toNat) := fun z hz w6 h6 => by
      obtain ⟨w7, l8, hr, ho7, hf7, _⟩ := append_one' elByte ho (v := .int .u8 z) rfl (by rw [hln]; unfold maxLen; omega) (by rw [hln]; omega) hf.size h6
      rw [hz] at ho7
      exact ⟨w7, l8, hr, ⟨k + 1, rfl, by omega, ho7, hf.trans hf7 fun q hq ⟨y, hy, e⟩ => by have := (ho.blk hy).1; omega⟩, by omega⟩
    refine ⟨fun h8 => step 0 ?_, fun h8 => ?_⟩
    · have h8 := of_decide_eq_true h8
      rw [littleB_get (by omega), pow_big hx (by omega)]
      exact byteV_snoc _ 0 (by decide)
    · have h8 := of_decide_eq_false h8
      have e4 : IntKind.i64.wrap (8 * (k : Int)) = ((8 * k : Nat) : Int) := by rw [wrap_i64 (by omega) (by omega)]; omega
      rw [e4, shift_byte, if_pos (by omega)]
      refine ⟨by omega, step _ ?_⟩
      rw [byteV_wrap _ _ (Int.natCast_nonneg _), Int.toNat_natCast, littleB_get (by omega)]
  · have hge := of_decide_eq_false hge
    have : k = n := by omega
    subst this
    rw [List.take_of_length_le (by rw [littleB_length]; omega)] at ho
    exact ⟨_, _, bytes_str (e := T_uint8) (by kernel_rfl) (by kernel_rfl) (by kernel_rfl) l3.cap ho.reads (by rw [ho.len]; simp [byteV]), rfl, hf⟩
end Go.Proofs.YtaaimcbicpgjoaaGreatDoor

/- Formulas of 3 Go functions of this seat (written by a program of the author's, vcgen.py), and that each is enough for the call. No condition. -/
set_option linter.unusedVariables false
namespace Go.Proofs.YtaaimcbicpgjoaaGreatDoor
open Go Vc Go.Proofs
set_option maxRecDepth 100000
/-- (*sums.Adler).Write -/
def vc_sums_Adler_Write (x0 : Nat) (x1 : ByteArray) (w : World) (R : Value → World → Prop) : Prop :=
 ∃ I1 : Int → World → Prop, ∃ I2 : Int → World → Nat, (I1 0 w ∧
 ∀ n3 : Int,
 ∀ w4 : World,
 (I1 n3 w4 →
 (((decide (n3 < (↑(ByteArray.size x1) : Int)) = true →
 ∀ w5 : World,
 (Drew w4 w5 →
 ∃ n6 : Int, (World.cell? w5 (Addr.mk x0 0 none) = some (Value.int IntKind.u32 n6) ∧
 ((0 ≤ n3 ∧
 n3 < (↑(ByteArray.size x1) : Int)) ∧
 ((65521 : Int) ≠ (0 : Int) ∧
 (Wr w5 (Addr.mk x0 0 none) ∧
 ∀ w7 : World,
 (w7 = World.setCell w5 (Addr.mk x0 0 none) (Value.int IntKind.u32 (Int.tmod (IntKind.wrap IntKind.u32 (n6 + IntKind.wrap IntKind.u32 (byteAt x1 n3))) 65521)) →
 ∀ w8 : World,
 (Drew w7 w8 →
 ∃ n9 : Int, (World.cell? w8 (Addr.mk x0 1 none) = some (Value.int IntKind.u32 n9) ∧
 ∃ n10 : Int, (World.cell? w8 (Addr.mk x0 0 none) = some (Value.int IntKind.u32 n10) ∧
 ((65521 : Int) ≠ (0 : Int) ∧
 (Wr w8 (Addr.mk x0 1 none) ∧
 ∀ w11 : World,
 (w11 = World.setCell w8 (Addr.mk x0 1 none) (Value.int IntKind.u32 (Int.tmod (IntKind.wrap IntKind.u32 (IntKind.wrap IntKind.u32 (n9 + n10) + 1)) 65521)) →
 (I1 (IntKind.wrap IntKind.i64 (n3 + 1)) w11 ∧
 I2 (IntKind.wrap IntKind.i64 (n3 + 1)) w11 < I2 n3 w4))))))))))))))) ∧
 (decide (n3 < (↑(ByteArray.size x1) : Int)) = false →
 R (Value.tuple (Array.mk [])) w4))))
theorem vc_sums_Adler_Write_ok {x0 : Nat} {x1 : ByteArray} {w : World} {R : Value → World → Prop} {R' : Ending → World → Prop} (h : vc_sums_Adler_Write x0 x1 w R) (hR : ∀ v w', R v w' → R' (.returned v) w') :
    Calls Tryz.prog 90 #[.pointer (some ⟨x0, 0, none⟩), .string x1] w R' :=
  calls_of_body (vs := [(.pointer (some ⟨x0, 0, none⟩), true), (.string x1, false)]) (ty := ty) (ann := ⟨[], [(1, [(7, .int .i64)])], [(3, .tail 13), (4, .tail 14)], []⟩) (c := Tryz.f90.body.getD .skip) (by kernel_rfl) Tryz.func90 (by kernel_rfl) (by kernel_rfl) (Eq.mp (by kernel_rfl) h) hR
/-- (*sums.Adler).Sum -/
def vc_sums_Adler_Sum (x0 : Nat) (w : World) (R : Value → World → Prop) : Prop :=
 ∃ n1 : Int, (World.cell? w (Addr.mk x0 1 none) = some (Value.int IntKind.u32 n1) ∧
 ((0 : Int) ≤ (16 : Int) ∧
 ∃ n2 : Int, (World.cell? w (Addr.mk x0 0 none) = some (Value.int IntKind.u32 n2) ∧
 ((65521 : Int) ≠ (0 : Int) ∧
 ∀ w3 : World,
 (Drew w w3 →
 R (Value.int IntKind.u32 (IntKind.wrap IntKind.u32 (↑(BitVec.toNat (BitVec.ofInt 32 (IntKind.wrap IntKind.u32 (n1 * 2 ^ min (Int.toNat 16) 32)) ||| BitVec.ofInt 32 (Int.tmod (IntKind.wrap IntKind.u32 (n2 + 1)) 65521))) : Int))) w3)))))
theorem vc_sums_Adler_Sum_ok {x0 : Nat} {w : World} {R : Value → World → Prop} {R' : Ending → World → Prop} (h : vc_sums_Adler_Sum x0 w R) (hR : ∀ v w', R v w' → R' (.returned v) w') :
    Calls Tryz.prog 91 #[.pointer (some ⟨x0, 0, none⟩)] w R' :=
  calls_of_body (vs := [(.pointer (some ⟨x0, 0, none⟩), true)]) (ty := ty) (ann := ⟨[], [], [(1, .quiet)], []⟩) (c := Tryz.f91.body.getD .skip) (by kernel_rfl) Tryz.func91 (by kernel_rfl) (by kernel_rfl) (Eq.mp (by kernel_rfl) h) hR
/-- sums.Adler32 -/
def vc_sums_Adler32 (x0 : ByteArray) (w : World) (R : Value → World → Prop) : Prop :=
 ∀ w1 : World,
 (w1 = World.alloc w (Obj.cells (Array.mk [Value.int IntKind.u32 0, Value.int IntKind.u32 0]) 141) →
 Calls Tryz.prog (90 : Nat) (Array.mk [Value.pointer (some (Addr.mk (Array.size (World.heap w)) 0 none)), Value.string x0]) (w1) (fun e2 w3 =>
 (e2 = Ending.returned (Value.tuple (Array.mk [])) ∧
 Calls Tryz.prog (91 : Nat) (Array.mk [Value.pointer (some (Addr.mk (Array.size (World.heap w)) 0 none))]) (w3) (fun e4 w5 =>
 ∃ n6 : Int, (e4 = Ending.returned (Value.int IntKind.u32 n6) ∧
 R (Value.int IntKind.u32 n6) w5)))))
theorem vc_sums_Adler32_ok {x0 : ByteArray} {w : World} {R : Value → World → Prop} {R' : Ending → World → Prop} (h : vc_sums_Adler32 x0 w R) (hR : ∀ v w', R v w' → R' (.returned v) w') :
    Calls Tryz.prog 60 #[.string x0] w R' :=
  calls_of_body (vs := [(.string x0, false)]) (ty := ty) (ann := ⟨[], [], [], []⟩) (c := Tryz.f60.body.getD .skip) (by kernel_rfl) Tryz.func60 (by kernel_rfl) (by kernel_rfl) (Eq.mp (by kernel_rfl) h) hR
end Go.Proofs.YtaaimcbicpgjoaaGreatDoor

/- Adler's sum. Conditions: the texts are short enough. -/
set_option linter.unusedVariables false
namespace Go.Proofs.YtaaimcbicpgjoaaGreatDoor
open Go Vc SumM Go.Proofs

/-- Adler's sum as the program keeps it: the first number is one less than it is told. -/
def AdlC (w : World) (b : Nat) (l : List UInt8) : Prop := ∃ a : Nat, a < 65521 ∧ (a + 1) % 65521 = (adl l).1 ∧ w.heap[b]? = some (.cells #[.int .u32 (a : Int), .int .u32 ((adl l).2 : Int)] T_sums_Adler (0, 0))
theorem AdlC.drew {w w' : World} {b : Nat} {l : List UInt8} (h : AdlC w b l) (d : Drew w w') : AdlC w' b l := by
  obtain ⟨a, h1, h2, h3⟩ := h
  exact ⟨a, h1, h2, (Fr.drew (fun _ => False) d).keep h3 (by simp)⟩
theorem adlerW_spec {w : World} {b : Nat} {l : List UInt8} (h : AdlC w b l) (s : ByteArray) (hs : s.size ≤ 1099511627776) :
    Calls Tryz.prog F_sums_Adler_Write #[.pointer (some ⟨b, 0, none⟩), .string s] w fun e w' => e = .returned (.tuple #[]) ∧ AdlC w' b (l ++ s.data.toList) ∧ Fr (· = b) w w' := by
  refine vc_sums_Adler_Write_ok (R := fun v w' => v = .tuple #[] ∧ AdlC w' b (l ++ s.data.toList) ∧ Fr (· = b) w w') ?_ (fun v w' h => ⟨by rw [h.1], h.2⟩)
  refine ⟨fun i w' => ∃ n : Nat, i = (n : Int) ∧ n ≤ s.size ∧ AdlC w' b (l ++ s.data.toList.take n) ∧ Fr (· = b) w w', fun i w' => s.size - i.toNat, ⟨0, rfl, Nat.zero_le _, by simpa using h, .refl _ _⟩, ?_⟩
  rintro i w4 ⟨n, rfl, hn, hA, hf⟩
  refine ⟨fun hlt w5 d5 => ?_, fun hge => ?_⟩
  · have hlt := of_decide_eq_true hlt
    have hb := byt_lt s n
    obtain ⟨a, ha, h1, h2⟩ := hA.drew d5
    have hlt2 := adl_lt (l ++ s.data.toList.take n)
    have hsn := adl_snoc (l ++ s.data.toList.take n) (UInt8.ofNat (byt s n))
    rw [List.append_assoc, ← take_byt s (by omega)] at hsn
    simp only [adl1, toNat_byt] at hsn
    generalize adl (l ++ s.data.toList.take n) = x at h1 h2 hlt2 hsn
    have e1 : Int.tmod (IntKind.u32.wrap ((a : Int) + IntKind.u32.wrap (byteAt s (n : Int)))) 65521 = (((a + byt s n) % 65521 : Nat) : Int) := by
      rw [byteAt_nat, wrap_u32 (x := ((byt s n : Nat) : Int)) (by omega) (by omega), wrap_u32 (by omega) (by omega), Int.tmod_eq_emod_of_nonneg (by omega)]; omega
    refine ⟨_, by rw [cell_blk h2]; rfl, ⟨by omega, by omega⟩, by decide, wr_blk h2 (by simp), fun w7 h7 w8 d8 => ?_⟩
    rw [e1] at h7
    have hf7 : Fr (· = b) w5 w7 := h7 ▸ Fr.set (· = b) _ (a := ⟨b, 0, none⟩) (.int .u32 (((a + byt s n) % 65521 : Nat) : Int)) rfl
    have hb7 := set_blk h2 0 (.int .u32 (((a + byt s n) % 65521 : Nat) : Int))
    rw [← h7] at hb7
    have hb8 := (Fr.drew (fun _ => False) d8).keep hb7 (by simp)
    have hr : (a + byt s n) % 65521 < 65521 := Nat.mod_lt _ (by decide)
    have hr1 : ((a + byt s n) % 65521 + 1) % 65521 = (x.1 + byt s n) % 65521 := by omega
    generalize (a + byt s n) % 65521 = a2 at hb8 hr hr1
    have e2 : Int.tmod (IntKind.u32.wrap (IntKind.u32.wrap ((x.2 : Int) + (a2 : Int)) + 1)) 65521 = (((x.2 + a2 + 1) % 65521 : Nat) : Int) := by
      rw [wrap_u32 (x := (x.2 : Int) + (a2 : Int)) (by omega) (by omega), wrap_u32 (by omega) (by omega), Int.tmod_eq_emod_of_nonneg (by omega)]; omega
    refine ⟨_, by rw [cell_blk hb8]; rfl, _, by rw [cell_blk hb8]; rfl, by decide, wr_blk hb8 (by simp), fun w11 h11 => ?_⟩
    rw [e2] at h11
    have hf11 : Fr (· = b) w8 w11 := h11 ▸ Fr.set (· = b) _ (a := ⟨b, 1, none⟩) (.int .u32 (((x.2 + a2 + 1) % 65521 : Nat) : Int)) rfl
    have hb11 := set_blk hb8 1 (.int .u32 (((x.2 + a2 + 1) % 65521 : Nat) : Int))
    rw [← h11] at hb11
    have e3 : IntKind.i64.wrap ((n : Int) + 1) = ((n + 1 : Nat) : Int) := by rw [wrap_i64 (by omega) (by omega)]; omega
    rw [e3]
    refine ⟨⟨n + 1, rfl, by omega, ⟨a2, hr, by rw [hsn]; exact hr1, ?_⟩, (((hf.trans' (.drew _ d5)).trans' hf7).trans' (.drew _ d8)).trans' hf11⟩, by dsimp only; omega⟩
    rw [hsn, hb11]
    dsimp only
    rw [show (x.2 + (x.1 + byt s n) % 65521) % 65521 = (x.2 + a2 + 1) % 65521 by omega]
    rfl
  · have hge := of_decide_eq_false hge
    have : n = s.size := by omega
    subst this
    rw [take_size] at hA
    exact ⟨rfl, hA, hf⟩
theorem adlerS_spec {w : World} {b : Nat} {l : List UInt8} (h : AdlC w b l) :
    Calls Tryz.prog F_sums_Adler_Sum #[.pointer (some ⟨b, 0, none⟩)] w fun e w' => e = .returned (.int .u32 ((adler l : Nat) : Int)) ∧ Drew w w' := by
  refine vc_sums_Adler_Sum_ok (R := fun v w' => v = .int .u32 ((adler l : Nat) : Int) ∧ Drew w w') ?_ (fun v w' h => ⟨by rw [h.1], h.2⟩)
  obtain ⟨a, ha, h1, h2⟩ := h
  have hlt := adl_lt l
  refine ⟨_, by rw [cell_blk h2]; rfl, by decide, _, by rw [cell_blk h2]; rfl, by decide, fun w3 d3 => ⟨?_, d3⟩⟩
  have e1 : Int.tmod (IntKind.u32.wrap ((a : Int) + 1)) 65521 = (((adl l).1 : Nat) : Int) := by
    rw [wrap_u32 (by omega) (by omega), Int.tmod_eq_emod_of_nonneg (by omega)]; omega
  have e2 : (((adl l).2 : Nat) : Int) * 2 ^ min (Int.toNat 16) 32 = ((2 ^ 16 * (adl l).2 : Nat) : Int) := by
    rw [show (2 : Int) ^ min (Int.toNat 16) 32 = ((2 ^ 16 : Nat) : Int) from rfl, ← Int.natCast_mul, Nat.mul_comm]
  have hor : 2 ^ 16 * (adl l).2 ||| (adl l).1 = 2 ^ 16 * (adl l).2 + (adl l).1 := (Nat.two_pow_add_eq_or_of_lt (by omega) _).symm
  rw [e1, e2, wrap_u32 (x := ((2 ^ 16 * (adl l).2 : Nat) : Int)) (by omega) (by omega), or_nat 32 _ _ (by omega) (by omega), hor, wrap_u32 (by omega) (by omega)]
  rfl
/-- 'Adler32'. -/
theorem adler_spec (s : ByteArray) (hs : s.size ≤ 1099511627776) (w : World) :
    Calls Tryz.prog F_sums_Adler32 #[.string s] w fun e w' => e = .returned (.int .u32 ((adler s.data.toList : Nat) : Int)) ∧ Fr (fun _ => False) w w' := by
  refine vc_sums_Adler32_ok (R := fun v w' => v = .int .u32 ((adler s.data.toList : Nat) : Int) ∧ Fr (fun _ => False) w w') ?_ (fun v w' h => ⟨by rw [h.1], h.2⟩)
  intro w1 h1
  have hf1 : Fr (fun _ => False) w w1 := h1 ▸ Fr.alloc _ _ _
  have hA : AdlC w1 w.heap.size [] := ⟨0, by decide, rfl, by rw [h1]; exact alloc_new _ _⟩
  refine (adlerW_spec hA s hs).mono ?_
  rintro e w3 ⟨rfl, h3, hf3⟩
  refine ⟨rfl, (adlerS_spec h3).mono ?_⟩
  rintro e w5 ⟨rfl, d5⟩
  exact ⟨_, rfl, rfl, (hf1.trans hf3 (fun k hk h => by omega)).trans' (.drew _ d5)⟩
end Go.Proofs.YtaaimcbicpgjoaaGreatDoor

/- Formulas of 4 Go functions of this seat (written by a program of the author's, vcgen.py), and that each is enough for the call. No condition. -/
set_option linter.unusedVariables false
namespace Go.Proofs.YtaaimcbicpgjoaaGreatDoor
open Go Vc Go.Proofs
set_option maxRecDepth 100000
/-- zlib.Head -/
def vc_zlib_Head (x0 : Int) (x1 : Int) (w : World) (R : Value → World → Prop) : Prop :=
 ((((IntKind.wrap IntKind.u8 (↑(BitVec.toNat (BitVec.ofInt 8 x0 &&& BitVec.ofInt 8 15)) : Int) == 8) = true →
 ((0 : Int) ≤ (4 : Int) ∧
 (((decide (Int.fdiv x0 (2 ^ min (Int.toNat 4) 8) ≤ 7) = true →
 ((0 : Int) ≤ (8 : Int) ∧
 ((31 : Int) ≠ (0 : Int) ∧
 ((((Int.tmod (IntKind.wrap IntKind.i64 (↑(BitVec.toNat (BitVec.ofInt 64 (IntKind.wrap IntKind.i64 (IntKind.wrap IntKind.i64 x0 * 2 ^ min (Int.toNat 8) 64)) ||| BitVec.ofInt 64 (IntKind.wrap IntKind.i64 x1))) : Int)) 31 == 0) = true →
 R (Value.bool (IntKind.wrap IntKind.u8 (↑(BitVec.toNat (BitVec.ofInt 8 x1 &&& BitVec.ofInt 8 32)) : Int) == 0)) w)) ∧
 ((Int.tmod (IntKind.wrap IntKind.i64 (↑(BitVec.toNat (BitVec.ofInt 64 (IntKind.wrap IntKind.i64 (IntKind.wrap IntKind.i64 x0 * 2 ^ min (Int.toNat 8) 64)) ||| BitVec.ofInt 64 (IntKind.wrap IntKind.i64 x1))) : Int)) 31 == 0) = false →
 R (Value.bool false) w)))))) ∧
 (decide (Int.fdiv x0 (2 ^ min (Int.toNat 4) 8) ≤ 7) = false →
 R (Value.bool false) w))))) ∧
 ((IntKind.wrap IntKind.u8 (↑(BitVec.toNat (BitVec.ofInt 8 x0 &&& BitVec.ofInt 8 15)) : Int) == 8) = false →
 R (Value.bool false) w))
theorem vc_zlib_Head_ok {x0 : Int} {x1 : Int} {w : World} {R : Value → World → Prop} {R' : Ending → World → Prop} (h : vc_zlib_Head x0 x1 w R) (hR : ∀ v w', R v w' → R' (.returned v) w') :
    Calls Tryz.prog 58 #[.int .u8 x0, .int .u8 x1] w R' :=
  calls_of_body (vs := [(.int .u8 x0, false), (.int .u8 x1, false)]) (ty := ty) (ann := ⟨[], [], [], []⟩) (c := Tryz.f58.body.getD .skip) (by kernel_rfl) Tryz.func58 (by kernel_rfl) (by kernel_rfl) (Eq.mp (by kernel_rfl) h) hR
/-- zlib.Read -/
def vc_zlib_Read (x0 : ByteArray) (x1 : Int) (x2 : Int) (w : World) (R : Value → World → Prop) : Prop :=
 (((decide (x1 < 0) = true →
 R (Value.tuple (Array.mk [Value.string (ByteArray.mk (Array.mk [])), Value.int IntKind.i64 0, Value.int IntKind.i64 1])) w)) ∧
 (decide (x1 < 0) = false →
 (((decide (x1 > (↑(ByteArray.size x0) : Int)) = true →
 R (Value.tuple (Array.mk [Value.string (ByteArray.mk (Array.mk [])), Value.int IntKind.i64 0, Value.int IntKind.i64 1])) w)) ∧
 (decide (x1 > (↑(ByteArray.size x0) : Int)) = false →
 (((decide (x2 < 0) = true →
 R (Value.tuple (Array.mk [Value.string (ByteArray.mk (Array.mk [])), Value.int IntKind.i64 0, Value.int IntKind.i64 1])) w)) ∧
 (decide (x2 < 0) = false →
 (((decide (x2 > 65536) = true →
 R (Value.tuple (Array.mk [Value.string (ByteArray.mk (Array.mk [])), Value.int IntKind.i64 0, Value.int IntKind.i64 1])) w)) ∧
 (decide (x2 > 65536) = false →
 (((decide (IntKind.wrap IntKind.i64 ((↑(ByteArray.size x0) : Int) - x1) < 2) = true →
 R (Value.tuple (Array.mk [Value.string (ByteArray.mk (Array.mk [])), Value.int IntKind.i64 0, Value.int IntKind.i64 6])) w)) ∧
 (decide (IntKind.wrap IntKind.i64 ((↑(ByteArray.size x0) : Int) - x1) < 2) = false →
 ∀ w1 : World,
 (Drew w w1 →
 ∃ I2 : World → Prop, (I2 w1 ∧
 ((0 ≤ x1 ∧
 x1 < (↑(ByteArray.size x0) : Int)) ∧
 ((0 ≤ IntKind.wrap IntKind.i64 (x1 + 1) ∧
 IntKind.wrap IntKind.i64 (x1 + 1) < (↑(ByteArray.size x0) : Int)) ∧
 Calls Tryz.prog (58 : Nat) (Array.mk [Value.int IntKind.u8 (byteAt x0 x1), Value.int IntKind.u8 (byteAt x0 (IntKind.wrap IntKind.i64 (x1 + 1)))]) (w1) (fun e3 w4 =>
 ∃ b5 : Bool, (e3 = Ending.returned (Value.bool b5) ∧
 (I2 w4 ∧
 ((((!b5) = true →
 R (Value.tuple (Array.mk [Value.string (ByteArray.mk (Array.mk [])), Value.int IntKind.i64 0, Value.int IntKind.i64 3])) w4)) ∧
 ((!b5) = false →
 Calls Tryz.prog (59 : Nat) (Array.mk [Value.string x0, Value.int IntKind.i64 (IntKind.wrap IntKind.i64 (x1 + 2)), Value.int IntKind.i64 x2]) (w4) (fun e6 w7 =>
 ∃ s8 : ByteArray, ∃ n9 : Int, ∃ n10 : Int, (e6 = Ending.returned (Value.tuple (Array.mk [Value.string s8, Value.int IntKind.i64 n9, Value.int IntKind.i64 n10])) ∧
 ((((n10 != 0) = true →
 R (Value.tuple (Array.mk [Value.string (ByteArray.mk (Array.mk [])), Value.int IntKind.i64 0, Value.int IntKind.i64 n10])) w7)) ∧
 ((n10 != 0) = false →
 (((decide (IntKind.wrap IntKind.i64 ((↑(ByteArray.size x0) : Int) - IntKind.wrap IntKind.i64 (IntKind.wrap IntKind.i64 (x1 + 2) + n9)) < 4) = true →
 R (Value.tuple (Array.mk [Value.string (ByteArray.mk (Array.mk [])), Value.int IntKind.i64 0, Value.int IntKind.i64 6])) w7)) ∧
 (decide (IntKind.wrap IntKind.i64 ((↑(ByteArray.size x0) : Int) - IntKind.wrap IntKind.i64 (IntKind.wrap IntKind.i64 (x1 + 2) + n9)) < 4) = false →
 ((0 ≤ IntKind.wrap IntKind.i64 (IntKind.wrap IntKind.i64 (x1 + 2) + n9) ∧
 (IntKind.wrap IntKind.i64 (IntKind.wrap IntKind.i64 (x1 + 2) + n9) ≤ IntKind.wrap IntKind.i64 (IntKind.wrap IntKind.i64 (IntKind.wrap IntKind.i64 (x1 + 2) + n9) + 4) ∧
 IntKind.wrap IntKind.i64 (IntKind.wrap IntKind.i64 (IntKind.wrap IntKind.i64 (x1 + 2) + n9) + 4) ≤ (↑(ByteArray.size x0) : Int))) ∧
 Calls Tryz.prog (33 : Nat) (Array.mk [Value.string (ByteArray.extract x0 (Int.toNat (IntKind.wrap IntKind.i64 (IntKind.wrap IntKind.i64 (x1 + 2) + n9))) (Int.toNat (IntKind.wrap IntKind.i64 (IntKind.wrap IntKind.i64 (IntKind.wrap IntKind.i64 (x1 + 2) + n9) + 4))))]) (w7) (fun e11 w12 =>
 ∃ n13 : Int, (e11 = Ending.returned (Value.int IntKind.u64 n13) ∧
 Calls Tryz.prog (60 : Nat) (Array.mk [Value.string s8]) (w12) (fun e14 w15 =>
 ∃ n16 : Int, (e14 = Ending.returned (Value.int IntKind.u32 n16) ∧
 ((((IntKind.wrap IntKind.u32 n13 != n16) = true →
 R (Value.tuple (Array.mk [Value.string (ByteArray.mk (Array.mk [])), Value.int IntKind.i64 0, Value.int IntKind.i64 5])) w15)) ∧
 ((IntKind.wrap IntKind.u32 n13 != n16) = false →
 R (Value.tuple (Array.mk [Value.string s8, Value.int IntKind.i64 (IntKind.wrap IntKind.i64 (n9 + 6)), Value.int IntKind.i64 0])) w15))))))))))))))))))))))))))))))))
theorem vc_zlib_Read_ok {x0 : ByteArray} {x1 : Int} {x2 : Int} {w : World} {R : Value → World → Prop} {R' : Ending → World → Prop} (h : vc_zlib_Read x0 x1 x2 w R) (hR : ∀ v w', R v w' → R' (.returned v) w') :
    Calls Tryz.prog 39 #[.string x0, .int .i64 x1, .int .i64 x2] w R' :=
  calls_of_body (vs := [(.string x0, false), (.int .i64 x1, false), (.int .i64 x2, false)]) (ty := ty) (ann := ⟨[], [], [(5, .held [(0, true), (1, true), (2, true), (3, true), (4, true), (5, true), (6, true), (7, false), (8, true)])], []⟩) (c := Tryz.f39.body.getD .skip) (by kernel_rfl) Tryz.func39 (by kernel_rfl) (by kernel_rfl) (Eq.mp (by kernel_rfl) h) hR
/-- zlib.frame -/
def vc_zlib_frame (x0 : ByteArray) (x1 : ByteArray) (w : World) (R : Value → World → Prop) : Prop :=
 (ByteArray.size (ByteArray.mk (Array.mk [120, 1])) + ByteArray.size x0 ≤ 9223372036854775807 ∧
 Calls Tryz.prog (60 : Nat) (Array.mk [Value.string x1]) (w) (fun e1 w2 =>
 ∃ n3 : Int, (e1 = Ending.returned (Value.int IntKind.u32 n3) ∧
 Calls Tryz.prog (17 : Nat) (Array.mk [Value.int IntKind.u64 (IntKind.wrap IntKind.u64 n3), Value.int IntKind.i64 4]) (w2) (fun e4 w5 =>
 ∃ s6 : ByteArray, (e4 = Ending.returned (Value.string s6) ∧
 (ByteArray.size (ByteArray.mk (Array.mk [120, 1]) ++ x0) + ByteArray.size s6 ≤ 9223372036854775807 ∧
 R (Value.string (ByteArray.mk (Array.mk [120, 1]) ++ x0 ++ s6)) w5))))))
theorem vc_zlib_frame_ok {x0 : ByteArray} {x1 : ByteArray} {w : World} {R : Value → World → Prop} {R' : Ending → World → Prop} (h : vc_zlib_frame x0 x1 w R) (hR : ∀ v w', R v w' → R' (.returned v) w') :
    Calls Tryz.prog 45 #[.string x0, .string x1] w R' :=
  calls_of_body (vs := [(.string x0, false), (.string x1, false)]) (ty := ty) (ann := ⟨[], [], [], []⟩) (c := Tryz.f45.body.getD .skip) (by kernel_rfl) Tryz.func45 (by kernel_rfl) (by kernel_rfl) (Eq.mp (by kernel_rfl) h) hR
/-- zlib.Write -/
def vc_zlib_Write (x0 : ByteArray) (w : World) (R : Value → World → Prop) : Prop :=
 Calls Tryz.prog (46 : Nat) (Array.mk [Value.string x0]) (w) (fun e1 w2 =>
 ∃ s3 : ByteArray, (e1 = Ending.returned (Value.string s3) ∧
 Calls Tryz.prog (45 : Nat) (Array.mk [Value.string s3, Value.string x0]) (w2) (fun e4 w5 =>
 ∃ s6 : ByteArray, (e4 = Ending.returned (Value.string s6) ∧
 R (Value.string s6) w5))))
theorem vc_zlib_Write_ok {x0 : ByteArray} {w : World} {R : Value → World → Prop} {R' : Ending → World → Prop} (h : vc_zlib_Write x0 w R) (hR : ∀ v w', R v w' → R' (.returned v) w') :
    Calls Tryz.prog 20 #[.string x0] w R' :=
  calls_of_body (vs := [(.string x0, false)]) (ty := ty) (ann := ⟨[], [], [], []⟩) (c := Tryz.f20.body.getD .skip) (by kernel_rfl) Tryz.func20 (by kernel_rfl) (by kernel_rfl) (Eq.mp (by kernel_rfl) h) hR
end Go.Proofs.YtaaimcbicpgjoaaGreatDoor

/- The frame of RFC 1950: its head and its reading, of the program and of the reference. Conditions: bytes are bytes; the text is no longer than a slice may be. -/
set_option linter.unusedVariables false
namespace ZlM
open BitsM SumM Go.Proofs.YtaaimcbicpgjoaaGreatDoor
/-- Is it a head? -/
def head (a b : Nat) : Bool := a % 16 == 8 && (decide (a / 16 ≤ 7) && ((256 * a + b) % 31 == 0 && b / 32 % 2 == 0))
/-- The frame at a place: what it says, its bytes, the error's number. -/
noncomputable def read (s : List UInt8) (at_ most : Int) : List UInt8 × Nat × Nat :=
  if at_ < 0 ∨ (s.length : Int) < at_ ∨ most < 0 ∨ 65536 < most then ([], 0, 1)
  else if s.length < at_.toNat + 2 then ([], 0, 6)
  else if head (s.getD at_.toNat 0).toNat (s.getD (at_.toNat + 1) 0).toNat = false then ([], 0, 3)
  else if (InfM.inflate s (at_ + 2) most).2.2 ≠ 0 then ([], 0, (InfM.inflate s (at_ + 2) most).2.2)
  else if s.length < at_.toNat + 2 + (InfM.inflate s (at_ + 2) most).2.1 + 4 then ([], 0, 6)
  else if (s.drop (at_.toNat + 2 + (InfM.inflate s (at_ + 2) most).2.1)).take 4 ≠ bigB 4 (adler (InfM.inflate s (at_ + 2) most).1) then ([], 0, 5)
  else ((InfM.inflate s (at_ + 2) most).1, (InfM.inflate s (at_ + 2) most).2.1 + 6, 0)
/-- No more is taken than there is. -/
theorem inf_le {most : Nat} {B : List Bool} {out : List UInt8} {p : Nat} (h : InfM.inf most B = .ok (out, p)) : p ≤ B.length := by
  unfold InfM.inf at h
  have hc := InfM.blocks_cut (most := most) (Nat.le_refl B.length) (B.length + 1) (B.length + 1) 0 [] (Nat.zero_le _) (by omega) out p h
  rw [List.take_length, h] at hc
  split at hc
  · assumption
  · cases hc
theorem inflate_le {s : List UInt8} {at_ most : Int} (h : (InfM.inflate s at_ most).2.2 = 0) : at_.toNat + (InfM.inflate s at_ most).2.1 ≤ s.length ∧ 0 ≤ at_ := by
  unfold InfM.inflate at h ⊢
  split at h
  · cases h
  · rename_i hc
    rw [if_neg hc]
    cases hi : InfM.inf most.toNat (sbits (s.drop at_.toNat)) with
    | error e =>
      dsimp only
      omega
    | ok x =>
      obtain ⟨out, p⟩ := x
      have := inf_le hi
      rw [sbits_length, List.length_drop] at this
      dsimp only
      omega
theorem inflate_len {s : List UInt8} {at_ most : Int} (h : (InfM.inflate s at_ most).2.2 = 0) : ((InfM.inflate s at_ most).1.length : Int) ≤ 65536 := by
  unfold InfM.inflate at h ⊢
  split at h
  · cases h
  · rename_i hc
    rw [if_neg hc]
    cases hi : InfM.inf most.toNat (sbits (s.drop at_.toNat)) with
    | error e => dsimp only; decide
    | ok x =>
      obtain ⟨out, p⟩ := x
      dsimp only
      unfold InfM.inf at hi
      rcases InfM.blocks_good (Nat.le_refl most.toNat) (sbits (s.drop at_.toNat)) ((sbits (s.drop at_.toNat)).length + 1) 0 [] (Nat.zero_le _) with hg | ⟨_, hg⟩
      · rw [hi] at hg; cases hg
      · have := hg _ _ hi
        omega
theorem read_bad {s : List UInt8} {at_ most : Int} (h : (read s at_ most).2.2 ≠ 0) : (read s at_ most).1 = [] ∧ (read s at_ most).2.1 = 0 := by
  unfold read at h ⊢
  generalize InfM.inflate s (at_ + 2) most = q at h ⊢
  split
  · exact ⟨rfl, rfl⟩
  rename_i h1; rw [if_neg h1] at h
  split
  · exact ⟨rfl, rfl⟩
  rename_i h2; rw [if_neg h2] at h
  split
  · exact ⟨rfl, rfl⟩
  rename_i h3; rw [if_neg h3] at h
  split
  · exact ⟨rfl, rfl⟩
  rename_i h4; rw [if_neg h4] at h
  split
  · exact ⟨rfl, rfl⟩
  rename_i h5; rw [if_neg h5] at h
  split
  · exact ⟨rfl, rfl⟩
  rename_i h6; rw [if_neg h6] at h
  exact absurd rfl h
theorem read_ok {s : List UInt8} {most : Int} (h : (read s 0 most).2.2 = 0) : 2 ≤ s.length ∧ head (s.getD 0 0).toNat (s.getD 1 0).toNat = true ∧ (InfM.inflate s 2 most).2.2 = 0 ∧
    (read s 0 most).1 = (InfM.inflate s 2 most).1 ∧ (read s 0 most).2.1 = (InfM.inflate s 2 most).2.1 + 6 ∧ (InfM.inflate s 2 most).2.1 + 6 ≤ s.length := by
  unfold read at h ⊢
  rw [show (0 : Int) + 2 = 2 from rfl, show (0 : Int).toNat = 0 from rfl, Nat.zero_add] at h ⊢
  generalize InfM.inflate s 2 most = q at h ⊢
  split at h
  · cases h
  rename_i h1
  split at h
  · cases h
  rename_i h2
  split at h
  · cases h
  rename_i h3
  split at h
  · rename_i h4; exact absurd h h4
  rename_i h4
  split at h
  · cases h
  rename_i h5
  split at h
  · cases h
  rename_i h6
  rw [if_neg h1, if_neg h2, if_neg h3, if_neg h4, if_neg h5, if_neg h6]
  exact ⟨by omega, by simpa using h3, by omega, rfl, rfl, by omega⟩
/-- How many heads there are with this first byte and a second one below k. -/
def cnt (a : Nat) : Nat → Nat
  | 0 => 0
  | k + 1 => cnt a k + (if head a k = true then 1 else 0)
theorem cnt_all : ∀ a, a < 256 → ((a % 16 = 8 ∧ a / 16 ≤ 7) ↔ 0 < cnt a 256) ∧ cnt a 256 ≤ 5 := by decide +kernel
end ZlM
namespace Go.Proofs.YtaaimcbicpgjoaaGreatDoor
open Go Vc BitsM SumM Go.Proofs

theorem and32 : ∀ b, b < 256 → ((b &&& 32 == 0) = (b / 32 % 2 == 0)) := by decide +kernel
theorem zand15 (a : Nat) (ha : a < 256) : IntKind.u8.wrap (((BitVec.ofInt 8 (a : Int) &&& BitVec.ofInt 8 15).toNat : Nat) : Int) = ((a % 16 : Nat) : Int) := by
  have := and_nat 8 a 15 (by omega) (by decide)
  rw [show ((15 : Nat) : Int) = 15 from rfl, show a &&& 15 = a % 16 from and_mask a 4] at this
  rw [this, wrap_u8 (by omega) (by omega)]
theorem zand32 (b : Nat) (hb : b < 256) : (IntKind.u8.wrap (((BitVec.ofInt 8 (b : Int) &&& BitVec.ofInt 8 32).toNat : Nat) : Int) == 0) = (b / 32 % 2 == 0) := by
  have := and_nat 8 b 32 (by omega) (by decide)
  rw [show ((32 : Nat) : Int) = 32 from rfl] at this
  have h2 : b &&& 32 < 256 := Nat.lt_of_le_of_lt Nat.and_le_left hb
  rw [this, wrap_u8 (by omega) (by omega), ← and32 b hb, Bool.eq_iff_iff]
  simp only [beq_iff_eq]; omega
theorem zshr4 (a : Nat) : Int.fdiv (a : Int) (2 ^ min (Int.toNat 4) 8) = ((a / 16 : Nat) : Int) := by
  rw [show (2 : Int) ^ min (Int.toNat 4) 8 = ((16 : Nat) : Int) from rfl, Int.fdiv_eq_ediv_of_nonneg _ (Int.natCast_nonneg _), ← Int.natCast_ediv]
/-- 'Head'. -/
theorem zhead_spec (a b : Nat) (ha : a < 256) (hb : b < 256) (w : World) :
    Calls Tryz.prog F_zlib_Head #[.int .u8 (a : Int), .int .u8 (b : Int)] w fun e w' => e = .returned (.bool (ZlM.head a b)) ∧ w' = w := by
  refine vc_zlib_Head_ok (R := fun v w' => v = .bool (ZlM.head a b) ∧ w' = w) ?_ (fun v w' h => ⟨by rw [h.1], h.2⟩)
  have e1 : Int.tmod (IntKind.i64.wrap (((BitVec.ofInt 64 (IntKind.i64.wrap (IntKind.i64.wrap (a : Int) * 2 ^ min (Int.toNat 8) 64)) ||| BitVec.ofInt 64 (IntKind.i64.wrap (b : Int))).toNat : Nat) : Int)) 31 = (((256 * a + b) % 31 : Nat) : Int) := by
    have hor : 2 ^ 8 * a ||| b = 2 ^ 8 * a + b := (Nat.two_pow_add_eq_or_of_lt hb _).symm
    rw [wrap_i64 (x := (a : Int)) (by omega) (by omega), show (a : Int) * 2 ^ min (Int.toNat 8) 64 = ((2 ^ 8 * a : Nat) : Int) by
      rw [show (2 : Int) ^ min (Int.toNat 8) 64 = ((2 ^ 8 : Nat) : Int) from rfl, ← Int.natCast_mul, Nat.mul_comm],
      wrap_i64 (x := ((2 ^ 8 * a : Nat) : Int)) (by omega) (by omega), wrap_i64 (x := (b : Int)) (by omega) (by omega), or_nat 64 _ _ (by omega) (by omega), hor, wrap_i64 (by omega) (by omega), Int.tmod_eq_emod_of_nonneg (by omega)]
    omega
  rw [vc_zlib_Head, zand15 a ha, zshr4, e1, zand32 b hb]
  unfold ZlM.head
  refine ⟨fun h1 => ⟨by decide, fun h2 => ⟨by decide, by decide, fun h3 => ?_, fun h3 => ?_⟩, fun h2 => ?_⟩, fun h1 => ?_⟩
  · have h1 : a % 16 = 8 := by have := eq_of_beq h1; omega
    have h2 := of_decide_eq_true h2
    have h3 : (256 * a + b) % 31 = 0 := by have := eq_of_beq h3; omega
    rw [h1, h3, decide_eq_true (show a / 16 ≤ 7 by omega)]
    exact ⟨rfl, rfl⟩
  · have h3 : ((256 * a + b) % 31 == 0) = false := by rw [Bool.eq_false_iff] at h3 ⊢; intro hh; have := eq_of_beq hh; exact h3 (by rw [this]; rfl)
    rw [h3]
    exact ⟨by simp, rfl⟩
  · have h2 := of_decide_eq_false h2
    rw [decide_eq_false (show ¬ a / 16 ≤ 7 by omega)]
    exact ⟨by simp, rfl⟩
  · have h1 : (a % 16 == 8) = false := by rw [Bool.eq_false_iff] at h1 ⊢; intro hh; have := eq_of_beq hh; exact h1 (by rw [this]; rfl)
    rw [h1]
    exact ⟨by simp, rfl⟩
/-- The reference's 'Head'. -/
theorem byt_getD (s : ByteArray) (i : Nat) : byt s i = (s.data.toList.getD i 0).toNat := by
  unfold byt; rw [List.getD_eq_getElem?_getD]
/-- 'Read'. -/
theorem zread_spec (s : ByteArray) (hs : s.size ≤ 100000000) (at_ most : Int) (w : World) :
    Calls Tryz.prog F_zlib_Read #[.string s, .int .i64 at_, .int .i64 most] w fun e w' => e = .returned (ans3 (ZlM.read s.data.toList at_ most)) ∧
      ((ZlM.read s.data.toList at_ most).2.2 = 0 → ((ZlM.read s.data.toList at_ most).1.length : Int) ≤ most) ∧ Fr (fun _ => False) w w' := by
  refine vc_zlib_Read_ok (R := fun v w' => v = ans3 (ZlM.read s.data.toList at_ most) ∧ ((ZlM.read s.data.toList at_ most).2.2 = 0 → ((ZlM.read s.data.toList at_ most).1.length : Int) ≤ most) ∧ Fr (fun _ => False) w w') ?_ (fun v w' h => ⟨by rw [h.1], h.2⟩)
  have hsl : s.data.toList.length = s.size := by simp
  obtain ⟨r, hr⟩ : ∃ r, ZlM.read s.data.toList at_ most = r := ⟨_, rfl⟩
  rw [hr]
  unfold ZlM.read at hr
  rw [hsl] at hr
  have bad : ∀ {e : Nat} {w' : World}, e ≠ 0 → ([], 0, e) = r → Fr (fun _ => False) w w' → Value.tuple #[.string ⟨#[]⟩, .int .i64 0, .int .i64 (e : Int)] = ans3 r ∧ (r.2.2 = 0 → (r.1.length : Int) ≤ most) ∧ Fr (fun _ => False) w w' := fun he hh hf => by
    subst hh
    exact ⟨rfl, fun h => absurd h he, hf⟩
  refine ⟨fun h1 => ?_, fun h1 => ⟨fun h2 => ?_, fun h2 => ⟨fun h3 => ?_, fun h3 => ⟨fun h4 => ?_, fun h4 => ?_⟩⟩⟩⟩
  · rw [if_pos (.inl (of_decide_eq_true h1))] at hr; exact bad (by decide) hr (.refl _ _)
  · rw [if_pos (.inr (.inl (of_decide_eq_true h2)))] at hr; exact bad (by decide) hr (.refl _ _)
  · rw [if_pos (.inr (.inr (.inl (of_decide_eq_true h3))))] at hr; exact bad (by decide) hr (.refl _ _)
  · rw [if_pos (.inr (.inr (.inr (of_decide_eq_true h4))))] at hr; exact bad (by decide) hr (.refl _ _)
  have h1 := of_decide_eq_false h1
  have h2 := of_decide_eq_false h2
  have h3 := of_decide_eq_false h3
  have h4 := of_decide_eq_false h4
  obtain ⟨off, rfl⟩ : ∃ off : Nat, at_ = (off : Int) := ⟨at_.toNat, by omega⟩
  rw [if_neg (by omega), Int.toNat_natCast] at hr
  have e1 : IntKind.i64.wrap ((s.size : Int) - (off : Int)) = ((s.size - off : Nat) : Int) := by rw [wrap_i64 (by omega) (by omega)]; omega
  have e2 : IntKind.i64.wrap ((off : Int) + 1) = ((off + 1 : Nat) : Int) := by rw [wrap_i64 (by omega) (by omega)]; omega
  have e3 : IntKind.i64.wrap ((off : Int) + 2) = ((off + 2 : Nat) : Int) := by rw [wrap_i64 (by omega) (by omega)]; omega
  rw [e1, e2, e3]
  refine ⟨fun hlt => ?_, fun hge w1 d1 => ?_⟩
  · have hlt := of_decide_eq_true hlt
    rw [if_pos (by omega)] at hr; exact bad (by decide) hr (.refl _ _)
  have hge := of_decide_eq_false hge
  rw [if_neg (by omega), ← byt_getD, ← byt_getD] at hr
  refine ⟨fun w' => True, trivial, ⟨by omega, by omega⟩, ⟨by omega, by omega⟩, ?_⟩
  rw [byteAt_nat, byteAt_nat]
  refine (zhead_spec _ _ (byt_lt s off) (byt_lt s (off + 1)) w1).mono ?_
  rintro e w4 ⟨rfl, hw⟩
  replace hw := hw.symm
  subst hw
  generalize ZlM.head (byt s off) (byt s (off + 1)) = hd at hr
  refine ⟨_, rfl, trivial, fun hno => ?_, fun hyes => ?_⟩
  · have hno : hd = false := by simpa using hno
    rw [if_pos hno] at hr; exact bad (by decide) hr (.drew _ d1)
  have hyes : hd = true := by simpa using hyes
  rw [if_neg (by rw [hyes]; decide)] at hr
  rw [show ((off + 2 : Nat) : Int) = (off : Int) + 2 by omega]
  refine (infl_spec s (by omega) ((off : Int) + 2) most w1).mono ?_
  have hle := ZlM.inflate_le (s := s.data.toList) (at_ := (off : Int) + 2) (most := most)
  rw [hsl] at hle
  generalize InfM.inflate s.data.toList ((off : Int) + 2) most = q at hr hle
  rintro e w7 ⟨rfl, hlen, hf7⟩
  have hf7' : Fr (fun _ => False) w w7 := (Fr.drew _ d1).trans' hf7
  refine ⟨_, _, _, rfl, fun hne => ?_, fun heq => ?_⟩
  · have hne : q.2.2 ≠ 0 := by simpa using hne
    rw [if_pos hne] at hr
    exact bad hne hr hf7'
  have heq : q.2.2 = 0 := by simpa using heq
  rw [if_neg (by omega)] at hr
  have hle := hle heq
  have e4 : IntKind.i64.wrap ((off : Int) + 2 + (q.2.1 : Int)) = ((off + 2 + q.2.1 : Nat) : Int) := by rw [wrap_i64 (by omega) (by omega)]; omega
  have e5 : IntKind.i64.wrap ((s.size : Int) - ((off + 2 + q.2.1 : Nat) : Int)) = ((s.size - (off + 2 + q.2.1) : Nat) : Int) := by rw [wrap_i64 (by omega) (by omega)]; omega
  have e6 : IntKind.i64.wrap (((off + 2 + q.2.1 : Nat) : Int) + 4) = ((off + 2 + q.2.1 + 4 : Nat) : Int) := by rw [wrap_i64 (by omega) (by omega)]; omega
  rw [e4, e5, e6]
  refine ⟨fun hlt => ?_, fun hge => ?_⟩
  · have hlt := of_decide_eq_true hlt
    rw [if_pos (by omega)] at hr; exact bad (by decide) hr hf7'
  have hge := of_decide_eq_false hge
  rw [if_neg (by omega)] at hr
  refine ⟨⟨by omega, by omega, by omega⟩, ?_⟩
  rw [Int.toNat_natCast, Int.toNat_natCast]
  have hx : (s.extract (off + 2 + q.2.1) (off + 2 + q.2.1 + 4)).data.toList = (s.data.toList.drop (off + 2 + q.2.1)).take 4 := by
    rw [extract_list, Nat.add_sub_cancel_left]
  have hxl : ((s.data.toList.drop (off + 2 + q.2.1)).take 4).length = 4 := by rw [List.length_take, List.length_drop]; omega
  refine (frombig_spec (s.extract (off + 2 + q.2.1) (off + 2 + q.2.1 + 4)) (by simp; omega) w7).mono ?_
  rw [hx]
  rintro e w12 ⟨rfl, hw⟩
  replace hw := hw.symm
  subst hw
  have hq1 : ((⟨q.1.toArray⟩ : ByteArray)).data.toList = q.1 := by simp
  have hn8 := num8_lt 4 _ hxl
  have hb8 := bigB_num8 4 _ hxl
  have had := adler_lt q.1
  have hmost := hlen heq
  refine ⟨_, rfl, (adler_spec ⟨q.1.toArray⟩ (by simp [ByteArray.size]; omega) w7).mono ?_⟩
  rw [hq1]
  rintro e w15 ⟨rfl, hf15⟩
  rw [wrap_u32 (by omega) (by omega)]
  refine ⟨_, rfl, fun hne => ?_, fun heq2 => ?_⟩
  · have hne : num8 ((s.data.toList.drop (off + 2 + q.2.1)).take 4) ≠ adler q.1 := fun hh => by rw [hh] at hne; simp at hne
    rw [if_pos (fun hh => hne (by rw [hh]; exact num8_bigB 4 _ (by omega)))] at hr
    exact bad (by decide) hr (hf7'.trans' hf15)
  · have heq2 : num8 ((s.data.toList.drop (off + 2 + q.2.1)).take 4) = adler q.1 := Int.ofNat.inj (by simpa using heq2)
    rw [if_neg (fun hh => hh (by rw [← heq2]; exact hb8.symm))] at hr
    subst hr
    have e7 : IntKind.i64.wrap ((q.2.1 : Int) + 6) = ((q.2.1 + 6 : Nat) : Int) := by rw [wrap_i64 (by omega) (by omega)]; omega
    rw [e7]
    exact ⟨rfl, fun _ => hmost, hf7'.trans' hf15⟩
end Go.Proofs.YtaaimcbicpgjoaaGreatDoor

/- Formulas of 5 Go functions of this seat (written by a program of the author's, vcgen.py), and that each is enough for the call. No condition. -/
set_option linter.unusedVariables false
namespace Go.Proofs.YtaaimcbicpgjoaaGreatDoor
open Go Vc Go.Proofs
set_option maxRecDepth 100000
/-- (*bitin.Writer).Bits -/
def vc_bitin_Writer_Bits (x0 : Nat) (x1 : Int) (x2 : Int) (w : World) (R : Value → World → Prop) : Prop :=
 (((decide (x2 < 0) = true →
 R (Value.tuple (Array.mk [])) w)) ∧
 (decide (x2 < 0) = false →
 (((decide (x2 > 32) = true →
 R (Value.tuple (Array.mk [])) w)) ∧
 (decide (x2 > 32) = false →
 ∀ w1 : World,
 (Drew w w1 →
 ∃ n2 : Int, (World.cell? w1 (Addr.mk x0 1 none) = some (Value.int IntKind.u64 n2) ∧
 (0 ≤ x2 ∧
 ∃ n3 : Int, (World.cell? w1 (Addr.mk x0 2 none) = some (Value.int IntKind.i64 n3) ∧
 (0 ≤ n3 ∧
 (Wr w1 (Addr.mk x0 1 none) ∧
 ∀ w4 : World,
 (w4 = World.setCell w1 (Addr.mk x0 1 none) (Value.int IntKind.u64 (IntKind.wrap IntKind.u64 (↑(BitVec.toNat (BitVec.ofInt 64 n2 ||| BitVec.ofInt 64 (IntKind.wrap IntKind.u64 (IntKind.wrap IntKind.u64 (↑(BitVec.toNat (BitVec.ofInt 64 (IntKind.wrap IntKind.u64 x1) &&& BitVec.ofInt 64 (IntKind.wrap IntKind.u64 (IntKind.wrap IntKind.u64 (1 * 2 ^ min (Int.toNat x2) 64) - 1)))) : Int) * 2 ^ min (Int.toNat n3) 64)))) : Int))) →
 ∃ n5 : Int, (World.cell? w4 (Addr.mk x0 2 none) = some (Value.int IntKind.i64 n5) ∧
 (Wr w4 (Addr.mk x0 2 none) ∧
 ∀ w6 : World,
 (w6 = World.setCell w4 (Addr.mk x0 2 none) (Value.int IntKind.i64 (IntKind.wrap IntKind.i64 (n5 + x2))) →
 ∃ I7 : World → Prop, ∃ I8 : World → Nat, (I7 w6 ∧
 ∀ w9 : World,
 (I7 w9 →
 ∃ n10 : Int, (World.cell? w9 (Addr.mk x0 2 none) = some (Value.int IntKind.i64 n10) ∧
 (((decide (n10 ≥ 8) = true →
 ∀ w11 : World,
 (Drew w9 w11 →
 ∃ I12 : World → Prop, (I12 w11 ∧
 ∃ l13 : Sl, ((∀ w14 : World,
 (I12 w14 →
 World.cell? w14 (Addr.mk x0 0 none) = some (Value.slice l13.1 l13.2 l13.3))) ∧
 ∃ n15 : Int, ((∀ w16 : World,
 (I12 w16 →
 World.cell? w16 (Addr.mk x0 1 none) = some (Value.int IntKind.u64 n15))) ∧
 ∀ w17 : World,
 (w17 = World.alloc w11 (Obj.cells (Array.mk [Value.int IntKind.u8 (IntKind.wrap IntKind.u8 n15)]) 5) →
 (I12 w17 ∧
 ∃ w18 : World, ∃ l19 : Sl, (Sem.run Tryz.prog (Builtin.append_ (Array.mk [60, 60]) 60 (Array.mk [Value.slice l13.1 l13.2 l13.3, Value.slice (some (Addr.mk (Array.size (World.heap w11)) 0 none)) 1 1])) w17 = Result.ok (Value.slice l19.1 l19.2 l19.3) w18 ∧
 (I12 w18 ∧
 (Wr w18 (Addr.mk x0 0 none) ∧
 ∀ w20 : World,
 (w20 = World.setCell w18 (Addr.mk x0 0 none) (Value.slice l19.1 l19.2 l19.3) →
 ∃ n21 : Int, (World.cell? w20 (Addr.mk x0 1 none) = some (Value.int IntKind.u64 n21) ∧
 ((0 : Int) ≤ (8 : Int) ∧
 (Wr w20 (Addr.mk x0 1 none) ∧
 ∀ w22 : World,
 (w22 = World.setCell w20 (Addr.mk x0 1 none) (Value.int IntKind.u64 (Int.fdiv n21 (2 ^ min (Int.toNat 8) 64))) →
 ∃ n23 : Int, (World.cell? w22 (Addr.mk x0 2 none) = some (Value.int IntKind.i64 n23) ∧
 (Wr w22 (Addr.mk x0 2 none) ∧
 ∀ w24 : World,
 (w24 = World.setCell w22 (Addr.mk x0 2 none) (Value.int IntKind.i64 (IntKind.wrap IntKind.i64 (n23 - 8))) →
 (I7 w24 ∧
 I8 w24 < I8 w9)))))))))))))))))))) ∧
 (decide (n10 ≥ 8) = false →
 R (Value.tuple (Array.mk [])) w9)))))))))))))))))))
theorem vc_bitin_Writer_Bits_ok {x0 : Nat} {x1 : Int} {x2 : Int} {w : World} {R : Value → World → Prop} {R' : Ending → World → Prop} (h : vc_bitin_Writer_Bits x0 x1 x2 w R) (hR : ∀ v w', R v w' → R' (.returned v) w') :
    Calls Tryz.prog 63 #[.pointer (some ⟨x0, 0, none⟩), .int .u32 x1, .int .i64 x2] w R' :=
  calls_of_body (vs := [(.pointer (some ⟨x0, 0, none⟩), true), (.int .u32 x1, false), (.int .i64 x2, false)]) (ty := ty) (ann := ⟨[], [(3, [])], [(1, .tail 18), (4, .held [(0, true), (1, true), (2, true), (3, true), (4, true), (5, true), (6, true), (7, true), (8, true), (9, true), (10, false), (11, false), (12, true), (13, true), (14, false)])], []⟩) (c := Tryz.f63.body.getD .skip) (by kernel_rfl) Tryz.func63 (by kernel_rfl) (by kernel_rfl) (Eq.mp (by kernel_rfl) h) hR
/-- (*bitin.Writer).Code -/
def vc_bitin_Writer_Code (x0 : Nat) (x1 : Int) (x2 : Int) (w : World) (R : Value → World → Prop) : Prop :=
 (((decide (x2 < 1) = true →
 R (Value.tuple (Array.mk [])) w)) ∧
 (decide (x2 < 1) = false →
 (((decide (x2 > 32) = true →
 R (Value.tuple (Array.mk [])) w)) ∧
 (decide (x2 > 32) = false →
 ∃ I1 : Int → World → Prop, ∃ I2 : Int → World → Nat, (I1 (IntKind.wrap IntKind.i64 (x2 - 1)) w ∧
 ∀ n3 : Int,
 ∀ w4 : World,
 (I1 n3 w4 →
 (((decide (n3 ≥ 0) = true →
 (0 ≤ n3 ∧
 Calls Tryz.prog (63 : Nat) (Array.mk [Value.pointer (some (Addr.mk x0 0 none)), Value.int IntKind.u32 (Int.fdiv x1 (2 ^ min (Int.toNat n3) 32)), Value.int IntKind.i64 1]) (w4) (fun e5 w6 =>
 (e5 = Ending.returned (Value.tuple (Array.mk [])) ∧
 (I1 (IntKind.wrap IntKind.i64 (n3 - 1)) w6 ∧
 I2 (IntKind.wrap IntKind.i64 (n3 - 1)) w6 < I2 n3 w4)))))) ∧
 (decide (n3 ≥ 0) = false →
 R (Value.tuple (Array.mk [])) w4))))))))
theorem vc_bitin_Writer_Code_ok {x0 : Nat} {x1 : Int} {x2 : Int} {w : World} {R : Value → World → Prop} {R' : Ending → World → Prop} (h : vc_bitin_Writer_Code x0 x1 x2 w R) (hR : ∀ v w', R v w' → R' (.returned v) w') :
    Calls Tryz.prog 65 #[.pointer (some ⟨x0, 0, none⟩), .int .u32 x1, .int .i64 x2] w R' :=
  calls_of_body (vs := [(.pointer (some ⟨x0, 0, none⟩), true), (.int .u32 x1, false), (.int .i64 x2, false)]) (ty := ty) (ann := ⟨[], [(2, [(6, .int .i64)])], [], []⟩) (c := Tryz.f65.body.getD .skip) (by kernel_rfl) Tryz.func65 (by kernel_rfl) (by kernel_rfl) (Eq.mp (by kernel_rfl) h) hR
/-- (*bitin.Writer).Text -/
def vc_bitin_Writer_Text (x0 : Nat) (w : World) (R : Value → World → Prop) : Prop :=
 ∃ n1 : Int, (World.cell? w (Addr.mk x0 2 none) = some (Value.int IntKind.i64 n1) ∧
 (((decide (n1 > 0) = true →
 ∀ w2 : World,
 (Drew w w2 →
 ∃ I3 : World → Prop, (I3 w2 ∧
 ∃ l4 : Sl, ((∀ w5 : World,
 (I3 w5 →
 World.cell? w5 (Addr.mk x0 0 none) = some (Value.slice l4.1 l4.2 l4.3))) ∧
 ∃ n6 : Int, ((∀ w7 : World,
 (I3 w7 →
 World.cell? w7 (Addr.mk x0 1 none) = some (Value.int IntKind.u64 n6))) ∧
 ∃ s8 : ByteArray, ((∀ w9 : World,
 (I3 w9 →
 Sem.run Tryz.prog (convert 60 9 (Value.slice l4.1 l4.2 l4.3)) w9 = Result.ok (Value.string s8) w9)) ∧
 ∀ w10 : World,
 (w10 = World.alloc w2 (Obj.cells (Array.mk [Value.int IntKind.u8 (IntKind.wrap IntKind.u8 n6)]) 5) →
 (I3 w10 ∧
 ∃ w11 : World, ∃ s12 : ByteArray, (Sem.run Tryz.prog (convert 60 9 (Value.slice (some (Addr.mk (Array.size (World.heap w2)) 0 none)) 1 1)) w10 = Result.ok (Value.string s12) w11 ∧
 (I3 w11 ∧
 (ByteArray.size s8 + ByteArray.size s12 ≤ 9223372036854775807 ∧
 R (Value.string (s8 ++ s12)) w11)))))))))))) ∧
 (decide (n1 > 0) = false →
 ∃ l13 : Sl, (World.cell? w (Addr.mk x0 0 none) = some (Value.slice l13.1 l13.2 l13.3) ∧
 ∃ w14 : World, ∃ s15 : ByteArray, (Sem.run Tryz.prog (convert 60 9 (Value.slice l13.1 l13.2 l13.3)) w = Result.ok (Value.string s15) w14 ∧
 R (Value.string s15) w14)))))
theorem vc_bitin_Writer_Text_ok {x0 : Nat} {w : World} {R : Value → World → Prop} {R' : Ending → World → Prop} (h : vc_bitin_Writer_Text x0 w R) (hR : ∀ v w', R v w' → R' (.returned v) w') :
    Calls Tryz.prog 69 #[.pointer (some ⟨x0, 0, none⟩)] w R' :=
  calls_of_body (vs := [(.pointer (some ⟨x0, 0, none⟩), true)]) (ty := ty) (ann := ⟨[], [], [(2, .held [(0, true), (1, true), (2, true), (3, true), (5, true), (6, true), (7, true), (8, true), (9, true), (4, true), (10, false), (11, false), (12, true), (13, true)])], []⟩) (c := Tryz.f69.body.getD .skip) (by kernel_rfl) Tryz.func69 (by kernel_rfl) (by kernel_rfl) (Eq.mp (by kernel_rfl) h) hR
/-- (*bitin.Writer).Align -/
def vc_bitin_Writer_Align (x0 : Nat) (w : World) (R : Value → World → Prop) : Prop :=
 ∃ n1 : Int, (World.cell? w (Addr.mk x0 2 none) = some (Value.int IntKind.i64 n1) ∧
 (((decide (n1 > 0) = true →
 ∃ n2 : Int, (World.cell? w (Addr.mk x0 2 none) = some (Value.int IntKind.i64 n2) ∧
 Calls Tryz.prog (63 : Nat) (Array.mk [Value.pointer (some (Addr.mk x0 0 none)), Value.int IntKind.u32 0, Value.int IntKind.i64 (IntKind.wrap IntKind.i64 (8 - n2))]) (w) (fun e3 w4 =>
 (e3 = Ending.returned (Value.tuple (Array.mk [])) ∧
 R (Value.tuple (Array.mk [])) w4))))) ∧
 (decide (n1 > 0) = false →
 R (Value.tuple (Array.mk [])) w)))
theorem vc_bitin_Writer_Align_ok {x0 : Nat} {w : World} {R : Value → World → Prop} {R' : Ending → World → Prop} (h : vc_bitin_Writer_Align x0 w R) (hR : ∀ v w', R v w' → R' (.returned v) w') :
    Calls Tryz.prog 109 #[.pointer (some ⟨x0, 0, none⟩)] w R' :=
  calls_of_body (vs := [(.pointer (some ⟨x0, 0, none⟩), true)]) (ty := ty) (ann := ⟨[], [], [], []⟩) (c := Tryz.f109.body.getD .skip) (by kernel_rfl) Tryz.func109 (by kernel_rfl) (by kernel_rfl) (Eq.mp (by kernel_rfl) h) hR
/-- (*bitin.Writer).Bytes -/
def vc_bitin_Writer_Bytes (x0 : Nat) (x1 : ByteArray) (w : World) (R : Value → World → Prop) : Prop :=
 Calls Tryz.prog (109 : Nat) (Array.mk [Value.pointer (some (Addr.mk x0 0 none))]) (w) (fun e1 w2 =>
 (e1 = Ending.returned (Value.tuple (Array.mk [])) ∧
 ∃ l3 : Sl, (World.cell? w2 (Addr.mk x0 0 none) = some (Value.slice l3.1 l3.2 l3.3) ∧
 ∃ w4 : World, ∃ l5 : Sl, (Sem.run Tryz.prog (Builtin.append_ (Array.mk [60, 9]) 60 (Array.mk [Value.slice l3.1 l3.2 l3.3, Value.string x1])) w2 = Result.ok (Value.slice l5.1 l5.2 l5.3) w4 ∧
 (Wr w4 (Addr.mk x0 0 none) ∧
 ∀ w6 : World,
 (w6 = World.setCell w4 (Addr.mk x0 0 none) (Value.slice l5.1 l5.2 l5.3) →
 R (Value.tuple (Array.mk [])) w6))))))
theorem vc_bitin_Writer_Bytes_ok {x0 : Nat} {x1 : ByteArray} {w : World} {R : Value → World → Prop} {R' : Ending → World → Prop} (h : vc_bitin_Writer_Bytes x0 x1 w R) (hR : ∀ v w', R v w' → R' (.returned v) w') :
    Calls Tryz.prog 93 #[.pointer (some ⟨x0, 0, none⟩), .string x1] w R' :=
  calls_of_body (vs := [(.pointer (some ⟨x0, 0, none⟩), true), (.string x1, false)]) (ty := ty) (ann := ⟨[], [], [], []⟩) (c := Tryz.f93.body.getD .skip) (by kernel_rfl) Tryz.func93 (by kernel_rfl) (by kernel_rfl) (Eq.mp (by kernel_rfl) h) hR
end Go.Proofs.YtaaimcbicpgjoaaGreatDoor

/- What each method of the bit writer does, for every writer that is in order. Conditions: there are fewer than 2 to the 40th bits; a code's bits are a number of 32 bits. -/
set_option linter.unusedVariables false
namespace Go.Proofs.YtaaimcbicpgjoaaGreatDoor
open Go Vc BitsM Go.Proofs

theorem elU8 : El Tryz.prog T_S_uint8 T_uint8 (.int .u8 0) 1 := ⟨by kernel_rfl, by kernel_rfl, rfl⟩
/-- A writer that has l, of which m bytes are out. -/
structure WrAt (w : World) (b : Nat) (sl : Sl) (l : List Bool) (m : Nat) : Prop where
  lo : 8 * m ≤ l.length
  blk : w.heap[b]? = some (.cells #[.slice sl.a sl.len sl.cap, .int .u64 ((num (l.drop (8 * m)) : Nat) : Int), .int .i64 ((l.length - 8 * m : Nat) : Int)] T_bitin_Writer (0, 0))
  own : Vc.Own w (b + 1) T_uint8 sl (byteV (bytesOf l m))
/-- A writer in order. -/
def Wrt (w : World) (b : Nat) (sl : Sl) (l : List Bool) : Prop := WrAt w b sl l (l.length / 8) ∧ l.length ≤ 1099511627776
/-- The blocks that a writer's methods write. -/
def WX (b : Nat) (sl : Sl) (k : Nat) : Prop := k = b ∨ At sl k
section
variable {w w2 : World} {b : Nat} {sl : Sl} {l : List Bool} {m : Nat}
theorem WrAt.c0 (h : WrAt w b sl l m) : w.cell? ⟨b, 0, none⟩ = some (.slice sl.a sl.len sl.cap) := by rw [cell_blk h.blk]; rfl
theorem WrAt.c1 (h : WrAt w b sl l m) : w.cell? ⟨b, 1, none⟩ = some (.int .u64 ((num (l.drop (8 * m)) : Nat) : Int)) := by rw [cell_blk h.blk]; rfl
theorem WrAt.c2 (h : WrAt w b sl l m) : w.cell? ⟨b, 2, none⟩ = some (.int .i64 ((l.length - 8 * m : Nat) : Int)) := by rw [cell_blk h.blk]; rfl
theorem WrAt.keep (h : WrAt w b sl l m) {X : Nat → Prop} (hf : Fr X w w2) (hx : ¬ X b) (hs : ∀ y, sl.a = some y → ¬ X y.block) : WrAt w2 b sl l m := ⟨h.lo, hf.keep h.blk hx, h.own.keep hf hs⟩
theorem WrAt.drew (h : WrAt w b sl l m) (d : Drew w w2) : WrAt w2 b sl l m := h.keep (.drew (fun _ => False) d) (by simp) (by simp)
theorem Wrt.keep (h : Wrt w b sl l) {X : Nat → Prop} (hf : Fr X w w2) (hx : ¬ X b) (hs : ∀ y, sl.a = some y → ¬ X y.block) : Wrt w2 b sl l := ⟨h.1.keep hf hx hs, h.2⟩
theorem Wrt.lt (h : Wrt w b sl l) : b < w.heap.size := lt_blk h.1.blk
/-- A writer that has nothing. -/
theorem Wrt.zero {w : World} {b : Nat} (h : w.heap[b]? = some (.cells #[.slice none 0 0, .int .u64 0, .int .i64 0] T_bitin_Writer)) : Wrt w b ⟨none, 0, 0⟩ [] :=
  ⟨⟨by simp, h, .nil _ _ _⟩, by simp⟩
theorem num_or (l : List Bool) (y : Nat) : num l ||| (y * 2 ^ l.length) = num l + 2 ^ l.length * y := by
  rw [Nat.mul_comm y, Nat.or_comm, ← Nat.two_pow_add_eq_or_of_lt (num_lt l), Nat.add_comm]
end

/-- The lowest n bits of x are put. -/
theorem wbits_spec {w : World} {b : Nat} {sl : Sl} {l : List Bool} (h : Wrt w b sl l) {x n : Nat} (hx : x < 4294967296) (hn : n ≤ 32) (hl : l.length + n ≤ 1099511627776) :
    Calls Tryz.prog F_bitin_Writer_Bits #[.pointer (some ⟨b, 0, none⟩), .int .u32 x, .int .i64 n] w fun e w' =>
      e = .returned (.tuple #[]) ∧ ∃ sl', Wrt w' b sl' (l ++ lowB n x) ∧ Fr (WX b sl) w w' ∧ Since w sl sl' := by
  refine vc_bitin_Writer_Bits_ok (R := fun v w' => v = .tuple #[] ∧ ∃ sl', Wrt w' b sl' (l ++ lowB n x) ∧ Fr (WX b sl) w w' ∧ Since w sl sl') ?_ (fun v w' h => ⟨by rw [h.1], h.2⟩)
  refine ⟨fun hlt => absurd (of_decide_eq_true hlt) (by omega), fun _ => ⟨fun hgt => absurd (of_decide_eq_true hgt) (by omega), fun _ => ?_⟩⟩
  intro w1 d1
  obtain ⟨h, _⟩ := h
  have h1 := h.drew d1
  have hlen : (l.drop (8 * (l.length / 8))).length = l.length - 8 * (l.length / 8) := List.length_drop
  have hnum := num_lt (l.drop (8 * (l.length / 8)))
  rw [hlen] at hnum
  have hp1 : 2 ^ (l.length - 8 * (l.length / 8)) ≤ 2 ^ 7 := Nat.pow_le_pow_right (by decide) (by omega)
  refine ⟨_, h1.c1, by omega, _, h1.c2, by omega, wr_blk h1.blk (by simp), ?_⟩
  have hhold : IntKind.u64.wrap (((BitVec.ofInt 64 ((num (l.drop (8 * (l.length / 8))) : Nat) : Int) ||| BitVec.ofInt 64 (IntKind.u64.wrap (IntKind.u64.wrap (((BitVec.ofInt 64 (IntKind.u64.wrap (x : Int)) &&& BitVec.ofInt 64 (IntKind.u64.wrap (IntKind.u64.wrap (1 * 2 ^ min ((n : Int)).toNat 64) - 1))).toNat : Nat) : Int) * 2 ^ min ((l.length - 8 * (l.length / 8) : Nat) : Int).toNat 64))).toNat : Nat) : Int) = ((num ((l ++ lowB n x).drop (8 * (l.length / 8))) : Nat) : Int) := by
    have hm : min ((n : Int)).toNat 64 = n := by omega
    have hm2 : min ((l.length - 8 * (l.length / 8) : Nat) : Int).toNat 64 = l.length - 8 * (l.length / 8) := by omega
    have hp : 2 ^ n ≤ 2 ^ 32 := Nat.pow_le_pow_right (by decide) hn
    have h1 := Nat.two_pow_pos n
    have hc : (2 : Int) ^ n = ((2 ^ n : Nat) : Int) := by push_cast; rfl
    have hmask : IntKind.u64.wrap (IntKind.u64.wrap (1 * 2 ^ min ((n : Int)).toNat 64) - 1) = ((2 ^ n - 1 : Nat) : Int) := by
      rw [hm, Int.one_mul, hc, wrap_u64 (x := ((2 ^ n : Nat) : Int)) (by omega) (by omega), wrap_u64 (by omega) (by omega)]
      omega
    have hand : x &&& (2 ^ n - 1) = x % 2 ^ n := Nat.and_two_pow_sub_one_eq_mod x n
    have hxm : x % 2 ^ n < 2 ^ n := Nat.mod_lt _ h1
    rw [hmask, wrap_u64 (x := (x : Int)) (by omega) (by omega), and_nat 64 _ _ (by omega) (by omega), hand, hm2]
    have hc2 : (2 : Int) ^ (l.length - 8 * (l.length / 8)) = ((2 ^ (l.length - 8 * (l.length / 8)) : Nat) : Int) := by push_cast; rfl
    have hmul : x % 2 ^ n * 2 ^ (l.length - 8 * (l.length / 8)) ≤ 2 ^ 32 * 2 ^ 7 := Nat.mul_le_mul (by omega) hp1
    rw [wrap_u64 (x := ((x % 2 ^ n : Nat) : Int)) (by omega) (by omega), hc2, ← Int.natCast_mul, wrap_u64 (x := ((x % 2 ^ n * 2 ^ (l.length - 8 * (l.length / 8)) : Nat) : Int)) (by omega) (by omega)]
    rw [or_nat 64 _ _ (by omega) (by omega)]
    have hor := num_or (l.drop (8 * (l.length / 8))) (x % 2 ^ n)
    rw [hlen] at hor
    rw [hor, List.drop_append_of_le_length (by omega), num_append, num_lowB, hlen]
    have : 2 ^ (l.length - 8 * (l.length / 8)) * (x % 2 ^ n) ≤ 2 ^ 32 * 2 ^ 7 := by rw [Nat.mul_comm]; exact hmul
    exact wrap_u64 (by omega) (by omega)
  rw [hhold]
  rintro w4 rfl
  have b1 := set_blk h1.blk 1 (.int .u64 ((num ((l ++ lowB n x).drop (8 * (l.length / 8))) : Nat) : Int))
  refine ⟨((l.length - 8 * (l.length / 8) : Nat) : Int), by rw [cell_blk b1]; rfl, wr_blk b1 (by simp), ?_⟩
  have e2 : IntKind.i64.wrap (((l.length - 8 * (l.length / 8) : Nat) : Int) + (n : Int)) = (((l ++ lowB n x).length - 8 * (l.length / 8) : Nat) : Int) := by
    rw [List.length_append, lowB_length, wrap_i64 (by omega) (by omega)]; omega
  rw [e2]
  rintro w6 rfl
  have b2 := set_blk b1 2 (.int .i64 (((l ++ lowB n x).length - 8 * (l.length / 8) : Nat) : Int))
  have hLl : (l ++ lowB n x).length = l.length + n := by rw [List.length_append, lowB_length]
  have hbo : bytesOf (l ++ lowB n x) (l.length / 8) = bytesOf l (l.length / 8) := bytesOf_append _ _ _ (by omega)
  generalize l ++ lowB n x = L at b1 b2 hLl hbo ⊢
  have hfr : Fr (· = b) w _ := ((Fr.drew (· = b) d1).trans' (.set (· = b) _ (a := ⟨b, 1, none⟩) (.int .u64 ((num (L.drop (8 * (l.length / 8))) : Nat) : Int)) rfl)).trans' (.set (· = b) _ (a := ⟨b, 2, none⟩) (.int .i64 ((L.length - 8 * (l.length / 8) : Nat) : Int)) rfl)
  refine ⟨fun w9 => ∃ sl' m', WrAt w9 b sl' L m' ∧ L.length < 8 * m' + 64 ∧ l.length / 8 ≤ m' ∧ Fr (WX b sl) w w9 ∧ Since w sl sl', fun w9 => match w9.cell? ⟨b, 2, none⟩ with | some (.int _ n) => n.toNat | _ => 0, ⟨sl, l.length / 8, ⟨by omega, b2, ?_⟩, by omega, Nat.le_refl _, hfr.mono (fun _ _ h => .inl h), .refl _ _⟩, ?_⟩
  · rw [hbo]
    exact h.own.keep hfr (fun y hy => by have := (h.own.blk hy).1; omega)
  rintro w9 ⟨sl', m', h9, hhi, hmm, hf9, hs9⟩
  refine ⟨_, h9.c2, fun hge => ?_, fun hlt => ?_⟩
  · have hge := of_decide_eq_true hge
    have hge' : 8 * m' + 8 ≤ L.length := by omega
    intro w11 d11
    have h11 := h9.drew d11
    have hf11 : Fr (WX b sl) w w11 := hf9.trans' (.drew _ d11)
    refine ⟨fun w => w.heap[b]? = w11.heap[b]?, rfl, sl', fun w hw => by rw [cell_blk (hw.trans h11.blk)]; rfl, _, fun w hw => by rw [cell_blk (hw.trans h11.blk)]; rfl, ?_⟩
    intro w17 hw17
    have hne : b < w11.heap.size := lt_blk h11.blk
    have hbyte : IntKind.u8.wrap ((num (L.drop (8 * m')) : Nat) : Int) = (((BitsM.byteOf L m').toNat : Nat) : Int) := by
      rw [wrap_u8_mod, byteOf_nat, num_take]; rfl
    rw [hbyte] at hw17
    have hbl : (byteV (bytesOf L m')).length = m' := by rw [List.length_map, bytesOf_length]
    refine ⟨by rw [hw17]; exact alloc_old _ _ hne, ?_⟩
    obtain ⟨w18, l19, hr, ho18, hf18, hs18⟩ := append_one' elU8 h11.own (v := .int .u8 (((BitsM.byteOf L m').toNat : Nat) : Int)) rfl (by rw [hbl]; unfold maxLen; omega) (by rw [hbl]; omega) hne hw17
    have hb18 : w18.heap[b]? = w11.heap[b]? := hf18.blk b hne (fun ⟨y, hy, e⟩ => by have := (h11.own.blk hy).1; omega)
    have k18 := hb18.trans h11.blk
    refine ⟨w18, l19, hr, hb18, wr_blk k18 (by simp), ?_⟩
    rintro w20 rfl
    have c1 := set_blk k18 0 (.slice l19.a l19.len l19.cap)
    refine ⟨((num (L.drop (8 * m')) : Nat) : Int), by rw [cell_blk c1]; rfl, by decide, wr_blk c1 (by simp), ?_⟩
    have e3 : Int.fdiv ((num (L.drop (8 * m')) : Nat) : Int) (2 ^ min (Int.toNat 8) 64) = ((num (L.drop (8 * (m' + 1))) : Nat) : Int) := by
      have hp : (2 : Int) ^ min (Int.toNat 8) 64 = ((2 ^ 8 : Nat) : Int) := rfl
      rw [hp, show 8 * (m' + 1) = 8 * m' + 8 by omega, ← List.drop_drop, num_drop (L.drop (8 * m')), Int.fdiv_eq_ediv_of_nonneg _ (Int.natCast_nonneg _), ← Int.natCast_ediv]
    rw [e3]
    rintro w22 rfl
    have c2 := set_blk c1 1 (.int .u64 ((num (L.drop (8 * (m' + 1))) : Nat) : Int))
    refine ⟨((L.length - 8 * m' : Nat) : Int), by rw [cell_blk c2]; rfl, wr_blk c2 (by simp), ?_⟩
    have e4 : IntKind.i64.wrap (((L.length - 8 * m' : Nat) : Int) - 8) = ((L.length - 8 * (m' + 1) : Nat) : Int) := by rw [wrap_i64 (by omega) (by omega)]; omega
    rw [e4]
    rintro w24 rfl
    have c3 := set_blk c2 2 (.int .i64 ((L.length - 8 * (m' + 1) : Nat) : Int))
    have hf24 : Fr (· = b) w18 _ := ((Fr.set (· = b) _ (a := ⟨b, 0, none⟩) (.slice l19.a l19.len l19.cap) rfl).trans' (.set (· = b) _ (a := ⟨b, 1, none⟩) (.int .u64 ((num (L.drop (8 * (m' + 1))) : Nat) : Int)) rfl)).trans' (.set (· = b) _ (a := ⟨b, 2, none⟩) (.int .i64 ((L.length - 8 * (m' + 1) : Nat) : Int)) rfl)
    have hfin : WrAt _ b l19 L (m' + 1) := ⟨by omega, c3, by
      have := ho18.keep hf24 (fun y hy => by have := (ho18.blk hy).1; omega)
      rw [bytesOf_succ, byteV, List.map_append]; exact this⟩
    refine ⟨⟨l19, m' + 1, hfin, by omega, by omega, ?_, ?_⟩, ?_⟩
    · refine (hf11.trans hf18 ?_).trans hf24 (fun k _ hk => .inl hk)
      rintro k hk ⟨y, hy, rfl⟩
      rcases hs9 y hy with ⟨z, hz, hzb⟩ | hn
      · exact .inr ⟨z, hz, hzb.symm⟩
      · omega
    · exact hs9.trans (w' := w11) hs18 hf11.size
    · have q1 := hfin.c2
      have q2 := h9.c2
      simp only [q1, q2, Int.toNat_natCast]
      omega
  · have hlt := of_decide_eq_false hlt
    have : m' = L.length / 8 := by have := h9.lo; omega
    subst this
    exact ⟨rfl, sl', ⟨h9, by omega⟩, hf9, hs9⟩
theorem wbits_bad {w : World} {b : Nat} {x n : Int} (hn : n < 0 ∨ 32 < n) :
    Calls Tryz.prog F_bitin_Writer_Bits #[.pointer (some ⟨b, 0, none⟩), .int .u32 x, .int .i64 n] w fun e w' => e = .returned (.tuple #[]) ∧ w' = w := by
  refine vc_bitin_Writer_Bits_ok (R := fun v w' => v = .tuple #[] ∧ w' = w) ?_ (fun v w' h => ⟨by rw [h.1], h.2⟩)
  refine ⟨fun _ => ⟨rfl, rfl⟩, fun h1 => ⟨fun _ => ⟨rfl, rfl⟩, fun h2 => ?_⟩⟩
  have h1 := of_decide_eq_false h1; have h2 := of_decide_eq_false h2
  omega
theorem WX.back {w : World} {b : Nat} {sl sl' : Sl} (h : Since w sl sl') {k : Nat} (hk : k < w.heap.size) (hx : WX b sl' k) : WX b sl k := by
  rcases hx with h1 | ⟨y, hy, rfl⟩
  · exact .inl h1
  · rcases h y hy with ⟨z, hz, hb⟩ | hn
    · exact .inr ⟨z, hz, hb.symm⟩
    · omega

/-- A code's bits are put, the highest first. -/
theorem wcode_spec {w : World} {b : Nat} {sl : Sl} {l : List Bool} (h : Wrt w b sl l) {x n : Nat} (hx : x < 4294967296) (h1 : 1 ≤ n) (hn : n ≤ 32) (hl : l.length + n ≤ 1099511627776) :
    Calls Tryz.prog F_bitin_Writer_Code #[.pointer (some ⟨b, 0, none⟩), .int .u32 x, .int .i64 n] w fun e w' =>
      e = .returned (.tuple #[]) ∧ ∃ sl', Wrt w' b sl' (l ++ (lowB n x).reverse) ∧ Fr (WX b sl) w w' ∧ Since w sl sl' := by
  refine vc_bitin_Writer_Code_ok (R := fun v w' => v = .tuple #[] ∧ ∃ sl', Wrt w' b sl' (l ++ (lowB n x).reverse) ∧ Fr (WX b sl) w w' ∧ Since w sl sl') ?_ (fun v w' h => ⟨by rw [h.1], h.2⟩)
  refine ⟨fun hlt => absurd (of_decide_eq_true hlt) (by omega), fun _ => ⟨fun hgt => absurd (of_decide_eq_true hgt) (by omega), fun _ => ?_⟩⟩
  refine ⟨fun i w' => ∃ (k : Nat) (sl' : Sl), k ≤ n ∧ i = (k : Int) - 1 ∧ Wrt w' b sl' (l ++ ((lowB n x).drop k).reverse) ∧ Fr (WX b sl) w w' ∧ Since w sl sl', fun i _ => (i + 1).toNat,
    ⟨n, sl, Nat.le_refl _, by rw [wrap_i64 (by omega) (by omega)], by rw [List.drop_eq_nil_of_le (by rw [lowB_length]; omega)]; simpa using h, .refl _ _, .refl _ _⟩, ?_⟩
  rintro i w4 ⟨k, sl', hk, rfl, h4, hf, hs⟩
  refine ⟨fun h => ?_, fun h => ?_⟩
  · have h := of_decide_eq_true h
    have hm : min ((k : Int) - 1).toNat 32 = k - 1 := by omega
    have hp : ((2 : Int) ^ (k - 1)) = ((2 ^ (k - 1) : Nat) : Int) := by push_cast; rfl
    rw [hm, hp, Int.fdiv_eq_ediv_of_nonneg _ (Int.natCast_nonneg _), ← Int.natCast_ediv]
    refine ⟨by omega, ?_⟩
    have hxl : x / 2 ^ (k - 1) ≤ x := Nat.div_le_self _ _
    have hlen : (l ++ ((lowB n x).drop k).reverse).length = l.length + (n - k) := by rw [List.length_append, List.length_reverse, List.length_drop, lowB_length]
    refine (wbits_spec h4 (x := x / 2 ^ (k - 1)) (n := 1) (by omega) (by decide) (by omega)).mono ?_
    rintro e w6 ⟨rfl, sl2, h6, f6, s6⟩
    have e1 : IntKind.i64.wrap ((k : Int) - 1 - 1) = ((k - 1 : Nat) : Int) - 1 := by rw [wrap_i64 (by omega) (by omega)]; omega
    rw [e1]
    refine ⟨rfl, ⟨k - 1, sl2, by omega, rfl, ?_, hf.trans f6 (fun q hq hx => WX.back hs hq hx), hs.trans s6 hf.size⟩, by dsimp only; omega⟩
    have hlt : k - 1 < (lowB n x).length := by rw [lowB_length]; omega
    have hd : (lowB n x).drop (k - 1) = (lowB n x)[k - 1] :: (lowB n x).drop k := by
      rw [List.drop_eq_getElem_cons hlt, show k - 1 + 1 = k by omega]
    have hb : lowB 1 (x / 2 ^ (k - 1)) = [(lowB n x)[k - 1]] := by
      have h1 := lowB_get n x (k - 1) (by omega)
      rw [List.getElem?_eq_getElem hlt] at h1
      simp only [Option.some.injEq] at h1
      rw [h1, Nat.testBit_eq_decide_div_mod_eq]
      simp only [lowB, List.cons.injEq, and_true]
      rfl
    rw [hb, List.append_assoc] at h6
    rw [hd, List.reverse_cons]
    exact h6
  · have h := of_decide_eq_false h
    have : k = 0 := by omega
    subst this
    exact ⟨rfl, sl', h4, hf, hs⟩
theorem wcode_bad {w : World} {b : Nat} {x n : Int} (hn : n < 1 ∨ 32 < n) :
    Calls Tryz.prog F_bitin_Writer_Code #[.pointer (some ⟨b, 0, none⟩), .int .u32 x, .int .i64 n] w fun e w' => e = .returned (.tuple #[]) ∧ w' = w := by
  refine vc_bitin_Writer_Code_ok (R := fun v w' => v = .tuple #[] ∧ w' = w) ?_ (fun v w' h => ⟨by rw [h.1], h.2⟩)
  refine ⟨fun _ => ⟨rfl, rfl⟩, fun h1 => ⟨fun _ => ⟨rfl, rfl⟩, fun h2 => ?_⟩⟩
  have h1 := of_decide_eq_false h1; have h2 := of_decide_eq_false h2
  omega

/-- The byte that has been begun is filled. -/
theorem walign_spec {w : World} {b : Nat} {sl : Sl} {l : List Bool} (h : Wrt w b sl l) (hl : l.length + 8 ≤ 1099511627776) :
    Calls Tryz.prog F_bitin_Writer_Align #[.pointer (some ⟨b, 0, none⟩)] w fun e w' =>
      e = .returned (.tuple #[]) ∧ ∃ sl', Wrt w' b sl' (fill8 l) ∧ Fr (WX b sl) w w' ∧ Since w sl sl' := by
  refine vc_bitin_Writer_Align_ok (R := fun v w' => v = .tuple #[] ∧ ∃ sl', Wrt w' b sl' (fill8 l) ∧ Fr (WX b sl) w w' ∧ Since w sl sl') ?_ (fun v w' h => ⟨by rw [h.1], h.2⟩)
  refine ⟨_, h.1.c2, fun hgt => ⟨_, h.1.c2, ?_⟩, fun hle => ?_⟩
  · have hgt := of_decide_eq_true hgt
    have e1 : IntKind.i64.wrap (8 - ((l.length - 8 * (l.length / 8) : Nat) : Int)) = ((8 - l.length % 8 : Nat) : Int) := by rw [wrap_i64 (by omega) (by omega)]; omega
    rw [e1]
    refine (wbits_spec h (x := 0) (n := 8 - l.length % 8) (by decide) (by omega) (by omega)).mono ?_
    rintro e w4 ⟨rfl, sl', h4, f4, s4⟩
    rw [fill8_lowB l (by omega)] at h4
    exact ⟨rfl, rfl, sl', h4, f4, s4⟩
  · have hle := of_decide_eq_false hle
    rw [fill8_whole l (by omega)]
    exact ⟨rfl, sl, h, .refl _ _, .refl _ _⟩

/-- Whole bytes are put, behind an Align. -/
theorem wbytes_spec {w : World} {b : Nat} {sl : Sl} {l : List Bool} (h : Wrt w b sl l) (s : ByteArray) (hl : l.length + 8 + 8 * s.size ≤ 1099511627776) :
    Calls Tryz.prog F_bitin_Writer_Bytes #[.pointer (some ⟨b, 0, none⟩), .string s] w fun e w' =>
      e = .returned (.tuple #[]) ∧ ∃ sl', Wrt w' b sl' (fill8 l ++ sbits s.data.toList) ∧ Fr (WX b sl) w w' ∧ Since w sl sl' := by
  refine vc_bitin_Writer_Bytes_ok (R := fun v w' => v = .tuple #[] ∧ ∃ sl', Wrt w' b sl' (fill8 l ++ sbits s.data.toList) ∧ Fr (WX b sl) w w' ∧ Since w sl sl') ?_ (fun v w' h => ⟨by rw [h.1], h.2⟩)
  refine (walign_spec h (by omega)).mono ?_
  rintro e w2 ⟨rfl, sl2, h2, f2, s2⟩
  have hfl := fill8_length l
  have hss : s.data.toList.length = s.size := by simp
  have hq : (fill8 l).length / 8 = (l.length + 7) / 8 := by omega
  obtain ⟨g, _⟩ := h2
  rw [hq] at g
  have hb2 := lt_blk g.blk
  have hxl : (byteV (bytesOf (fill8 l) ((l.length + 7) / 8))).length = (l.length + 7) / 8 := by rw [List.length_map, bytesOf_length]
  obtain ⟨w4, l5, hr, ho, hf, hs⟩ := append_str (u := T_string) elU8 (by kernel_rfl) g.own s (by rw [hxl]; omega) hb2
  refine ⟨rfl, sl2, g.c0, w4, l5, hr, ?_⟩
  have k4 := hf.keep g.blk (fun ⟨y, hy, e⟩ => by have := (g.own.blk hy).1; omega)
  refine ⟨wr_blk k4 (by simp), ?_⟩
  rintro w6 rfl
  have c0 := set_blk k4 0 (.slice l5.a l5.len l5.cap)
  have hd0 : (fill8 l).drop (8 * ((l.length + 7) / 8)) = [] := List.drop_eq_nil_of_le (by omega)
  have hL : (fill8 l ++ sbits s.data.toList).length = 8 * ((l.length + 7) / 8 + s.size) := by rw [List.length_append, sbits_length, hss]; omega
  have hset : Fr (· = b) w4 _ := Fr.set (· = b) _ (a := ⟨b, 0, none⟩) (.slice l5.a l5.len l5.cap) rfl
  refine ⟨rfl, l5, ⟨⟨by omega, ?_, ?_⟩, by omega⟩, (f2.trans hf (fun k hk hx => WX.back s2 hk (.inr hx))).trans hset (fun k _ hk => .inl hk), s2.trans hs f2.size⟩
  · have hd1 : (fill8 l ++ sbits s.data.toList).drop (8 * ((fill8 l ++ sbits s.data.toList).length / 8)) = [] := List.drop_eq_nil_of_le (by omega)
    have hn0 : (fill8 l).length - 8 * ((l.length + 7) / 8) = 0 := by omega
    have hn1 : (fill8 l ++ sbits s.data.toList).length - 8 * ((fill8 l ++ sbits s.data.toList).length / 8) = 0 := by omega
    rw [hd1, hn1]
    rw [hd0, hn0] at c0
    exact c0
  · have hbs := bytesOf_sbits (fill8 l) ((l.length + 7) / 8) hfl s.data.toList s.data.toList.length (Nat.le_refl _)
    rw [List.take_length, hss] at hbs
    rw [show (fill8 l ++ sbits s.data.toList).length / 8 = (l.length + 7) / 8 + s.size by omega, hbs, byteV, List.map_append]
    exact ho.keep hset (fun y hy => by have := (ho.blk hy).1; omega)

/-- The bytes. -/
theorem wtext_spec {w : World} {b : Nat} {sl : Sl} {l : List Bool} (h : Wrt w b sl l) :
    Calls Tryz.prog F_bitin_Writer_Text #[.pointer (some ⟨b, 0, none⟩)] w fun e w' => e = .returned (.string ⟨(textOf l).toArray⟩) ∧ Fr (fun _ => False) w w' := by
  refine vc_bitin_Writer_Text_ok (R := fun v w' => v = .string ⟨(textOf l).toArray⟩ ∧ Fr (fun _ => False) w w') ?_ (fun v w' h => ⟨by rw [h.1], h.2⟩)
  obtain ⟨g, hl⟩ := h
  have hlen : (bytesOf l (l.length / 8)).length = sl.len := by rw [g.own.len, List.length_map]
  refine ⟨_, g.c2, fun hgt => ?_, fun hle => ?_⟩
  · have hgt := of_decide_eq_true hgt
    intro w2 d
    have g2 := g.drew d
    have hc : ∀ w', Fr (fun _ => False) w2 w' → (convert T_S_uint8 T_string (.slice sl.a sl.len sl.cap)).run Tryz.prog w' = .ok (.string ⟨(bytesOf l (l.length / 8)).toArray⟩) w' := fun w' f =>
      bytes_str elU8.sl (by kernel_rfl) (by kernel_rfl) _ ((g2.keep f (by simp) (by simp)).own.reads) hlen
    refine ⟨Fr (fun _ => False) w2, .refl _ _, sl, fun w' f => (g2.keep f (by simp) (by simp)).c0, _, fun w' f => (g2.keep f (by simp) (by simp)).c1, _, fun w' f => hc w' f, ?_⟩
    rintro w10 rfl
    have f10 : Fr (fun _ => False) w2 _ := Fr.alloc (fun _ => False) w2 (.cells #[.int .u8 (IntKind.u8.wrap ((num (l.drop (8 * (l.length / 8))) : Nat) : Int))] T_uint8)
    refine ⟨f10, ?_⟩
    have hbyte : IntKind.u8.wrap ((num (l.drop (8 * (l.length / 8))) : Nat) : Int) = (((BitsM.byteOf l (l.length / 8)).toNat : Nat) : Int) := by
      rw [wrap_u8_mod, byteOf_nat, num_take]; rfl
    rw [hbyte] at f10 ⊢
    have hr : Reads (w2.alloc (.cells #[.int .u8 (((BitsM.byteOf l (l.length / 8)).toNat : Nat) : Int)] T_uint8)) (some ⟨w2.heap.size, 0, none⟩) (byteV [BitsM.byteOf l (l.length / 8)]) := by
      intro i v hv
      refine ⟨_, rfl, ?_⟩
      rw [add_lit, cell_blk (alloc_new _ _), ← hv, Nat.zero_add]
      cases i <;> simp
    refine ⟨_, _, bytes_str elU8.sl (by kernel_rfl) (by kernel_rfl) _ hr rfl, f10, ?_, ?_, (Fr.drew (fun _ => False) d).trans' f10⟩
    · show (bytesOf l (l.length / 8)).toArray.size + 1 ≤ _
      rw [List.size_toArray, bytesOf_length]; omega
    · congr 1
      unfold textOf
      rw [show (l.length + 7) / 8 = l.length / 8 + 1 by omega, bytesOf_succ]
      apply ByteArray.ext
      rw [ByteArray.data_append]
      simp
  · have hle := of_decide_eq_false hle
    refine ⟨sl, g.c0, w, _, bytes_str elU8.sl (by kernel_rfl) (by kernel_rfl) _ g.own.reads hlen, ?_, .refl _ _⟩
    unfold textOf
    rw [show (l.length + 7) / 8 = l.length / 8 by omega]
end Go.Proofs.YtaaimcbicpgjoaaGreatDoor

/- Formulas of 5 Go functions of this seat (written by a program of the author's, vcgen.py), and that each is enough for the call. No condition. -/
set_option linter.unusedVariables false
namespace Go.Proofs.YtaaimcbicpgjoaaGreatDoor
open Go Vc Go.Proofs
set_option maxRecDepth 100000
/-- inflate.Stored -/
def vc_inflate_Stored (x0 : ByteArray) (w : World) (R : Value → World → Prop) : Prop :=
 ∀ w1 : World,
 (w1 = World.alloc w (Obj.cells (Array.mk [Value.slice none 0 0, Value.int IntKind.u64 0, Value.int IntKind.i64 0]) 110) →
 ∃ I2 : ByteArray → World → Prop, ∃ I3 : ByteArray → World → Nat, (I2 x0 w1 ∧
 ∀ s4 : ByteArray,
 ∀ w5 : World,
 (I2 s4 w5 →
 ∃ I6 : Int → World → Prop, (((((((if 65535 < (↑(ByteArray.size s4) : Int) then 65535 else (↑(ByteArray.size s4) : Int)) == (↑(ByteArray.size s4) : Int)) = true) →
 I6 1 w5)) ∧
 ((((if 65535 < (↑(ByteArray.size s4) : Int) then 65535 else (↑(ByteArray.size s4) : Int)) == (↑(ByteArray.size s4) : Int)) = false) →
 I6 0 w5)) ∧
 ∀ n7 : Int,
 ∀ w8 : World,
 (I6 n7 w8 →
 Calls Tryz.prog (63 : Nat) (Array.mk [Value.pointer (some (Addr.mk (Array.size (World.heap w)) 0 none)), Value.int IntKind.u32 n7, Value.int IntKind.i64 3]) (w8) (fun e9 w10 =>
 (e9 = Ending.returned (Value.tuple (Array.mk [])) ∧
 ∀ w11 : World,
 (Drew w10 w11 →
 ∃ I12 : World → Prop, (I12 w11 ∧
 (((0 ≤ if 65535 < (↑(ByteArray.size s4) : Int) then 65535 else (↑(ByteArray.size s4) : Int)) ∧
 ((if 65535 < (↑(ByteArray.size s4) : Int) then 65535 else (↑(ByteArray.size s4) : Int)) ≤ (↑(ByteArray.size s4) : Int))) ∧
 Calls Tryz.prog (94 : Nat) ((Array.mk [Value.int IntKind.u64 (IntKind.wrap IntKind.u64 (if 65535 < (↑(ByteArray.size s4) : Int) then 65535 else (↑(ByteArray.size s4) : Int))), Value.int IntKind.i64 2])) (w11) (fun e13 w14 =>
 ∃ s15 : ByteArray, (e13 = Ending.returned (Value.string s15) ∧
 (I12 w14 ∧
 Calls Tryz.prog (94 : Nat) ((Array.mk [Value.int IntKind.u64 (IntKind.wrap IntKind.u64 (IntKind.wrap IntKind.i64 (↑(BitVec.toNat (BitVec.ofInt 64 (if 65535 < (↑(ByteArray.size s4) : Int) then 65535 else (↑(ByteArray.size s4) : Int)) ^^^ BitVec.ofInt 64 65535)) : Int))), Value.int IntKind.i64 2])) (w14) (fun e16 w17 =>
 ∃ s18 : ByteArray, (e16 = Ending.returned (Value.string s18) ∧
 (I12 w17 ∧
 (ByteArray.size s15 + ByteArray.size s18 ≤ 9223372036854775807 ∧
 ((ByteArray.size (s15 ++ s18) + ByteArray.size (ByteArray.extract s4 0 (Int.toNat (if 65535 < (↑(ByteArray.size s4) : Int) then 65535 else (↑(ByteArray.size s4) : Int)))) ≤ 9223372036854775807) ∧
 Calls Tryz.prog (93 : Nat) ((Array.mk [Value.pointer (some (Addr.mk (Array.size (World.heap w)) 0 none)), Value.string (s15 ++ s18 ++ ByteArray.extract s4 0 (Int.toNat (if 65535 < (↑(ByteArray.size s4) : Int) then 65535 else (↑(ByteArray.size s4) : Int))))])) (w17) (fun e19 w20 =>
 (e19 = Ending.returned (Value.tuple (Array.mk [])) ∧
 (((0 ≤ if 65535 < (↑(ByteArray.size s4) : Int) then 65535 else (↑(ByteArray.size s4) : Int)) ∧
 ((if 65535 < (↑(ByteArray.size s4) : Int) then 65535 else (↑(ByteArray.size s4) : Int)) ≤ (↑(ByteArray.size s4) : Int))) ∧
 ((((n7 == 1) = true →
 Calls Tryz.prog (69 : Nat) (Array.mk [Value.pointer (some (Addr.mk (Array.size (World.heap w)) 0 none))]) (w20) (fun e21 w22 =>
 ∃ s23 : ByteArray, (e21 = Ending.returned (Value.string s23) ∧
 R (Value.string s23) w22)))) ∧
 ((n7 == 1) = false →
 ((I2 (ByteArray.extract s4 (Int.toNat (if 65535 < (↑(ByteArray.size s4) : Int) then 65535 else (↑(ByteArray.size s4) : Int))) (ByteArray.size s4)) w20) ∧
 (I3 (ByteArray.extract s4 (Int.toNat (if 65535 < (↑(ByteArray.size s4) : Int) then 65535 else (↑(ByteArray.size s4) : Int))) (ByteArray.size s4)) w20 < I3 s4 w5)))))))))))))))))))))))))
theorem vc_inflate_Stored_ok {x0 : ByteArray} {w : World} {R : Value → World → Prop} {R' : Ending → World → Prop} (h : vc_inflate_Stored x0 w R) (hR : ∀ v w', R v w' → R' (.returned v) w') :
    Calls Tryz.prog 70 #[.string x0] w R' :=
  calls_of_body (vs := [(.string x0, false)]) (ty := ty) (ann := ⟨[(6, [(5, .int .u32)])], [(2, [(0, .str)])], [(7, .held [(0, true), (1, true), (3, true), (4, true), (5, true), (8, true), (9, true), (10, true), (2, false), (6, false), (7, true), (11, true), (12, false)])], []⟩) (c := Tryz.f70.body.getD .skip) (by kernel_rfl) Tryz.func70 (by kernel_rfl) (by kernel_rfl) (Eq.mp (by kernel_rfl) h) hR
/-- (*huff.Table).Code -/
def vc_huff_Table_Code (x0 : Nat) (x1 : Int) (w : World) (R : Value → World → Prop) : Prop :=
 (((decide (x1 < 0) = true →
 R (Value.tuple (Array.mk [Value.int IntKind.u32 0, Value.int IntKind.i64 0])) w)) ∧
 (decide (x1 < 0) = false →
 ∃ l1 : Sl, (World.cell? w (Addr.mk x0 0 none) = some (Value.slice l1.1 l1.2 l1.3) ∧
 (((decide (x1 ≥ (↑l1.2 : Int)) = true →
 R (Value.tuple (Array.mk [Value.int IntKind.u32 0, Value.int IntKind.i64 0])) w)) ∧
 (decide (x1 ≥ (↑l1.2 : Int)) = false →
 ∃ l2 : Sl, (World.cell? w (Addr.mk x0 0 none) = some (Value.slice l2.1 l2.2 l2.3) ∧
 ((0 ≤ x1 ∧
 x1 < (↑l2.2 : Int)) ∧
 ∃ a3 : Addr, (l2.1 = some a3 ∧
 ∃ n4 : Int, (World.cell? w (Addr.add a3 (Int.toNat x1 * 1)) = some (Value.int IntKind.i64 n4) ∧
 ((((n4 == 0) = true →
 R (Value.tuple (Array.mk [Value.int IntKind.u32 0, Value.int IntKind.i64 0])) w)) ∧
 ((n4 == 0) = false →
 ∃ I5 : Int → Int → Int → World → Prop, ∃ I6 : Int → Int → Int → World → Nat, (I5 0 0 1 w ∧
 ∀ n7 : Int,
 ∀ n8 : Int,
 ∀ n9 : Int,
 ∀ w10 : World,
 (I5 n7 n8 n9 w10 →
 (((decide (n9 ≤ 15) = true →
 ((0 : Int) ≤ (1 : Int) ∧
 ((0 ≤ n9 ∧
 n9 < (↑16 : Int)) ∧
 ∃ n11 : Int, (World.cell? w10 (Addr.add (Addr.mk x0 1 none) (Int.toNat n9 * 1)) = some (Value.int IntKind.i64 n11) ∧
 ∃ I12 : Int → Int → Int → World → Prop, ∃ I13 : Int → Int → Int → World → Nat, (I12 (IntKind.wrap IntKind.u32 (n7 * 2 ^ min (Int.toNat 1) 32)) n8 0 w10 ∧
 ∀ n14 : Int,
 ∀ n15 : Int,
 ∀ n16 : Int,
 ∀ w17 : World,
 (I12 n14 n15 n16 w17 →
 (((decide (n16 < n11) = true →
 ∃ l18 : Sl, (World.cell? w17 (Addr.mk x0 17 none) = some (Value.slice l18.1 l18.2 l18.3) ∧
 ((0 ≤ n15 ∧
 n15 < (↑l18.2 : Int)) ∧
 ∃ a19 : Addr, (l18.1 = some a19 ∧
 ∃ n20 : Int, (World.cell? w17 (Addr.add a19 (Int.toNat n15 * 1)) = some (Value.int IntKind.i64 n20) ∧
 ((((n20 == x1) = true →
 R (Value.tuple (Array.mk [Value.int IntKind.u32 n14, Value.int IntKind.i64 n9])) w17)) ∧
 ((n20 == x1) = false →
 (I12 (IntKind.wrap IntKind.u32 (n14 + 1)) (IntKind.wrap IntKind.i64 (n15 + 1)) (IntKind.wrap IntKind.i64 (n16 + 1)) w17 ∧
 I13 (IntKind.wrap IntKind.u32 (n14 + 1)) (IntKind.wrap IntKind.i64 (n15 + 1)) (IntKind.wrap IntKind.i64 (n16 + 1)) w17 < I13 n14 n15 n16 w17))))))))) ∧
 (decide (n16 < n11) = false →
 (I5 n14 n15 (IntKind.wrap IntKind.i64 (n9 + 1)) w17 ∧
 I6 n14 n15 (IntKind.wrap IntKind.i64 (n9 + 1)) w17 < I6 n7 n8 n9 w10)))))))))) ∧
 (decide (n9 ≤ 15) = false →
 R (Value.tuple (Array.mk [Value.int IntKind.u32 0, Value.int IntKind.i64 0])) w10)))))))))))))))
theorem vc_huff_Table_Code_ok {x0 : Nat} {x1 : Int} {w : World} {R : Value → World → Prop} {R' : Ending → World → Prop} (h : vc_huff_Table_Code x0 x1 w R) (hR : ∀ v w', R v w' → R' (.returned v) w') :
    Calls Tryz.prog 64 #[.pointer (some ⟨x0, 0, none⟩), .int .i64 x1] w R' :=
  calls_of_body (vs := [(.pointer (some ⟨x0, 0, none⟩), true), (.int .i64 x1, false)]) (ty := ty) (ann := ⟨[], [(5, [(6, .int .u32), (7, .int .i64), (8, .int .i64)]), (9, [(6, .int .u32), (7, .int .i64), (42, .int .i64)])], [], []⟩) (c := Tryz.f64.body.getD .skip) (by kernel_rfl) Tryz.func64 (by kernel_rfl) (by kernel_rfl) (Eq.mp (by kernel_rfl) h) hR
/-- inflate.symbolOf#len -/
def vc_inflate_symbolOf_len (x0 : Int) (x1 : Int) (w : World) (R : Value → World → Prop) : Prop :=
 ∃ I1 : Int → World → Prop, ∃ I2 : Int → World → Nat, (I1 x1 w ∧
 ∀ n3 : Int,
 ∀ w4 : World,
 (I1 n3 w4 →
 Calls Tryz.prog (67 : FuncId) (Array.mk [Value.int IntKind.i64 n3]) (w4) (fun e5 w6 =>
 ∃ n7 : Int, ∃ n8 : Int, (e5 = Ending.returned (Value.tuple (Array.mk [Value.int IntKind.i64 n7, Value.int IntKind.i64 n8])) ∧
 (((decide (n7 ≤ x0) = true →
 R (Value.tuple (Array.mk [Value.int IntKind.i64 n3, Value.int IntKind.u32 (IntKind.wrap IntKind.u32 (IntKind.wrap IntKind.i64 (x0 - n7))), Value.int IntKind.i64 n8])) w6)) ∧
 (decide (n7 ≤ x0) = false →
 (I1 (IntKind.wrap IntKind.i64 (n3 - 1)) w6 ∧
 I2 (IntKind.wrap IntKind.i64 (n3 - 1)) w6 < I2 n3 w4)))))))
theorem vc_inflate_symbolOf_len_ok {x0 : Int} {x1 : Int} {w : World} {R : Value → World → Prop} {R' : Ending → World → Prop} (h : vc_inflate_symbolOf_len x0 x1 w R) (hR : ∀ v w', R v w' → R' (.returned v) w') :
    Calls Tryz.prog 66 #[.int .i64 x0, .int .i64 x1, .func (.func 67) #[] #[]] w R' :=
  calls_of_body (vs := [(.int .i64 x0, false), (.int .i64 x1, false), (.func (.func 67) #[] #[], false)]) (ty := ty) (ann := ⟨[], [(3, [(9, .int .i64)])], [], []⟩) (c := Tryz.f66.body.getD .skip) (by kernel_rfl) Tryz.func66 (by kernel_rfl) (by kernel_rfl) (Eq.mp (by kernel_rfl) h) hR
/-- inflate.symbolOf#dist -/
def vc_inflate_symbolOf_dist (x0 : Int) (x1 : Int) (w : World) (R : Value → World → Prop) : Prop :=
 ∃ I1 : Int → World → Prop, ∃ I2 : Int → World → Nat, (I1 x1 w ∧
 ∀ n3 : Int,
 ∀ w4 : World,
 (I1 n3 w4 →
 Calls Tryz.prog (68 : FuncId) (Array.mk [Value.int IntKind.i64 n3]) (w4) (fun e5 w6 =>
 ∃ n7 : Int, ∃ n8 : Int, (e5 = Ending.returned (Value.tuple (Array.mk [Value.int IntKind.i64 n7, Value.int IntKind.i64 n8])) ∧
 (((decide (n7 ≤ x0) = true →
 R (Value.tuple (Array.mk [Value.int IntKind.i64 n3, Value.int IntKind.u32 (IntKind.wrap IntKind.u32 (IntKind.wrap IntKind.i64 (x0 - n7))), Value.int IntKind.i64 n8])) w6)) ∧
 (decide (n7 ≤ x0) = false →
 (I1 (IntKind.wrap IntKind.i64 (n3 - 1)) w6 ∧
 I2 (IntKind.wrap IntKind.i64 (n3 - 1)) w6 < I2 n3 w4)))))))
theorem vc_inflate_symbolOf_dist_ok {x0 : Int} {x1 : Int} {w : World} {R : Value → World → Prop} {R' : Ending → World → Prop} (h : vc_inflate_symbolOf_dist x0 x1 w R) (hR : ∀ v w', R v w' → R' (.returned v) w') :
    Calls Tryz.prog 66 #[.int .i64 x0, .int .i64 x1, .func (.func 68) #[] #[]] w R' :=
  calls_of_body (vs := [(.int .i64 x0, false), (.int .i64 x1, false), (.func (.func 68) #[] #[], false)]) (ty := ty) (ann := ⟨[], [(3, [(9, .int .i64)])], [], []⟩) (c := Tryz.f66.body.getD .skip) (by kernel_rfl) Tryz.func66 (by kernel_rfl) (by kernel_rfl) (Eq.mp (by kernel_rfl) h) hR
/-- inflate.Deflate -/
def vc_inflate_Deflate (x0 : ByteArray) (w : World) (R : Value → World → Prop) : Prop :=
 ∀ w1 : World,
 (w1 = World.alloc w (Obj.cells (Array.mk [Value.slice none 0 0, Value.int IntKind.u64 0, Value.int IntKind.i64 0]) 110) →
 Calls Tryz.prog (62 : Nat) (Array.mk []) (w1) (fun e2 w3 =>
 ∃ p4 : Option Addr, ∃ p5 : Option Addr, (e2 = Ending.returned (Value.tuple (Array.mk [Value.pointer p4, Value.pointer p5])) ∧
 Calls Tryz.prog (63 : Nat) (Array.mk [Value.pointer (some (Addr.mk (Array.size (World.heap w)) 0 none)), Value.int IntKind.u32 3, Value.int IntKind.i64 3]) (w3) (fun e6 w7 =>
 (e6 = Ending.returned (Value.tuple (Array.mk [])) ∧
 ∀ w8 : World,
 (w8 = World.alloc w7 (Obj.map (Array.mk []) 0) →
 ∃ I9 : Int → World → Prop, ∃ I10 : Int → World → Nat, (I9 0 w8 ∧
 ∀ n11 : Int,
 ∀ w12 : World,
 (I9 n11 w12 →
 (((decide (n11 < (↑(ByteArray.size x0) : Int)) = true →
 ∃ I13 : Int → Int → World → Prop, ((((decide (IntKind.wrap IntKind.i64 (n11 + 3) ≤ (↑(ByteArray.size x0) : Int)) = true →
 ((0 ≤ n11 ∧
 (n11 ≤ IntKind.wrap IntKind.i64 (n11 + 3) ∧
 IntKind.wrap IntKind.i64 (n11 + 3) ≤ (↑(ByteArray.size x0) : Int))) ∧
 ∃ w14 : World, ∃ n15 : Int, ∃ b16 : Bool, (Sem.run Tryz.prog (Instr.lookup 98 (Value.map (some (Array.size (World.heap w7)))) (Value.string (ByteArray.extract x0 (Int.toNat n11) (Int.toNat (IntKind.wrap IntKind.i64 (n11 + 3))))) true) w12 = Result.ok (Value.tuple (Array.mk [Value.int IntKind.i64 n15, Value.bool b16])) w14 ∧
 (((b16 = true →
 (((decide (IntKind.wrap IntKind.i64 (n11 - n15) ≤ 32768) = true →
 ∃ I17 : Int → World → Prop, ∃ I18 : Int → World → Nat, (I17 0 w14 ∧
 ∀ n19 : Int,
 ∀ w20 : World,
 (I17 n19 w20 →
 (((decide (n19 < 258) = true →
 (((decide (IntKind.wrap IntKind.i64 (n11 + n19) < (↑(ByteArray.size x0) : Int)) = true →
 ((0 ≤ IntKind.wrap IntKind.i64 (n15 + n19) ∧
 IntKind.wrap IntKind.i64 (n15 + n19) < (↑(ByteArray.size x0) : Int)) ∧
 ((0 ≤ IntKind.wrap IntKind.i64 (n11 + n19) ∧
 IntKind.wrap IntKind.i64 (n11 + n19) < (↑(ByteArray.size x0) : Int)) ∧
 ∀ w21 : World,
 (Drew w20 w21 →
 ((((byteAt x0 (IntKind.wrap IntKind.i64 (n15 + n19)) == byteAt x0 (IntKind.wrap IntKind.i64 (n11 + n19))) = true →
 (I17 (IntKind.wrap IntKind.i64 (n19 + 1)) w21 ∧
 I18 (IntKind.wrap IntKind.i64 (n19 + 1)) w21 < I18 n19 w20))) ∧
 ((byteAt x0 (IntKind.wrap IntKind.i64 (n15 + n19)) == byteAt x0 (IntKind.wrap IntKind.i64 (n11 + n19))) = false →
 ((0 ≤ n11 ∧
 (n11 ≤ IntKind.wrap IntKind.i64 (n11 + 3) ∧
 IntKind.wrap IntKind.i64 (n11 + 3) ≤ (↑(ByteArray.size x0) : Int))) ∧
 ∃ w22 : World, (Sem.run Tryz.prog (Instr.mapUpdate 98 (Value.map (some (Array.size (World.heap w7)))) (Value.string (ByteArray.extract x0 (Int.toNat n11) (Int.toNat (IntKind.wrap IntKind.i64 (n11 + 3))))) (Value.int IntKind.i64 n11)) w21 = Result.ok PUnit.unit w22 ∧
 I13 n19 (IntKind.wrap IntKind.i64 (n11 - n15)) w22))))))))) ∧
 (decide (IntKind.wrap IntKind.i64 (n11 + n19) < (↑(ByteArray.size x0) : Int)) = false →
 ∀ w23 : World,
 (Drew w20 w23 →
 ((0 ≤ n11 ∧
 (n11 ≤ IntKind.wrap IntKind.i64 (n11 + 3) ∧
 IntKind.wrap IntKind.i64 (n11 + 3) ≤ (↑(ByteArray.size x0) : Int))) ∧
 ∃ w24 : World, (Sem.run Tryz.prog (Instr.mapUpdate 98 (Value.map (some (Array.size (World.heap w7)))) (Value.string (ByteArray.extract x0 (Int.toNat n11) (Int.toNat (IntKind.wrap IntKind.i64 (n11 + 3))))) (Value.int IntKind.i64 n11)) w23 = Result.ok PUnit.unit w24 ∧
 I13 n19 (IntKind.wrap IntKind.i64 (n11 - n15)) w24))))))) ∧
 (decide (n19 < 258) = false →
 ∀ w25 : World,
 (Drew w20 w25 →
 ((0 ≤ n11 ∧
 (n11 ≤ IntKind.wrap IntKind.i64 (n11 + 3) ∧
 IntKind.wrap IntKind.i64 (n11 + 3) ≤ (↑(ByteArray.size x0) : Int))) ∧
 ∃ w26 : World, (Sem.run Tryz.prog (Instr.mapUpdate 98 (Value.map (some (Array.size (World.heap w7)))) (Value.string (ByteArray.extract x0 (Int.toNat n11) (Int.toNat (IntKind.wrap IntKind.i64 (n11 + 3))))) (Value.int IntKind.i64 n11)) w25 = Result.ok PUnit.unit w26 ∧
 I13 n19 (IntKind.wrap IntKind.i64 (n11 - n15)) w26))))))))) ∧
 (decide (IntKind.wrap IntKind.i64 (n11 - n15) ≤ 32768) = false →
 ((0 ≤ n11 ∧
 (n11 ≤ IntKind.wrap IntKind.i64 (n11 + 3) ∧
 IntKind.wrap IntKind.i64 (n11 + 3) ≤ (↑(ByteArray.size x0) : Int))) ∧
 ∃ w27 : World, (Sem.run Tryz.prog (Instr.mapUpdate 98 (Value.map (some (Array.size (World.heap w7)))) (Value.string (ByteArray.extract x0 (Int.toNat n11) (Int.toNat (IntKind.wrap IntKind.i64 (n11 + 3))))) (Value.int IntKind.i64 n11)) w14 = Result.ok PUnit.unit w27 ∧
 I13 0 0 w27)))))) ∧
 (b16 = false →
 ((0 ≤ n11 ∧
 (n11 ≤ IntKind.wrap IntKind.i64 (n11 + 3) ∧
 IntKind.wrap IntKind.i64 (n11 + 3) ≤ (↑(ByteArray.size x0) : Int))) ∧
 ∃ w28 : World, (Sem.run Tryz.prog (Instr.mapUpdate 98 (Value.map (some (Array.size (World.heap w7)))) (Value.string (ByteArray.extract x0 (Int.toNat n11) (Int.toNat (IntKind.wrap IntKind.i64 (n11 + 3))))) (Value.int IntKind.i64 n11)) w14 = Result.ok PUnit.unit w28 ∧
 I13 0 0 w28)))))))) ∧
 (decide (IntKind.wrap IntKind.i64 (n11 + 3) ≤ (↑(ByteArray.size x0) : Int)) = false →
 I13 0 0 w12)) ∧
 ∀ n29 : Int,
 ∀ n30 : Int,
 ∀ w31 : World,
 (I13 n29 n30 w31 →
 (((decide (n29 < 3) = true →
 ((0 ≤ n11 ∧
 n11 < (↑(ByteArray.size x0) : Int)) ∧
 Calls Tryz.prog (64 : Nat) (Array.mk [Value.pointer p4, Value.int IntKind.i64 (IntKind.wrap IntKind.i64 (byteAt x0 n11))]) (w31) (fun e32 w33 =>
 ∃ n34 : Int, ∃ n35 : Int, (e32 = Ending.returned (Value.tuple (Array.mk [Value.int IntKind.u32 n34, Value.int IntKind.i64 n35])) ∧
 Calls Tryz.prog (65 : Nat) (Array.mk [Value.pointer (some (Addr.mk (Array.size (World.heap w)) 0 none)), Value.int IntKind.u32 n34, Value.int IntKind.i64 n35]) (w33) (fun e36 w37 =>
 (e36 = Ending.returned (Value.tuple (Array.mk [])) ∧
 (I9 (IntKind.wrap IntKind.i64 (n11 + 1)) w37 ∧
 I10 (IntKind.wrap IntKind.i64 (n11 + 1)) w37 < I10 n11 w12)))))))) ∧
 (decide (n29 < 3) = false →
 Calls Tryz.prog (66 : Nat) (Array.mk [Value.int IntKind.i64 n29, Value.int IntKind.i64 28, Value.func (Fn.func 67) (Array.mk []) (Array.mk [])]) (w31) (fun e38 w39 =>
 ∃ n40 : Int, ∃ n41 : Int, ∃ n42 : Int, (e38 = Ending.returned (Value.tuple (Array.mk [Value.int IntKind.i64 n40, Value.int IntKind.u32 n41, Value.int IntKind.i64 n42])) ∧
 Calls Tryz.prog (64 : Nat) (Array.mk [Value.pointer p4, Value.int IntKind.i64 (IntKind.wrap IntKind.i64 (257 + n40))]) (w39) (fun e43 w44 =>
 ∃ n45 : Int, ∃ n46 : Int, (e43 = Ending.returned (Value.tuple (Array.mk [Value.int IntKind.u32 n45, Value.int IntKind.i64 n46])) ∧
 Calls Tryz.prog (65 : Nat) (Array.mk [Value.pointer (some (Addr.mk (Array.size (World.heap w)) 0 none)), Value.int IntKind.u32 n45, Value.int IntKind.i64 n46]) (w44) (fun e47 w48 =>
 (e47 = Ending.returned (Value.tuple (Array.mk [])) ∧
 Calls Tryz.prog (63 : Nat) (Array.mk [Value.pointer (some (Addr.mk (Array.size (World.heap w)) 0 none)), Value.int IntKind.u32 n41, Value.int IntKind.i64 n42]) (w48) (fun e49 w50 =>
 (e49 = Ending.returned (Value.tuple (Array.mk [])) ∧
 Calls Tryz.prog (66 : Nat) (Array.mk [Value.int IntKind.i64 n30, Value.int IntKind.i64 29, Value.func (Fn.func 68) (Array.mk []) (Array.mk [])]) (w50) (fun e51 w52 =>
 ∃ n53 : Int, ∃ n54 : Int, ∃ n55 : Int, (e51 = Ending.returned (Value.tuple (Array.mk [Value.int IntKind.i64 n53, Value.int IntKind.u32 n54, Value.int IntKind.i64 n55])) ∧
 Calls Tryz.prog (64 : Nat) (Array.mk [Value.pointer p5, Value.int IntKind.i64 n53]) (w52) (fun e56 w57 =>
 ∃ n58 : Int, ∃ n59 : Int, (e56 = Ending.returned (Value.tuple (Array.mk [Value.int IntKind.u32 n58, Value.int IntKind.i64 n59])) ∧
 Calls Tryz.prog (65 : Nat) (Array.mk [Value.pointer (some (Addr.mk (Array.size (World.heap w)) 0 none)), Value.int IntKind.u32 n58, Value.int IntKind.i64 n59]) (w57) (fun e60 w61 =>
 (e60 = Ending.returned (Value.tuple (Array.mk [])) ∧
 Calls Tryz.prog (63 : Nat) (Array.mk [Value.pointer (some (Addr.mk (Array.size (World.heap w)) 0 none)), Value.int IntKind.u32 n54, Value.int IntKind.i64 n55]) (w61) (fun e62 w63 =>
 (e62 = Ending.returned (Value.tuple (Array.mk [])) ∧
 (I9 (IntKind.wrap IntKind.i64 (n11 + n29)) w63 ∧
 I10 (IntKind.wrap IntKind.i64 (n11 + n29)) w63 < I10 n11 w12))))))))))))))))))))))) ∧
 (decide (n11 < (↑(ByteArray.size x0) : Int)) = false →
 Calls Tryz.prog (64 : Nat) (Array.mk [Value.pointer p4, Value.int IntKind.i64 256]) (w12) (fun e64 w65 =>
 ∃ n66 : Int, ∃ n67 : Int, (e64 = Ending.returned (Value.tuple (Array.mk [Value.int IntKind.u32 n66, Value.int IntKind.i64 n67])) ∧
 Calls Tryz.prog (65 : Nat) (Array.mk [Value.pointer (some (Addr.mk (Array.size (World.heap w)) 0 none)), Value.int IntKind.u32 n66, Value.int IntKind.i64 n67]) (w65) (fun e68 w69 =>
 (e68 = Ending.returned (Value.tuple (Array.mk [])) ∧
 Calls Tryz.prog (69 : Nat) (Array.mk [Value.pointer (some (Addr.mk (Array.size (World.heap w)) 0 none))]) (w69) (fun e70 w71 =>
 ∃ s72 : ByteArray, (e70 = Ending.returned (Value.string s72) ∧
 Calls Tryz.prog (70 : Nat) (Array.mk [Value.string x0]) (w71) (fun e73 w74 =>
 ∃ s75 : ByteArray, (e73 = Ending.returned (Value.string s75) ∧
 (((decide ((↑(ByteArray.size s72) : Int) < (↑(ByteArray.size s75) : Int)) = true →
 R (Value.string s72) w74)) ∧
 (decide ((↑(ByteArray.size s72) : Int) < (↑(ByteArray.size s75) : Int)) = false →
 Calls Tryz.prog (70 : Nat) (Array.mk [Value.string x0]) (w74) (fun e76 w77 =>
 ∃ s78 : ByteArray, (e76 = Ending.returned (Value.string s78) ∧
 R (Value.string s78) w77))))))))))))))))))))))
theorem vc_inflate_Deflate_ok {x0 : ByteArray} {w : World} {R : Value → World → Prop} {R' : Ending → World → Prop} (h : vc_inflate_Deflate x0 w R) (hR : ∀ v w', R v w' → R' (.returned v) w') :
    Calls Tryz.prog 46 #[.string x0] w R' :=
  calls_of_body (vs := [(.string x0, false)]) (ty := ty) (ann := ⟨[(15, [(8, .int .i64), (9, .int .i64)])], [(6, [(7, .int .i64)]), (11, [(8, .int .i64)])], [(11, .quiet)], []⟩) (c := Tryz.f46.body.getD .skip) (by kernel_rfl) Tryz.func46 (by kernel_rfl) (by kernel_rfl) (Eq.mp (by kernel_rfl) h) hR
end Go.Proofs.YtaaimcbicpgjoaaGreatDoor

/- A stream of stored blocks: 'Stored' of the program. Condition: the text is no longer than a slice may be. -/
set_option linter.unusedVariables false
namespace SumM
/-- A stored block's first bytes. -/
def shead (f n : Nat) : List UInt8 := [UInt8.ofNat f] ++ (littleB 2 n ++ littleB 2 (65535 - n))
/-- A stream of stored blocks. -/
def storedS (s : List UInt8) : List UInt8 :=
  if h : s.length ≤ 65535 then shead 1 s.length ++ s else shead 0 65535 ++ s.take 65535 ++ storedS (s.drop 65535)
termination_by s.length
decreasing_by simp; omega
theorem storedS_last {s : List UInt8} (h : s.length ≤ 65535) : storedS s = shead 1 s.length ++ s := by rw [storedS, dif_pos h]
theorem storedS_more {s : List UInt8} (h : ¬ s.length ≤ 65535) : storedS s = shead 0 65535 ++ s.take 65535 ++ storedS (s.drop 65535) := by rw [storedS, dif_neg h]
theorem shead_length (f n : Nat) : (shead f n).length = 5 := by simp [shead, littleB_length]
theorem storedS_len : ∀ (n : Nat) (s : List UInt8), s.length = n → (storedS s).length ≤ 2 * n + 5 := fun n => by
  induction n using Nat.strongRecOn with
  | ind n ih =>
    intro s hs
    by_cases h : s.length ≤ 65535
    · rw [storedS_last h, List.length_append, shead_length]; omega
    · have := ih (n - 65535) (by omega) (s.drop 65535) (by rw [List.length_drop]; omega)
      rw [storedS_more h, List.length_append, List.length_append, shead_length, List.length_take]
      omega
end SumM
namespace Go.Proofs.YtaaimcbicpgjoaaGreatDoor
open Go Vc BitsM SumM Go.Proofs

theorem fill8_head (l : List UInt8) (f : Nat) (h : f ≤ 1) : fill8 (sbits l ++ lowB 3 f) = sbits (l ++ [UInt8.ofNat f]) := by
  unfold fill8
  rw [List.length_append, sbits_length, lowB_length, show 8 * ((8 * l.length + 3 + 7) / 8) - (8 * l.length + 3) = 5 by omega, sbits_append, List.append_assoc]
  congr 1
  rcases (show f = 0 ∨ f = 1 by omega) with rfl | rfl <;> rfl
/-- 'Stored'. -/
theorem stored5_spec (s : ByteArray) (hs : s.size ≤ 100000000) (w : World) :
    Calls Tryz.prog F_inflate_Stored #[.string s] w fun e w' => e = .returned (.string ⟨(storedS s.data.toList).toArray⟩) ∧ Fr (fun _ => False) w w' := by
  refine vc_inflate_Stored_ok (R := fun v w' => v = .string ⟨(storedS s.data.toList).toArray⟩ ∧ Fr (fun _ => False) w w') ?_ (fun v w' h => ⟨by rw [h.1], h.2⟩)
  intro w1 h1
  have hf1 : Fr (fun _ => False) w w1 := h1 ▸ Fr.alloc _ _ _
  have hw1 : Wrt w1 w.heap.size ⟨none, 0, 0⟩ (sbits []) := Wrt.zero (by rw [h1]; exact alloc_new _ _)
  have far : ∀ {w1 w2 : World} {sl : Sl} {l : List Bool}, Fr (fun _ => False) w w1 → Wrt w1 w.heap.size sl l → Fr (WX w.heap.size sl) w1 w2 → Fr (fun _ => False) w w2 := fun h1 hx h2 => h1.trans h2 fun k hk hh => by
    rcases hh with hh | ⟨y, hy, e⟩
    · omega
    · have := (hx.1.own.blk hy).1; omega
  refine ⟨fun t w' => ∃ sl done, Fr (fun _ => False) w w' ∧ Wrt w' w.heap.size sl (sbits done) ∧ done ++ storedS t.data.toList = storedS s.data.toList ∧ t.size ≤ s.size ∧ done.length ≤ 2 * (s.size - t.size), fun t _ => t.size, ⟨_, [], hf1, hw1, rfl, Nat.le_refl _, by simp⟩, ?_⟩
  rintro t w5 ⟨sl, done, hf5, hw5, hdone, hts, hdl⟩
  have htl : t.data.toList.length = t.size := by simp
  obtain ⟨n, hn⟩ : ∃ n, min t.size 65535 = n := ⟨_, rfl⟩
  have en : (if (65535 : Int) < (t.size : Int) then 65535 else (t.size : Int)) = ((n : Nat) : Int) := by split <;> omega
  rw [en]
  obtain ⟨f, hfn⟩ : ∃ f : Nat, f ≤ 1 ∧ (f = 1 ↔ n = t.size) := by
    by_cases h : n = t.size
    · exact ⟨1, by omega, by omega⟩
    · exact ⟨0, by omega, by omega⟩
  refine ⟨fun z w' => z = (f : Int) ∧ w' = w5, ⟨fun h => ⟨?_, rfl⟩, fun h => ⟨?_, rfl⟩⟩, ?_⟩
  · have := eq_of_beq h
    omega
  · have h : ¬ ((n : Int) = (t.size : Int)) := by simpa using h
    omega
  rintro z w8 ⟨rfl, hw⟩
  replace hw := hw.symm
  subst hw
  refine (wbits_spec hw5 (x := f) (n := 3) (by omega) (by omega) (by rw [sbits_length]; omega)).mono ?_
  rintro e w10 ⟨rfl, sl10, hw10, hf10, hs10⟩
  have hf10' := far hf5 hw5 hf10
  refine ⟨rfl, fun w11 d11 => ⟨fun w' => True, trivial, ⟨by omega, by omega⟩, ?_⟩⟩
  have hx : IntKind.i64.wrap (((BitVec.ofInt 64 (n : Int) ^^^ BitVec.ofInt 64 65535).toNat : Nat) : Int) = ((65535 - n : Nat) : Int) := by
    have := xor_nat 64 n 65535 (by omega) (by decide)
    rw [show ((65535 : Nat) : Int) = 65535 from rfl, xor_ones n (by omega)] at this
    rw [this, wrap_i64 (by omega) (by omega)]
  rw [hx, wrap_u64 (x := ((n : Nat) : Int)) (by omega) (by omega), wrap_u64 (x := ((65535 - n : Nat) : Int)) (by omega) (by omega), Int.toNat_natCast]
  have hw11 : Wrt w11 w.heap.size sl10 (sbits done ++ lowB 3 f) := hw10.keep (.drew (fun _ => False) d11) (by simp) (by simp)
  have hf11 := hf10'.trans' (.drew _ d11)
  refine (littleS_spec n 2 (by omega) (by decide) w11).mono ?_
  rintro e w14 ⟨rfl, hf14⟩
  refine ⟨_, rfl, trivial, (littleS_spec (65535 - n) 2 (by omega) (by decide) w14).mono ?_⟩
  rintro e w17 ⟨rfl, hf17⟩
  have hw17 := (hw11.keep hf14 (by simp) (by simp)).keep hf17 (by simp) (by simp)
  have hf17' := (hf11.trans' hf14).trans' hf17
  have h2a : ByteArray.size ⟨(littleB 2 n).toArray⟩ = 2 := by simp [ByteArray.size, littleB_length]
  have h2b : ByteArray.size ⟨(littleB 2 (65535 - n)).toArray⟩ = 2 := by simp [ByteArray.size, littleB_length]
  have hxe : (t.extract 0 n).size = n := by simp; omega
  have hsa : ∀ a b : ByteArray, (a ++ b).size = a.size + b.size := fun a b => by simp
  have htx : ((⟨(littleB 2 n).toArray⟩ : ByteArray) ++ ⟨(littleB 2 (65535 - n)).toArray⟩ ++ t.extract 0 n).data.toList = littleB 2 n ++ littleB 2 (65535 - n) ++ t.data.toList.take n := by
    simp only [ByteArray.data_append, Array.toList_append, extract_list, List.drop_zero, Nat.sub_zero]
  refine ⟨_, rfl, trivial, by rw [h2a, h2b]; omega, by rw [hsa, h2a, h2b, hxe]; omega, ?_⟩
  refine (wbytes_spec hw17 _ (by rw [hsa, hsa, h2a, h2b, hxe, List.length_append, sbits_length, lowB_length]; omega)).mono ?_
  rintro e w20 ⟨rfl, sl20, hw20, hf20, hs20⟩
  have hf20' := far hf17' hw17 hf20
  have hdone2 : fill8 (sbits done ++ lowB 3 f) ++ sbits ((⟨(littleB 2 n).toArray⟩ : ByteArray) ++ ⟨(littleB 2 (65535 - n)).toArray⟩ ++ t.extract 0 n).data.toList = sbits (done ++ shead f n ++ t.data.toList.take n) := by
    rw [htx, fill8_head _ _ hfn.1, ← sbits_append]
    congr 1
    simp [shead]
  rw [hdone2] at hw20
  refine ⟨rfl, ⟨by omega, by omega⟩, fun h1 => ?_, fun hn1 => ?_⟩
  · have h1 : f = 1 := by have := eq_of_beq h1; omega
    have hnt := hfn.2.1 h1
    refine (wtext_spec hw20).mono ?_
    rintro e w22 ⟨rfl, hf22⟩
    refine ⟨_, rfl, ?_, hf20'.trans' hf22⟩
    rw [textOf_sbits, ← hdone, storedS_last (by omega), h1, htl, hnt, List.take_of_length_le (by omega), List.append_assoc]
  · have hn1 : f ≠ 1 := fun hh => by rw [hh] at hn1; simp at hn1
    have hnt : n ≠ t.size := fun hh => hn1 (hfn.2.2 hh)
    have hn5 : n = 65535 := by omega
    have hf0 : f = 0 := by omega
    subst hn5
    subst hf0
    have hex : (t.extract 65535 t.size).data.toList = t.data.toList.drop 65535 := by rw [extract_list, List.take_of_length_le (by simp)]
    have hes : (t.extract 65535 t.size).size = t.size - 65535 := by simp
    refine ⟨⟨sl20, done ++ shead 0 65535 ++ t.data.toList.take 65535, hf20', hw20, ?_, by omega, ?_⟩, by dsimp only; omega⟩
    · rw [hex, ← hdone, storedS_more (s := t.data.toList) (by omega)]
      simp only [List.append_assoc]
    · rw [List.length_append, List.length_append, shead_length, List.length_take, hes]; omega
end Go.Proofs.YtaaimcbicpgjoaaGreatDoor

/- What Code of a table of codes does, and what law 4 takes of a list. -/
set_option linter.unusedVariables false
namespace Go.Proofs.YtaaimcbicpgjoaaGreatDoor
open Go Vc BitsM HuffM Go.Proofs

theorem hcode_spec {w : World} {lo hi b : Nat} {ls : List Nat} (h : Tab w lo hi b ls) (x : Int) :
    Calls Tryz.prog F_huff_Table_Code #[.pointer (some ⟨b, 0, none⟩), .int .i64 x] w fun e w' =>
      e = .returned (.tuple #[.int .u32 (((cd ls x).1 : Nat) : Int), .int .i64 (((cd ls x).2 : Nat) : Int)]) ∧ w' = w := by
  obtain ⟨l1, l2, ht, hb, hh⟩ := h.at_
  have hfits := h.fits
  have hls := h.small
  refine vc_huff_Table_Code_ok (R := fun v w' => v = .tuple #[.int .u32 (((cd ls x).1 : Nat) : Int), .int .i64 (((cd ls x).2 : Nat) : Int)] ∧ w' = w) ?_ (fun v w' h => ⟨by rw [h.1], h.2⟩)
  have ho1 := ht.o1
  rw [iv_ofNat] at ho1
  have hlen1 : l1.len = ls.length := by rw [ho1.len, List.length_map]
  have none_ : ¬ (0 ≤ x ∧ ls.getD x.toNat 0 ≠ 0) → cd ls x = (0, 0) := fun h => if_neg h
  refine ⟨fun hlt => ?_, fun hge => ⟨l1, ht.c0, fun hgt => ?_, fun hle => ⟨l1, ht.c0, ?_⟩⟩⟩
  · have hlt := of_decide_eq_true hlt
    rw [none_ (by omega)]; exact ⟨rfl, rfl⟩
  · have hge := of_decide_eq_false hge
    have hgt := of_decide_eq_true hgt
    rw [none_ (fun h => h.2 (by rw [List.getD_eq_getElem?_getD, List.getElem?_eq_none (by omega)]; rfl))]; exact ⟨rfl, rfl⟩
  have hge := of_decide_eq_false hge
  have hle := of_decide_eq_false hle
  obtain ⟨q, rfl⟩ := Int.eq_ofNat_of_zero_le (show 0 ≤ x by omega)
  have hq : q < ls.length := by omega
  have hgq : ls[q]? = some (ls.getD q 0) := by rw [List.getD_eq_getElem?_getD, List.getElem?_eq_getElem hq]; rfl
  obtain ⟨y, hy, hcy⟩ := ho1.reads q _ (nv_get hgq)
  refine ⟨⟨by omega, by omega⟩, y, hy, _, by rw [Int.toNat_natCast, Nat.mul_one]; exact hcy, fun h0 => ?_, fun h0 => ?_⟩
  · have h0 : ls.getD q 0 = 0 := by simpa using h0
    rw [none_ (fun h => h.2 (by rw [Int.toNat_natCast]; exact h0))]; exact ⟨rfl, rfl⟩
  have h0 : ls.getD q 0 ≠ 0 := by simpa using h0
  have hcd : cd ls (q : Int) = (code ls q, ls.getD q 0) := by unfold cd; rw [if_pos ⟨by omega, by rw [Int.toNat_natCast]; exact h0⟩, Int.toNat_natCast]
  rw [hcd]
  generalize hN : ls.getD q 0 = N at hgq h0
  have hN15 := hfits.mem hgq
  have hcode : code ls q = 2 * fin ls (N - 1) + (ls.take q).count N := by rw [code, getD_of hgq]
  have ho2 := ht.o2
  have hlen2 : l2.len = (sorted ls 15).length := by rw [ho2.len, List.length_map]
  have hfle : ∀ {m : Nat}, m ≤ 15 → fin ls m ≤ 32768 := fun {m} hm => by
    have := hfits.le hm
    have : 2 ^ m ≤ 2 ^ 15 := Nat.pow_le_pow_right (by decide) hm
    omega
  have hsl := sorted_le ls
  refine ⟨fun cde at_ n w' => w' = w ∧ ∃ m : Nat, m < N ∧ n = (m : Int) + 1 ∧ cde = ((fin ls m : Nat) : Int) ∧ at_ = (((sorted ls m).length : Nat) : Int), fun _ _ n _ => (17 - n).toNat,
    ⟨rfl, 0, by omega, rfl, rfl, rfl⟩, ?_⟩
  rintro cde at_ n w10 ⟨rfl, m, hm, rfl, rfl, rfl⟩
  refine ⟨fun _ => ?_, fun hgt => absurd (of_decide_eq_false hgt) (by omega)⟩
  have htn : ((m : Int) + 1).toNat = m + 1 := by omega
  have hfs : fin ls (m + 1) = 2 * fin ls m + ls.count (m + 1) := rfl
  have hss : (sorted ls (m + 1)).length = (sorted ls m).length + ls.count (m + 1) := by rw [sorted, List.length_append, syms_length]
  have hf1 := hfle (m := m + 1) (by omega)
  have hf0 := hfle (m := m) (by omega)
  have hs1 := hsl (m + 1)
  have e1 : IntKind.u32.wrap (((fin ls m : Nat) : Int) * 2 ^ min (Int.toNat 1) 32) = ((2 * fin ls m : Nat) : Int) := by
    have : (2 : Int) ^ min (Int.toNat 1) 32 = 2 := rfl
    rw [this, wrap_u32 (by omega) (by omega)]; omega
  rw [htn, e1]
  refine ⟨by decide, ⟨by omega, by omega⟩, _, ht.cnt (by omega), ?_⟩
  refine ⟨fun cde at_ j w' => w' = w10 ∧ ∃ k : Nat, k ≤ ls.count (m + 1) ∧ j = (k : Int) ∧ cde = ((2 * fin ls m + k : Nat) : Int) ∧ at_ = (((sorted ls m).length + k : Nat) : Int) ∧ (m + 1 = N → k ≤ (ls.take q).count N), fun _ _ j _ => (((ls.count (m + 1) : Nat) : Int) - j).toNat,
    ⟨rfl, 0, by omega, rfl, rfl, rfl, fun _ => Nat.zero_le _⟩, ?_⟩
  rintro cde at_ j w17 ⟨rfl, k, hk, rfl, rfl, rfl, hkN⟩
  refine ⟨fun hlt => ?_, fun hge => ?_⟩
  · have hlt := of_decide_eq_true hlt
    have hk' : k < (syms ls (m + 1)).length := by rw [syms_length]; omega
    have hsy := List.getElem?_eq_getElem hk'
    generalize (syms ls (m + 1))[k] = s at hsy
    obtain ⟨hs1', hs2⟩ := syms_get hsy
    have hso := sorted_get (by omega) hsy (15 - (m + 1))
    rw [show m + 1 + (15 - (m + 1)) = 15 by omega, Nat.add_sub_cancel] at hso
    obtain ⟨z, hz, hcz⟩ := ho2.reads _ _ (nv_get hso)
    have hsz := hsl 15
    have hso15 := (List.getElem?_eq_some_iff.1 hso).1
    refine ⟨l2, ht.c17, ⟨by omega, by omega⟩, z, hz, _, by rw [Int.toNat_natCast, Nat.mul_one]; exact hcz, fun heq => ?_, fun hne => ?_⟩
    · have heq : s = q := by have : (s : Int) = (q : Int) := by simpa using heq
                             omega
      subst heq
      have : m + 1 = N := by rw [hgq] at hs1'; exact (Option.some.inj hs1').symm
      subst this
      rw [hs2] at hcode
      rw [hcode, Nat.add_sub_cancel]
      exact ⟨rfl, rfl⟩
    · have hne : ¬ s = q := fun h => by subst h; simp at hne
      have e1 : IntKind.u32.wrap (((2 * fin ls m + k : Nat) : Int) + 1) = ((2 * fin ls m + (k + 1) : Nat) : Int) := by rw [wrap_u32 (by omega) (by omega)]; omega
      have e2 : IntKind.i64.wrap ((((sorted ls m).length + k : Nat) : Int) + 1) = (((sorted ls m).length + (k + 1) : Nat) : Int) := by rw [wrap_i64 (by omega) (by omega)]; omega
      have e3 : IntKind.i64.wrap ((k : Int) + 1) = ((k + 1 : Nat) : Int) := by rw [wrap_i64 (by omega) (by omega)]; omega
      rw [e1, e2, e3]
      refine ⟨⟨rfl, k + 1, by omega, rfl, rfl, rfl, fun hmN => ?_⟩, by dsimp only; omega⟩
      have h1 := hkN hmN
      rcases Nat.lt_or_ge k ((ls.take q).count N) with h2 | h2
      · exact h2
      · exfalso
        subst hmN
        have h3 : (ls.take s).count (m + 1) = (ls.take q).count (m + 1) := by omega
        rcases Nat.lt_trichotomy s q with h | h | h
        · have := count_take_step hs1' h; omega
        · exact hne h
        · have := count_take_step hgq h; omega
  · have hge := of_decide_eq_false hge
    have : k = ls.count (m + 1) := by omega
    subst this
    have hmN : m + 1 ≠ N := fun h => by
      have h1 := hkN h
      have h2 := count_take_lt hgq
      subst h; omega
    have e1 : IntKind.i64.wrap ((m : Int) + 1 + 1) = ((m + 1 : Nat) : Int) + 1 := by rw [wrap_i64 (by omega) (by omega)]; omega
    rw [e1]
    exact ⟨⟨rfl, m + 1, by omega, rfl, by rw [hfs], by rw [hss]⟩, by dsimp only; omega⟩
end Go.Proofs.YtaaimcbicpgjoaaGreatDoor

/- Streams that are written say their text. Condition: the text is no longer than a slice may be. -/
set_option linter.unusedVariables false
namespace DefM
open BitsM HuffM InfM SumM Go.Proofs.YtaaimcbicpgjoaaGreatDoor

theorem sym_code {ls : List Nat} (hf : Fits ls) {s n : Nat} (h : ls[s]? = some n) (h1 : 1 ≤ n) (F rest : List Bool) : sym ls (F ++ (cbits ls s ++ rest)) F.length = .ok (s, F.length + n) := by
  refine sym_at ?_
  rw [List.drop_left]
  exact (cbits_prefix hf h h1 _).1 (List.prefix_append ..)
theorem take_low (F rest : List Bool) (n x : Nat) : take (F ++ (lowB n x ++ rest)) n F.length = .ok (x % 2 ^ n, F.length + n) := by
  have h1 : (lowB n x).length = n := lowB_length n x
  unfold take
  rw [if_pos (by simp only [List.length_append, h1]; omega), List.drop_left]
  have : (lowB n x ++ rest).take n = lowB n x := by
    have := List.take_left' (l₁ := lowB n x) (l₂ := rest) h1
    exact this
  rw [this, num_lowB]
theorem copy_take {s : List UInt8} {i back : Nat} (hb : 1 ≤ back) (hi : back ≤ i) (A : List UInt8) : ∀ n, i + n ≤ s.length → (∀ j, j < n → s[i - back + j]? = s[i + j]?) → copy back n (A ++ s.take i) = A ++ s.take (i + n)
  | 0, _, _ => rfl
  | n + 1, hl, hj => by
    rw [copy_succ, copy_take hb hi A n (by omega) fun j h => hj j (by omega)]
    have hlt : i + n < s.length := by omega
    rw [show i + (n + 1) = i + n + 1 by omega, List.take_succ_eq_append_getElem hlt, ← List.append_assoc]
    congr 2
    have h1 : (A ++ s.take (i + n)).length - back = A.length + (i - back + n) := by rw [List.length_append, List.length_take]; omega
    rw [h1, List.getD_eq_getElem?_getD, List.getElem?_append_right (by omega), Nat.add_sub_cancel_left, List.getElem?_take_of_lt (by omega), hj n (by omega), List.getElem?_eq_getElem hlt]
    rfl
/-- These bits are symbols, by the fixed codes, that say the first i bytes. -/
def Enc (s : List UInt8) (i : Nat) (L : List Bool) : Prop := ∀ (F : List Bool) (A : List UInt8) (most : Nat) (rest : List Bool), A.length ≤ most → ∃ k, k ≤ L.length ∧
  ∀ f, packed fixedLit fixedDist most (F ++ (L ++ rest)) (f + k) F.length A = if A.length + i ≤ most then packed fixedLit fixedDist most (F ++ (L ++ rest)) f (F.length + L.length) (A ++ s.take i) else .error 2
theorem enc_zero (s : List UInt8) : Enc s 0 [] := fun F A most rest hA => ⟨0, Nat.le_refl _, fun f => by
  rw [if_pos (by omega), List.take_zero, List.append_nil]; rfl⟩
theorem lit_fits : Fits fixedLit := chk_fits fixedLit_chk
theorem dist_fits : Fits fixedDist := chk_fits fixedDist_chk
theorem lit_get {s : Nat} (h : s < 288) : fixedLit[s]? = some (fixN s) := by
  rw [fixedLit_eq, List.getElem?_map, List.getElem?_range h]; rfl
theorem dist_get {s : Nat} (h : s < 32) : fixedDist[s]? = some 5 := by
  rw [fixedDist_eq, List.getElem?_map, List.getElem?_range h]; rfl
theorem fixN_le (s : Nat) : 7 ≤ fixN s ∧ fixN s ≤ 9 := by unfold fixN; split <;> (try split) <;> omega
theorem lit_len {s : Nat} (h : s < 288) : (cbits fixedLit s).length = fixN s := by rw [cbits_length, getD_of (lit_get h)]
theorem dist_len {s : Nat} (h : s < 32) : (cbits fixedDist s).length = 5 := by rw [cbits_length, getD_of (dist_get h)]
/-- One more step, whatever it is. -/
theorem enc_step {s : List UInt8} {i i2 : Nat} {L X : List Bool} (h : Enc s i L) (hi : i ≤ i2) (hs : i ≤ s.length) (hX : 1 ≤ X.length)
    (step : ∀ (G : List Bool) (A : List UInt8) (most f : Nat) (rest : List Bool), A.length + i ≤ most → packed fixedLit fixedDist most (G ++ (X ++ rest)) (f + 1) G.length (A ++ s.take i) = if A.length + i2 ≤ most then packed fixedLit fixedDist most (G ++ (X ++ rest)) f (G.length + X.length) (A ++ s.take i2) else .error 2) : Enc s i2 (L ++ X) := fun F A most rest hA => by
  obtain ⟨k, hk, hp⟩ := h F A most (X ++ rest) hA
  refine ⟨k + 1, by rw [List.length_append]; omega, fun f => ?_⟩
  rw [List.append_assoc L X rest, show f + (k + 1) = f + 1 + k by omega, hp]
  by_cases hle : A.length + i ≤ most
  · rw [if_pos hle]
    have := step (F ++ L) A most f rest hle
    rw [List.append_assoc F L, List.length_append] at this
    rw [this, List.length_append, Nat.add_assoc]
  · rw [if_neg hle, if_neg (by omega)]
theorem enc_lit {s : List UInt8} {i : Nat} {L : List Bool} (h : Enc s i L) {c : UInt8} (hc : s[i]? = some c) : Enc s (i + 1) (L ++ cbits fixedLit c.toNat) := by
  obtain ⟨hlt, hc'⟩ := List.getElem?_eq_some_iff.1 hc
  have hb := c.toNat_lt
  refine enc_step h (by omega) (by omega) (by rw [lit_len (by omega)]; have := fixN_le c.toNat; omega) fun G A most f rest hle => ?_
  rw [packed, sym_code lit_fits (lit_get (by omega)) (by have := fixN_le c.toNat; omega)]
  dsimp only
  rw [if_neg (by omega), if_pos (by omega), UInt8.ofNat_toNat, lit_len (by omega)]
  have hl : (A ++ s.take i).length = A.length + i := by rw [List.length_append, List.length_take]; omega
  rw [hl]
  by_cases hm : A.length + i = most
  · rw [if_pos hm, if_neg (by omega)]
  · rw [if_neg hm, if_pos (by omega), List.append_assoc, List.take_succ_eq_append_getElem hlt, hc']
/-- The bits of a repeat. -/
def repB (a more d far : Nat) : List Bool := cbits fixedLit (257 + a) ++ (lowB (lenBase a).2 more ++ (cbits fixedDist d ++ lowB (distBase d).2 far))
theorem repB_length {a more d far : Nat} (ha : a ≤ 28) (hd : d ≤ 29) : (repB a more d far).length = fixN (257 + a) + (lenBase a).2 + 5 + (distBase d).2 := by
  unfold repB
  simp only [List.length_append, lit_len (show 257 + a < 288 by omega), dist_len (show d < 32 by omega), lowB_length]
  omega
theorem enc_rep {s : List UInt8} {i : Nat} {L : List Bool} (h : Enc s i L) {a more d far : Nat} (ha : a ≤ 28) (hd : d ≤ 29) (hm : more < 2 ^ (lenBase a).2) (hfar : far < 2 ^ (distBase d).2)
    (hback : (distBase d).1 + far ≤ i) (hn : i + ((lenBase a).1 + more) ≤ s.length) (hj : ∀ j, j < (lenBase a).1 + more → s[i - ((distBase d).1 + far) + j]? = s[i + j]?) : Enc s (i + ((lenBase a).1 + more)) (L ++ repB a more d far) := by
  have hb1 := (distBase_le d hd).1
  refine enc_step h (by omega) (by omega) (by rw [repB_length ha hd]; omega) fun G A most f rest hle => ?_
  have hG1 : G ++ (repB a more d far ++ rest) = G ++ (cbits fixedLit (257 + a) ++ (lowB (lenBase a).2 more ++ (cbits fixedDist d ++ (lowB (distBase d).2 far ++ rest)))) := by
    unfold repB; simp only [List.append_assoc]
  have f1 := sym_code lit_fits (lit_get (show 257 + a < 288 by omega)) (by have := fixN_le (257 + a); omega) G (lowB (lenBase a).2 more ++ (cbits fixedDist d ++ (lowB (distBase d).2 far ++ rest)))
  have f2 := take_low (G ++ cbits fixedLit (257 + a)) (cbits fixedDist d ++ (lowB (distBase d).2 far ++ rest)) (lenBase a).2 more
  have f3 := sym_code dist_fits (dist_get (show d < 32 by omega)) (by omega) (G ++ cbits fixedLit (257 + a) ++ lowB (lenBase a).2 more) (lowB (distBase d).2 far ++ rest)
  have f4 := take_low (G ++ cbits fixedLit (257 + a) ++ lowB (lenBase a).2 more ++ cbits fixedDist d) rest (distBase d).2 far
  simp only [List.append_assoc, List.length_append, lit_len (show 257 + a < 288 by omega), dist_len (show d < 32 by omega), lowB_length, Nat.mod_eq_of_lt hm, Nat.mod_eq_of_lt hfar] at f1 f2 f3 f4
  rw [hG1, repB_length ha hd]
  generalize G ++ (cbits fixedLit (257 + a) ++ (lowB (lenBase a).2 more ++ (cbits fixedDist d ++ (lowB (distBase d).2 far ++ rest)))) = B at f1 f2 f3 f4 ⊢
  rw [packed, f1]
  dsimp only
  rw [if_neg (by omega), if_neg (by omega), rep, if_neg (by omega), show 257 + a - 257 = a by omega, f2]
  dsimp only
  rw [show G.length + (fixN (257 + a)) + (lenBase a).2 = G.length + (fixN (257 + a) + (lenBase a).2) by omega] at *
  rw [f3]
  dsimp only
  rw [if_neg (by omega)]
  rw [show G.length + (fixN (257 + a) + (lenBase a).2) + 5 = G.length + (fixN (257 + a) + ((lenBase a).2 + 5)) by omega] at *
  rw [f4]
  dsimp only
  have hl : (A ++ s.take i).length = A.length + i := by rw [List.length_append, List.length_take]; omega
  rw [hl, if_neg (by omega), copy_take (by omega) hback A _ hn hj]
  by_cases hmm : most < A.length + i + ((lenBase a).1 + more)
  · rw [if_pos hmm, if_neg (by omega)]
  · rw [if_neg hmm, if_pos (by omega)]
    dsimp only
    congr 1
    omega
/-- This stream says this text, at whatever place and behind whatever came out before. -/
def StreamAt (t s : List UInt8) (p : Nat) : Prop := ∀ (F : List Bool) (A : List UInt8) (most : Nat) (back : List UInt8) (f : Nat), F.length % 8 = 0 → A.length ≤ most → t.length < f →
  blocks most (F ++ sbits (t ++ back)) f F.length A = if A.length + s.length ≤ most then .ok (A ++ s, F.length + p) else .error 2
def Stream (t s : List UInt8) : Prop := ∃ p, (p + 7) / 8 = t.length ∧ StreamAt t s p
theorem stream_packed {s : List UInt8} {L : List Bool} (h : Enc s s.length L) : Stream (textOf (lowB 3 3 ++ (L ++ cbits fixedLit 256))) s := by
  refine ⟨3 + (L.length + 7), ?_, fun F A most back f hF hA hf => ?_⟩
  · rw [textOf_length, List.length_append, List.length_append, lowB_length, lit_len (by omega)]
    rfl
  obtain ⟨g, rfl⟩ : ∃ g, f = g + 1 := ⟨f - 1, by omega⟩
  obtain ⟨Z, hZ⟩ : ∃ Z, sbits (textOf (lowB 3 3 ++ (L ++ cbits fixedLit 256)) ++ back) = lowB 3 3 ++ (L ++ (cbits fixedLit 256 ++ Z)) := by
    refine ⟨List.replicate (8 * (((lowB 3 3 ++ (L ++ cbits fixedLit 256)).length + 7) / 8) - (lowB 3 3 ++ (L ++ cbits fixedLit 256)).length) false ++ sbits back, ?_⟩
    rw [sbits_append, sbits_textOf]
    unfold fill8
    simp only [List.append_assoc]
  rw [hZ]
  have ht := take_low F (L ++ (cbits fixedLit 256 ++ Z)) 3 3
  have hs := sym_code lit_fits (lit_get (show 256 < 288 by omega)) (by have := fixN_le 256; omega) (F ++ (lowB 3 3 ++ L)) Z
  obtain ⟨k, hk, hp⟩ := h (F ++ lowB 3 3) A most (cbits fixedLit 256 ++ Z) hA
  have hBl : (F ++ (lowB 3 3 ++ (L ++ (cbits fixedLit 256 ++ Z)))).length = F.length + (3 + (L.length + (7 + Z.length))) := by
    simp only [List.length_append, lowB_length, lit_len (show 256 < 288 by omega)]; rfl
  simp only [List.append_assoc, List.length_append, lowB_length] at hs hp
  generalize F ++ (lowB 3 3 ++ (L ++ (cbits fixedLit 256 ++ Z))) = B at ht hs hp hBl ⊢
  rw [blocks, ht]
  dsimp only
  rw [block, if_neg (by decide), if_pos (by decide), hBl]
  obtain ⟨j, hj⟩ : ∃ j, F.length + (3 + (L.length + (7 + Z.length))) + 1 = j + 1 + k := ⟨F.length + (3 + (L.length + (7 + Z.length))) - k, by omega⟩
  rw [hj, hp]
  by_cases hm : A.length + s.length ≤ most
  · rw [if_pos hm, if_pos hm, packed, show F.length + 3 + L.length = F.length + (3 + L.length) by omega, hs]
    dsimp only
    rw [if_pos rfl]
    dsimp only
    rw [if_pos (by decide), List.take_length]
    congr 2
  · rw [if_neg hm, if_neg hm]
theorem num_little2 (n : Nat) (h : n < 65536) (rest : List UInt8) : num ((sbits (littleB 2 n ++ rest)).take 16) = n := by
  have hl : (sbits (littleB 2 n)).length = 16 := by rw [sbits_length, littleB_length]
  rw [sbits_append]
  have : (sbits (littleB 2 n) ++ sbits rest).take 16 = sbits (littleB 2 n) := List.take_left' hl
  rw [this, show littleB 2 n = [UInt8.ofNat n, UInt8.ofNat (n / 256)] by simp [littleB, List.range_succ]]
  simp only [sbits, List.append_nil, num_append, num_lowB, lowB_length]
  simp
  omega
theorem bytes_here (c rest : List UInt8) : bytesAt (sbits (c ++ rest)) c.length 0 = c := by
  rw [bytesAt_of, List.drop_zero]
  have := bytesOf_sbits [] 0 rfl (c ++ rest) c.length (by rw [List.length_append]; omega)
  rw [List.nil_append, Nat.zero_add] at this
  rw [this, List.take_left]
  rfl
theorem bytesAt_drop (B : List Bool) (n p : Nat) : bytesAt B n p = bytesAt (B.drop p) n 0 := by
  rw [bytesAt_of, bytesAt_of, List.drop_zero]
theorem stored_block {most : Nat} {F : List Bool} {A c rest : List UInt8} {fl f : Nat} (hF : F.length % 8 = 0) (hfl : fl ≤ 1) (hc : c.length ≤ 65535) :
    blocks most (F ++ sbits (shead fl c.length ++ (c ++ rest))) (f + 1) F.length A =
      if A.length + c.length ≤ most then (if fl = 1 then .ok (A ++ c, F.length + 8 * (5 + c.length)) else blocks most (F ++ sbits (shead fl c.length ++ (c ++ rest))) f (F.length + 8 * (5 + c.length)) (A ++ c)) else .error 2 := by
  have hsp : sbits (shead fl c.length ++ (c ++ rest)) = lowB 3 fl ++ (List.replicate 5 false ++ sbits (littleB 2 c.length ++ (littleB 2 (65535 - c.length) ++ (c ++ rest)))) := by
    have hb : sbits [UInt8.ofNat fl] = lowB 3 fl ++ List.replicate 5 false := by rcases (show fl = 0 ∨ fl = 1 by omega) with rfl | rfl <;> rfl
    unfold shead
    rw [List.append_assoc, sbits_append, hb, List.append_assoc, List.append_assoc]
  have ht := take_low F (List.replicate 5 false ++ sbits (littleB 2 c.length ++ (littleB 2 (65535 - c.length) ++ (c ++ rest)))) 3 fl
  rw [← hsp] at ht
  have hX : (F ++ (lowB 3 fl ++ List.replicate 5 false)).length = F.length + 8 := by simp [lowB_length]
  have hd : (F ++ sbits (shead fl c.length ++ (c ++ rest))).drop (F.length + 8) = sbits (littleB 2 c.length ++ (littleB 2 (65535 - c.length) ++ (c ++ rest))) := by
    rw [hsp, ← List.append_assoc (lowB 3 fl), ← List.append_assoc F, ← hX, List.drop_left]
  have hBl : (F ++ sbits (shead fl c.length ++ (c ++ rest))).length = F.length + 8 * (5 + c.length + rest.length) := by
    rw [List.length_append, sbits_length, List.length_append, shead_length, List.length_append]; omega
  have hd2 : (F ++ sbits (shead fl c.length ++ (c ++ rest))).drop (F.length + 8 + 16) = sbits (littleB 2 (65535 - c.length) ++ (c ++ rest)) := by
    rw [← List.drop_drop, hd, show 16 = 8 * 2 from rfl, ← sbits_drop, List.drop_left' (littleB_length 2 _)]
  have hd3 : (F ++ sbits (shead fl c.length ++ (c ++ rest))).drop (F.length + 8 + 32) = sbits (c ++ rest) := by
    rw [show F.length + 8 + 32 = F.length + 8 + 16 + 16 by omega, ← List.drop_drop, hd2, show 16 = 8 * 2 from rfl, ← sbits_drop, List.drop_left' (littleB_length 2 _)]
  have hn1 := num_little2 c.length (by omega) (littleB 2 (65535 - c.length) ++ (c ++ rest))
  have hn2 := num_little2 (65535 - c.length) (by omega) (c ++ rest)
  rw [← hd] at hn1
  rw [← hd2] at hn2
  have hby := bytesAt_drop (F ++ sbits (shead fl c.length ++ (c ++ rest))) c.length (F.length + 8 + 32)
  rw [hd3, bytes_here] at hby
  generalize F ++ sbits (shead fl c.length ++ (c ++ rest)) = B at ht hBl hn1 hn2 hby ⊢
  rw [blocks, ht]
  dsimp only
  have hfl8 : fl % 2 ^ 3 = fl := by omega
  rw [hfl8, block, if_pos (by omega), stored]
  dsimp only
  rw [show (F.length + 3 + 7) / 8 * 8 = F.length + 8 by omega, if_pos (by omega), hn1, hn2, if_neg (by omega), if_pos (by omega), hby]
  by_cases hm : A.length + c.length ≤ most
  · rw [if_neg (by omega), if_pos hm]
    dsimp only
    rw [show F.length + 8 + 32 + 8 * c.length = F.length + 8 * (5 + c.length) by omega]
    by_cases h1 : fl = 1
    · rw [if_pos (by omega), if_pos h1]
    · rw [if_neg (by omega), if_neg h1]
  · rw [if_pos (by omega), if_neg hm]
theorem stream_stored : ∀ (n : Nat) (s : List UInt8), s.length = n → StreamAt (storedS s) s (8 * (storedS s).length) := fun n => by
  induction n using Nat.strongRecOn with
  | ind n ih =>
    intro s hs F A most back f hF hA hf
    obtain ⟨g, rfl⟩ : ∃ g, f = g + 1 := ⟨f - 1, by omega⟩
    by_cases h : s.length ≤ 65535
    · rw [storedS_last h, List.append_assoc, stored_block hF (by decide) h, if_pos rfl, List.length_append, shead_length]
    · have hc : (s.take 65535).length = 65535 := by rw [List.length_take]; omega
      have hb := stored_block (most := most) (F := F) (A := A) (c := s.take 65535) (rest := storedS (s.drop 65535) ++ back) (fl := 0) (f := g) hF (by decide) (by omega)
      rw [hc, if_neg (show ¬ ((0 : Nat) = 1) by decide)] at hb
      have hst := ih (n - 65535) (by omega) (s.drop 65535) (by rw [List.length_drop]; omega)
      have hlen : (storedS s).length = 5 + 65535 + (storedS (s.drop 65535)).length := by
        rw [storedS_more h, List.length_append, List.length_append, shead_length, hc]
      rw [hlen] at hf ⊢
      rw [storedS_more h]
      rw [show shead 0 65535 ++ s.take 65535 ++ storedS (s.drop 65535) ++ back = shead 0 65535 ++ (s.take 65535 ++ (storedS (s.drop 65535) ++ back)) by simp only [List.append_assoc], hb]
      have hF2 : (F ++ sbits (shead 0 65535 ++ s.take 65535)).length = F.length + 8 * (5 + 65535) := by rw [List.length_append, sbits_length, List.length_append, shead_length, hc]
      have h2 := fun hm => hst (F ++ sbits (shead 0 65535 ++ s.take 65535)) (A ++ s.take 65535) most back g (by rw [hF2]; omega) hm (by omega)
      rw [hF2, List.append_assoc, ← sbits_append, List.append_assoc, List.length_append, hc, List.length_drop, List.append_assoc, List.take_append_drop] at h2
      by_cases hm : A.length + 65535 ≤ most
      · rw [if_pos hm, h2 hm]
        by_cases hm2 : A.length + s.length ≤ most
        · rw [if_pos (by omega), if_pos hm2]
          congr 2
          omega
        · rw [if_neg (by omega), if_neg hm2]
      · rw [if_neg hm, if_neg (by omega)]
end DefM
namespace Go.Proofs.YtaaimcbicpgjoaaGreatDoor
open Go Vc BitsM HuffM InfM SumM Go.Proofs

/-- The last symbol whose base is not above a number. -/
def SymOf (base : Nat → Nat × Nat) (top n a : Nat) : Prop := a ≤ top ∧ (base a).1 ≤ n ∧ (a = top ∨ n < (base (a + 1)).1)
open Classical in
noncomputable def symF (base : Nat → Nat × Nat) (top n : Nat) : Nat := if h : ∃ a, SymOf base top n a then h.choose else 0
theorem symOf_one {base : Nat → Nat × Nat} {top n a b : Nat} (mono : ∀ i j, i < j → j ≤ top → (base i).1 < (base j).1) (h : SymOf base top n a) (h' : SymOf base top n b) : a = b := by
  obtain ⟨h1, h2, h3⟩ := h
  obtain ⟨g1, g2, g3⟩ := h'
  rcases Nat.lt_trichotomy a b with hlt | rfl | hlt
  · rcases h3 with rfl | h3
    · omega
    · by_cases hab : a + 1 = b
      · rw [hab] at h3; omega
      · have := mono (a + 1) b (by omega) g1; omega
  · rfl
  · rcases g3 with rfl | g3
    · omega
    · by_cases hab : b + 1 = a
      · rw [hab] at g3; omega
      · have := mono (b + 1) a (by omega) h1; omega
theorem symF_eq {base : Nat → Nat × Nat} {top n a : Nat} (mono : ∀ i j, i < j → j ≤ top → (base i).1 < (base j).1) (h : SymOf base top n a) : symF base top n = a := by
  have hx : ∃ a, SymOf base top n a := ⟨a, h⟩
  unfold symF
  rw [dif_pos hx]
  exact symOf_one mono hx.choose_spec h
theorem len_mono : ∀ i j, i < j → j ≤ 28 → (lenBase i).1 < (lenBase j).1 := fun i j hi hj => by
  have : ∀ j, j ≤ 28 → ∀ i, i < j → (lenBase i).1 < (lenBase j).1 := by decide +kernel
  exact this j hj i hi
theorem dist_mono : ∀ i j, i < j → j ≤ 29 → (distBase i).1 < (distBase j).1 := fun i j hi hj => by
  have : ∀ j, j ≤ 29 → ∀ i, i < j → (distBase i).1 < (distBase j).1 := by decide +kernel
  exact this j hj i hi
/-- How many bytes are alike. -/
def alike (s : List UInt8) (a i : Nat) : Nat → Nat → Nat
  | 0, m => m
  | f + 1, m => if i + m < s.length ∧ s[a + m]? = s[i + m]? then alike s a i f (m + 1) else m
/-- What is found at a place: how many bytes, how far back, the entries behind. -/
def dfind (s : ByteArray) (i : Nat) (ents : List (ByteArray × Value)) : Nat × Nat × List (ByteArray × Value) :=
  if i + 3 ≤ s.size then
    match mlook ents (s.extract i (i + 3)) with
    | some (.int _ v) => if i - v.toNat ≤ 32768 then (alike s.data.toList v.toNat i 258 0, i - v.toNat, mupd ents (s.extract i (i + 3)) (.int .i64 (i : Int))) else (0, 0, mupd ents (s.extract i (i + 3)) (.int .i64 (i : Int)))
    | _ => (0, 0, mupd ents (s.extract i (i + 3)) (.int .i64 (i : Int)))
  else (0, 0, ents)
/-- One symbol, or one repeat, more. -/
noncomputable def dstep (s : ByteArray) (x : Nat × List Bool × List (ByteArray × Value)) : Nat × List Bool × List (ByteArray × Value) :=
  if (dfind s x.1 x.2.2).1 < 3 then (x.1 + 1, x.2.1 ++ cbits fixedLit (byt s x.1), (dfind s x.1 x.2.2).2.2)
  else (x.1 + (dfind s x.1 x.2.2).1, x.2.1 ++ DefM.repB (symF lenBase 28 (dfind s x.1 x.2.2).1) ((dfind s x.1 x.2.2).1 - (lenBase (symF lenBase 28 (dfind s x.1 x.2.2).1)).1) (symF distBase 29 (dfind s x.1 x.2.2).2.1) ((dfind s x.1 x.2.2).2.1 - (distBase (symF distBase 29 (dfind s x.1 x.2.2).2.1)).1), (dfind s x.1 x.2.2).2.2)
noncomputable def diter (s : ByteArray) : Nat → Nat × List Bool × List (ByteArray × Value)
  | 0 => (0, [], [])
  | n + 1 => dstep s (diter s n)
theorem diter_lt (s : ByteArray) : ∀ n d, (diter s n).1 + d + 1 ≤ (diter s (n + d + 1)).1 := fun n d => by
  have step : ∀ m, (diter s m).1 + 1 ≤ (diter s (m + 1)).1 := fun m => by
    rw [diter, dstep]
    split <;> dsimp only <;> omega
  induction d with
  | zero => exact step n
  | succ d ih => have := step (n + d + 1); rw [show n + (d + 1) + 1 = n + d + 1 + 1 by omega]; omega
theorem diter_one {s : ByteArray} {n m : Nat} (h : (diter s n).1 = (diter s m).1) : n = m := by
  rcases Nat.lt_trichotomy n m with hlt | rfl | hlt
  · have := diter_lt s n (m - n - 1); rw [show n + (m - n - 1) + 1 = m by omega] at this; omega
  · rfl
  · have := diter_lt s m (n - m - 1); rw [show m + (n - m - 1) + 1 = n by omega] at this; omega
open Classical in
/-- The stream that is written. -/
noncomputable def deflT (s : ByteArray) : List UInt8 :=
  if h : ∃ n, (diter s n).1 = s.size then
    (if (textOf (lowB 3 3 ++ (diter s h.choose).2.1 ++ cbits fixedLit 256)).length < (storedS s.data.toList).length then textOf (lowB 3 3 ++ (diter s h.choose).2.1 ++ cbits fixedLit 256) else storedS s.data.toList)
  else []
theorem deflT_eq {s : ByteArray} {n : Nat} {L : List Bool} {ents : List (ByteArray × Value)} (h : diter s n = (s.size, L, ents)) :
    deflT s = if (textOf (lowB 3 3 ++ L ++ cbits fixedLit 256)).length < (storedS s.data.toList).length then textOf (lowB 3 3 ++ L ++ cbits fixedLit 256) else storedS s.data.toList := by
  have hx : ∃ n, (diter s n).1 = s.size := ⟨n, by rw [h]⟩
  unfold deflT
  rw [dif_pos hx]
  have : hx.choose = n := diter_one (hx.choose_spec.trans (by rw [h]))
  rw [this, h]
theorem len_next : ∀ k, k < 28 → (lenBase (k + 1)).1 ≤ (lenBase k).1 + 2 ^ (lenBase k).2 := by decide +kernel
theorem dist_next : ∀ k, k < 29 → (distBase (k + 1)).1 ≤ (distBase k).1 + 2 ^ (distBase k).2 := by decide +kernel
/-- The symbol of a length. -/
theorem symlen_spec {n : Nat} (h3 : 3 ≤ n) (hn : n ≤ 258) (w : World) :
    Calls Tryz.prog F_inflate_symbolOf #[.int .i64 (n : Int), .int .i64 28, .func (.func F_inflate_lengthBase) #[] #[]] w fun e w' => ∃ a more : Nat, e = .returned (.tuple #[.int .i64 (a : Int), .int .u32 (more : Int), .int .i64 (((lenBase a).2 : Nat) : Int)]) ∧
      a ≤ 28 ∧ (lenBase a).1 + more = n ∧ more < 2 ^ (lenBase a).2 ∧ SymOf lenBase 28 n a ∧ w' = w := by
  refine vc_inflate_symbolOf_len_ok (R := fun v w' => ∃ a more : Nat, v = .tuple #[.int .i64 (a : Int), .int .u32 (more : Int), .int .i64 (((lenBase a).2 : Nat) : Int)] ∧ a ≤ 28 ∧ (lenBase a).1 + more = n ∧ more < 2 ^ (lenBase a).2 ∧ SymOf lenBase 28 n a ∧ w' = w) ?_ (fun v w' ⟨a, more, h⟩ => ⟨a, more, by rw [h.1], h.2⟩)
  refine ⟨fun i w' => ∃ k : Nat, i = (k : Int) ∧ k ≤ 28 ∧ (k = 28 ∨ n < (lenBase (k + 1)).1) ∧ w' = w, fun i _ => i.toNat, ⟨28, rfl, by omega, .inl rfl, rfl⟩, ?_⟩
  rintro i w4 ⟨k, rfl, hk, hnext, hw⟩
  replace hw := hw.symm
  subst hw
  refine (lbase_spec k hk w).mono ?_
  rintro e w6 ⟨rfl, hw⟩
  replace hw := hw.symm
  subst hw
  have hb := lenBase_le k hk
  refine ⟨_, _, rfl, fun hle => ?_, fun hgt => ?_⟩
  · have hle := of_decide_eq_true hle
    refine ⟨k, n - (lenBase k).1, ?_, hk, by omega, ?_, ⟨hk, by omega, hnext⟩, rfl⟩
    · rw [wrap_i64 (by omega) (by omega), wrap_u32 (by omega) (by omega), show ((n : Int) - ((lenBase k).1 : Int)) = ((n - (lenBase k).1 : Nat) : Int) by omega]
    · have hp := Nat.two_pow_pos (lenBase k).2
      rcases hnext with rfl | hlt
      · have : (lenBase 28).1 = 258 := rfl
        omega
      · by_cases h28 : k = 28
        · subst h28
          have : (lenBase 28).1 = 258 := rfl
          omega
        · have := len_next k (by omega)
          omega
  · have hgt := of_decide_eq_false hgt
    have h0 : k ≠ 0 := fun hh => by subst hh; have : (lenBase 0).1 = 3 := rfl; omega
    obtain ⟨j, rfl⟩ : ∃ j, k = j + 1 := ⟨k - 1, by omega⟩
    have e1 : IntKind.i64.wrap (((j + 1 : Nat) : Int) - 1) = (j : Int) := by rw [wrap_i64 (by omega) (by omega)]; omega
    rw [e1]
    exact ⟨⟨j, rfl, by omega, .inr (by omega), rfl⟩, by dsimp only; omega⟩
/-- The symbol of a distance. -/
theorem symdist_spec {n : Nat} (h1 : 1 ≤ n) (hn : n ≤ 32768) (w : World) :
    Calls Tryz.prog F_inflate_symbolOf #[.int .i64 (n : Int), .int .i64 29, .func (.func F_inflate_distBase) #[] #[]] w fun e w' => ∃ a more : Nat, e = .returned (.tuple #[.int .i64 (a : Int), .int .u32 (more : Int), .int .i64 (((distBase a).2 : Nat) : Int)]) ∧
      a ≤ 29 ∧ (distBase a).1 + more = n ∧ more < 2 ^ (distBase a).2 ∧ SymOf distBase 29 n a ∧ w' = w := by
  refine vc_inflate_symbolOf_dist_ok (R := fun v w' => ∃ a more : Nat, v = .tuple #[.int .i64 (a : Int), .int .u32 (more : Int), .int .i64 (((distBase a).2 : Nat) : Int)] ∧ a ≤ 29 ∧ (distBase a).1 + more = n ∧ more < 2 ^ (distBase a).2 ∧ SymOf distBase 29 n a ∧ w' = w) ?_ (fun v w' ⟨a, more, h⟩ => ⟨a, more, by rw [h.1], h.2⟩)
  refine ⟨fun i w' => ∃ k : Nat, i = (k : Int) ∧ k ≤ 29 ∧ (k = 29 ∨ n < (distBase (k + 1)).1) ∧ w' = w, fun i _ => i.toNat, ⟨29, rfl, by omega, .inl rfl, rfl⟩, ?_⟩
  rintro i w4 ⟨k, rfl, hk, hnext, hw⟩
  replace hw := hw.symm
  subst hw
  refine (dbase_spec k hk w).mono ?_
  rintro e w6 ⟨rfl, hw⟩
  replace hw := hw.symm
  subst hw
  have hb := distBase_le k hk
  refine ⟨_, _, rfl, fun hle => ?_, fun hgt => ?_⟩
  · have hle := of_decide_eq_true hle
    refine ⟨k, n - (distBase k).1, ?_, hk, by omega, ?_, ⟨hk, by omega, hnext⟩, rfl⟩
    · rw [wrap_i64 (by omega) (by omega), wrap_u32 (by omega) (by omega), show ((n : Int) - ((distBase k).1 : Int)) = ((n - (distBase k).1 : Nat) : Int) by omega]
    · have hp := Nat.two_pow_pos (distBase k).2
      rcases hnext with rfl | hlt
      · have : (distBase 29).1 = 24577 := rfl
        have : 2 ^ (distBase 29).2 = 8192 := rfl
        omega
      · by_cases h28 : k = 29
        · subst h28
          have : (distBase 29).1 = 24577 := rfl
          have : 2 ^ (distBase 29).2 = 8192 := rfl
          omega
        · have := dist_next k (by omega)
          omega
  · have hgt := of_decide_eq_false hgt
    have h0 : k ≠ 0 := fun hh => by subst hh; have : (distBase 0).1 = 1 := rfl; omega
    obtain ⟨j, rfl⟩ : ∃ j, k = j + 1 := ⟨k - 1, by omega⟩
    have e1 : IntKind.i64.wrap (((j + 1 : Nat) : Int) - 1) = (j : Int) := by rw [wrap_i64 (by omega) (by omega)]; omega
    rw [e1]
    exact ⟨⟨j, rfl, by omega, .inr (by omega), rfl⟩, by dsimp only; omega⟩
/-- Deflating, in order. -/
structure DSt (w0 w : World) (b lo hi lb db r : Nat) (sl : Sl) (M : List Bool) (ents : List (ByteArray × Value)) : Prop where
  wr : Wrt w b sl M
  mp : MapOf w r ents
  lit : Tab w lo hi lb fixedLit
  dist : Tab w lo hi db fixedDist
  fr : Fr (fun _ => False) w0 w
  sls : ∀ y, sl.a = some y → hi ≤ y.block ∧ y.block ≠ r
  hb : w0.heap.size ≤ b
  hlo : b < lo
  hhi : hi ≤ r
  hbr : b < r
theorem DSt.wx {w0 w : World} {b lo hi lb db r : Nat} {sl : Sl} {M : List Bool} {ents : List (ByteArray × Value)} (h : DSt w0 w b lo hi lb db r sl M ents) {k : Nat} (hk : WX b sl k) : k = b ∨ (hi ≤ k ∧ k ≠ r) := by
  rcases hk with hk | ⟨y, hy, e⟩
  · exact .inl hk
  · have := h.sls y hy; exact .inr (by omega)
theorem DSt.put {w0 w w2 : World} {b lo hi lb db r : Nat} {sl sl' : Sl} {M M' : List Bool} {ents : List (ByteArray × Value)} (h : DSt w0 w b lo hi lb db r sl M ents) (hw : Wrt w2 b sl' M') (hf : Fr (WX b sl) w w2) (hs : Since w sl sl') : DSt w0 w2 b lo hi lb db r sl' M' ents := by
  have hlo := h.hlo
  have hhi := h.hhi
  have hbr := h.hbr
  refine ⟨hw, h.mp.keep hf fun hx => ?_, h.lit.keep hf fun k h1 h2 hx => ?_, h.dist.keep hf fun k h1 h2 hx => ?_, h.fr.trans hf fun k hk hx => ?_, fun y hy => ?_, h.hb, h.hlo, h.hhi, h.hbr⟩
  · have := h.wx hx; omega
  · have := h.wx hx; omega
  · have := h.wx hx; omega
  · rcases hx with hx | ⟨y, hy, e⟩
    · have := h.hb; omega
    · have := (h.wr.1.own.blk hy).1; have := h.hb; omega
  · rcases hs y hy with ⟨x, hx, he⟩ | hn
    · have := h.sls x hx; omega
    · have := h.mp.lt; omega
theorem DSt.keep {w0 w w2 : World} {b lo hi lb db r : Nat} {sl : Sl} {M : List Bool} {ents : List (ByteArray × Value)} (h : DSt w0 w b lo hi lb db r sl M ents) (hf : Fr (fun _ => False) w w2) : DSt w0 w2 b lo hi lb db r sl M ents :=
  ⟨h.wr.keep hf (by simp) (by simp), h.mp.keep hf (by simp), h.lit.keep hf (by simp), h.dist.keep hf (by simp), h.fr.trans' hf, h.sls, h.hb, h.hlo, h.hhi, h.hbr⟩
theorem DSt.drew {w0 w w2 : World} {b lo hi lb db r : Nat} {sl : Sl} {M : List Bool} {ents : List (ByteArray × Value)} (h : DSt w0 w b lo hi lb db r sl M ents) (d : Drew w w2) : DSt w0 w2 b lo hi lb db r sl M ents := h.keep (.drew _ d)
theorem DSt.map {w0 w w2 : World} {b lo hi lb db r : Nat} {sl : Sl} {M : List Bool} {ents ents' : List (ByteArray × Value)} (h : DSt w0 w b lo hi lb db r sl M ents) (hm : MapOf w2 r ents') (hf : Fr (· = r) w w2) : DSt w0 w2 b lo hi lb db r sl M ents' := by
  have hhi := h.hhi
  have hbr := h.hbr
  have hb := h.hb
  refine ⟨h.wr.keep hf (by omega) (fun y hy => (h.sls y hy).2), hm, h.lit.keep hf (fun k h1 h2 => by omega), h.dist.keep hf (fun k h1 h2 => by omega), h.fr.trans hf fun k hk hx => by omega, h.sls, hb, h.hlo, hhi, hbr⟩
/-- A code put. -/
theorem code_put {w : World} {b : Nat} {sl : Sl} {M : List Bool} (h : Wrt w b sl M) {lo hi tb : Nat} {ls : List Nat} (ht : Tab w lo hi tb ls) {s n : Nat} (hs : ls[s]? = some n) (h1 : 1 ≤ n) (hl : M.length + 32 ≤ 1099511627776) {Q : World → Prop}
    (hQ : ∀ w2 sl', Wrt w2 b sl' (M ++ cbits ls s) → Fr (WX b sl) w w2 → Since w sl sl' → Q w2) :
    Calls Tryz.prog F_huff_Table_Code #[.pointer (some ⟨tb, 0, none⟩), .int .i64 (s : Int)] w fun e w' => ∃ x k : Int, e = .returned (.tuple #[.int .u32 x, .int .i64 k]) ∧
      Calls Tryz.prog F_bitin_Writer_Code #[.pointer (some ⟨b, 0, none⟩), .int .u32 x, .int .i64 k] w' fun e w2 => e = .returned (.tuple #[]) ∧ Q w2 := by
  refine (hcode_spec ht (s : Int)).mono ?_
  rintro e w' ⟨rfl, hw⟩
  replace hw := hw.symm
  subst hw
  have hg : ls.getD s 0 = n := getD_of hs
  have hn15 := ht.fits.mem hs
  have hcd : cd ls (s : Int) = (code ls s, n) := by
    unfold cd
    rw [Int.toNat_natCast, hg, if_pos ⟨by omega, by omega⟩]
  rw [hcd]
  have hc1 := code_lt hs h1
  have hc2 := ht.fits.le hn15
  have hp : 2 ^ n ≤ 2 ^ 15 := Nat.pow_le_pow_right (by decide) hn15
  refine ⟨_, _, rfl, (wcode_spec h (x := code ls s) (n := n) (by omega) h1 (by omega) (by omega)).mono ?_⟩
  rintro e w2 ⟨rfl, sl', hw', hf, hsn⟩
  refine ⟨rfl, hQ w2 sl' ?_ hf hsn⟩
  unfold cbits
  rw [hg]
  exact hw'
theorem get_byt {s : ByteArray} {i : Nat} (h : i < s.size) : s.data.toList[i]? = some (UInt8.ofNat (byt s i)) := by
  have hlt : i < s.data.toList.length := by simp only [Array.length_toList]; exact h
  rw [List.getElem?_eq_getElem hlt]
  unfold byt
  rw [List.getElem?_eq_getElem hlt]
  simp
/-- What stands under every key is a place before this one. -/
def Before (ents : List (ByteArray × Value)) (i : Nat) : Prop := ∀ x ∈ ents, ∃ v : Nat, x.2 = .int .i64 (v : Int) ∧ v < i
theorem Before.upd {ents : List (ByteArray × Value)} {i : Nat} (h : Before ents i) (k : ByteArray) : Before (mupd ents k (.int .i64 (i : Int))) (i + 1) :=
  mupd_all ⟨i, rfl, by omega⟩ ents fun x hx => by obtain ⟨v, h1, h2⟩ := h x hx; exact ⟨v, h1, by omega⟩
theorem Before.more {ents : List (ByteArray × Value)} {i j : Nat} (h : Before ents i) (hj : i ≤ j) : Before ents j := fun x hx => by
  obtain ⟨v, h1, h2⟩ := h x hx; exact ⟨v, h1, by omega⟩
/-- 'Deflate'. -/
theorem deflate_spec (s : ByteArray) (hs : s.size ≤ 100000000) (w : World) :
    Calls Tryz.prog F_inflate_Deflate #[.string s] w fun e w' => e = .returned (.string ⟨(deflT s).toArray⟩) ∧ DefM.Stream (deflT s) s.data.toList ∧ (deflT s).length ≤ (storedS s.data.toList).length ∧ Fr (fun _ => False) w w' := by
  refine vc_inflate_Deflate_ok (R := fun v w' => v = .string ⟨(deflT s).toArray⟩ ∧ DefM.Stream (deflT s) s.data.toList ∧ (deflT s).length ≤ (storedS s.data.toList).length ∧ Fr (fun _ => False) w w') ?_ (fun v w' h => ⟨by rw [h.1], h.2⟩)
  have hsl : s.data.toList.length = s.size := by simp
  intro w1 h1
  have hf1 : Fr (fun _ => False) w w1 := h1 ▸ Fr.alloc _ _ _
  have hw1 : Wrt w1 w.heap.size ⟨none, 0, 0⟩ [] := Wrt.zero (by rw [h1]; exact alloc_new _ _)
  have hs1 : w1.heap.size = w.heap.size + 1 := by rw [h1]; exact Array.size_push ..
  refine (fixed_spec w1).mono ?_
  rintro e w3 ⟨lb, db, rfl, hlit, hdist, hf3⟩
  have hs3 := hf3.size
  refine ⟨_, _, rfl, ?_⟩
  refine (wbits_spec (hw1.keep hf3 (by simp) (by simp)) (x := 3) (n := 3) (by decide) (by decide) (by simp)).mono ?_
  rintro e w7 ⟨rfl, sl7, hw7, hf7, hs7⟩
  refine ⟨rfl, fun w8 h8 => ?_⟩
  have hs7s := hf7.size
  have hf8 : Fr (fun _ => False) w7 w8 := h8 ▸ Fr.alloc _ _ _
  have hsl7 : ∀ y, sl7.a = some y → w3.heap.size ≤ y.block := fun y hy => by
    rcases hs7 y hy with ⟨x, hx, _⟩ | hn
    · cases hx
    · exact hn
  have hwx : ∀ k, WX w.heap.size ⟨none, 0, 0⟩ k → k = w.heap.size := fun k hk => by
    rcases hk with hk | ⟨y, hy, _⟩
    · exact hk
    · cases hy
  have hD0 : DSt w w8 w.heap.size w1.heap.size w3.heap.size lb db w7.heap.size sl7 (lowB 3 3) [] := by
    refine ⟨hw7.keep hf8 (by simp) (by simp), h8 ▸ MapOf.new, ?_, ?_, ?_, fun y hy => ⟨hsl7 y hy, ?_⟩, Nat.le_refl _, by omega, hs7s, by omega⟩
    · exact (hlit.keep hf7 fun k h1 h2 hx => by have := hwx k hx; omega).keep hf8 (by simp)
    · exact (hdist.keep hf7 fun k h1 h2 hx => by have := hwx k hx; omega).keep hf8 (by simp)
    · exact ((hf1.trans' hf3).trans hf7 fun k hk hx => by have := hwx k hx; omega).trans' hf8
    · have := (hw7.1.own.blk hy).2; omega
  generalize w7.heap.size = r at *
  generalize w.heap.size = b at *
  generalize w1.heap.size = lo at *
  generalize w3.heap.size = hi at *
  refine ⟨fun i w' => ∃ (k : Nat) (sl : Sl) (L : List Bool) (ents : List (ByteArray × Value)), i = (k : Int) ∧ k ≤ s.size ∧ DSt w w' b lo hi lb db r sl (lowB 3 3 ++ L) ents ∧ DefM.Enc s.data.toList k L ∧ L.length ≤ 32 * k ∧ Before ents k ∧ ∃ it, diter s it = (k, L, ents),
    fun i _ => s.size - i.toNat, ⟨0, sl7, [], [], rfl, Nat.zero_le _, hD0, DefM.enc_zero _, Nat.le_refl _, (by intro x hx; cases hx), 0, rfl⟩, ?_⟩
  rintro i w12 ⟨k, sl, L, ents, rfl, hk, hD, hE, hL, hB, it, hit⟩
  have hLl : (lowB 3 3 ++ L).length = 3 + L.length := by rw [List.length_append, lowB_length]
  refine ⟨fun hlt => ?_, fun hge => ?_⟩
  rotate_left 1
  · have hge := of_decide_eq_false hge
    have hkk : k = s.size := by omega
    subst hkk
    refine code_put hD.wr hD.lit (s := 256) (DefM.lit_get (by omega)) (by decide) (by omega) fun w69 sl69 hw69 hf69 hs69 => ?_
    have hD69 := hD.put hw69 hf69 hs69
    refine (wtext_spec hw69).mono ?_
    rintro e w71 ⟨rfl, hf71⟩
    refine ⟨_, rfl, ?_⟩
    have hst := DefM.stream_packed (L := L) (s := s.data.toList) (by rw [hsl]; exact hE)
    rw [← List.append_assoc] at hst
    have hdt := deflT_eq hit
    generalize textOf (lowB 3 3 ++ L ++ cbits fixedLit 256) = t at hst hdt
    have hfin := hD69.fr.trans' hf71
    have hsz : ∀ l : List UInt8, ByteArray.size ⟨l.toArray⟩ = l.length := fun l => by simp [ByteArray.size]
    refine (stored5_spec s hs w71).mono ?_
    rintro e w74 ⟨rfl, hf74⟩
    refine ⟨_, rfl, fun hlt => ?_, fun hge => ?_⟩
    · have hlt := of_decide_eq_true hlt
      rw [hsz, hsz] at hlt
      rw [if_pos (by omega)] at hdt
      rw [hdt]
      exact ⟨rfl, hst, by omega, hfin.trans' hf74⟩
    · have hge := of_decide_eq_false hge
      rw [hsz, hsz] at hge
      rw [if_neg (by omega)] at hdt
      rw [hdt]
      refine (stored5_spec s hs w74).mono ?_
      rintro e w77 ⟨rfl, hf77⟩
      exact ⟨_, rfl, rfl, ⟨8 * (storedS s.data.toList).length, by omega, DefM.stream_stored _ _ rfl⟩, Nat.le_refl _, (hfin.trans' hf74).trans' hf77⟩
  have hlt := of_decide_eq_true hlt
  have hks : k < s.size := by omega
  have e3 : IntKind.i64.wrap ((k : Int) + 3) = ((k + 3 : Nat) : Int) := by rw [wrap_i64 (by omega) (by omega)]; omega
  -- what is found
  refine ⟨fun n back w' => ∃ (m q : Nat) (ents' : List (ByteArray × Value)), n = (m : Int) ∧ back = (q : Int) ∧ DSt w w' b lo hi lb db r sl (lowB 3 3 ++ L) ents' ∧ Before ents' (k + 1) ∧ dfind s k ents = (m, q, ents') ∧
      (m < 3 ∨ (m ≤ 258 ∧ 1 ≤ q ∧ q ≤ k ∧ q ≤ 32768 ∧ k + m ≤ s.size ∧ ∀ j, j < m → s.data.toList[k - q + j]? = s.data.toList[k + j]?)), ⟨fun hle => ?_, fun hgt => ?_⟩, ?_⟩
  · have hle := of_decide_eq_true hle
    rw [e3] at hle ⊢
    refine ⟨⟨by omega, by omega, by omega⟩, ?_⟩
    rw [Int.toNat_natCast, Int.toNat_natCast]
    have hdf : dfind s k ents = match mlook ents (s.extract k (k + 3)) with
      | some (.int _ v) => if k - v.toNat ≤ 32768 then (alike s.data.toList v.toNat k 258 0, k - v.toNat, mupd ents (s.extract k (k + 3)) (.int .i64 (k : Int))) else (0, 0, mupd ents (s.extract k (k + 3)) (.int .i64 (k : Int)))
      | _ => (0, 0, mupd ents (s.extract k (k + 3)) (.int .i64 (k : Int))) := by unfold dfind; rw [if_pos (by omega)]
    generalize s.extract k (k + 3) = key at hdf ⊢
    have hlk := map_lookup (P := Tryz.prog) (mt := T_map_string_int) (kt := T_string) (et := T_int) (by kernel_rfl) (by kernel_rfl) (z := .int .i64 0) (w := w12) (by kernel_rfl) hD.mp key true
    have upd : ∀ {wx : World}, DSt w wx b lo hi lb db r sl (lowB 3 3 ++ L) ents → ∃ w', (Instr.mapUpdate T_map_string_int (.map (some r)) (.string key) (.int .i64 (k : Int))).run Tryz.prog wx = .ok () w' ∧ DSt w w' b lo hi lb db r sl (lowB 3 3 ++ L) (mupd ents key (.int .i64 (k : Int))) := fun hx => by
      obtain ⟨w', hr, hm, hf⟩ := map_update (P := Tryz.prog) (mt := T_map_string_int) (kt := T_string) (et := T_int) (by kernel_rfl) (by kernel_rfl) hx.mp key (.int .i64 (k : Int))
      exact ⟨w', hr, hx.map hm hf⟩
    have hlast : ∀ (n back : Int) (wx : World), DSt w wx b lo hi lb db r sl (lowB 3 3 ++ L) ents → (∃ m q : Nat, n = (m : Int) ∧ back = (q : Int) ∧ dfind s k ents = (m, q, mupd ents key (.int .i64 (k : Int))) ∧ (m < 3 ∨ (m ≤ 258 ∧ 1 ≤ q ∧ q ≤ k ∧ q ≤ 32768 ∧ k + m ≤ s.size ∧ ∀ j, j < m → s.data.toList[k - q + j]? = s.data.toList[k + j]?))) →
        ∃ w', (Instr.mapUpdate T_map_string_int (.map (some r)) (.string key) (.int .i64 (k : Int))).run Tryz.prog wx = .ok () w' ∧ ∃ (m q : Nat) (ents' : List (ByteArray × Value)), n = (m : Int) ∧ back = (q : Int) ∧ DSt w w' b lo hi lb db r sl (lowB 3 3 ++ L) ents' ∧ Before ents' (k + 1) ∧ dfind s k ents = (m, q, ents') ∧
          (m < 3 ∨ (m ≤ 258 ∧ 1 ≤ q ∧ q ≤ k ∧ q ≤ 32768 ∧ k + m ≤ s.size ∧ ∀ j, j < m → s.data.toList[k - q + j]? = s.data.toList[k + j]?)) := fun n back wx hx hmq => by
      obtain ⟨w', hr, hx'⟩ := upd hx
      obtain ⟨m, q, h1, h2, h4, h3⟩ := hmq
      exact ⟨w', hr, m, q, _, h1, h2, hx', hB.upd key, h4, h3⟩
    have hbnd : (0 ≤ (k : Int) ∧ (k : Int) ≤ ((k + 3 : Nat) : Int) ∧ ((k + 3 : Nat) : Int) ≤ (s.size : Int)) := ⟨by omega, by omega, by omega⟩
    cases hml : mlook ents key with
    | none =>
      rw [hml] at hlk hdf
      exact ⟨w12, 0, false, hlk, fun hh => (by cases hh), fun _ => ⟨hbnd, hlast 0 0 w12 hD ⟨0, 0, rfl, rfl, hdf, .inl (by decide)⟩⟩⟩
    | some v =>
      rw [hml] at hlk hdf
      obtain ⟨at_, hv, hat⟩ := hB _ (mlook_mem hml)
      simp only at hv
      subst hv
      dsimp only at hdf
      rw [Int.toNat_natCast] at hdf
      refine ⟨w12, at_, true, hlk, fun _ => ?_, fun hh => (by cases hh)⟩
      have e4 : IntKind.i64.wrap ((k : Int) - (at_ : Int)) = ((k - at_ : Nat) : Int) := by rw [wrap_i64 (by omega) (by omega)]; omega
      rw [e4]
      refine ⟨fun h32 => ?_, fun h32 => ⟨hbnd, hlast 0 0 w12 hD ⟨0, 0, rfl, rfl, by rw [hdf, if_neg (by have := of_decide_eq_false h32; omega)], .inl (by decide)⟩⟩⟩
      have h32 := of_decide_eq_true h32
      rw [if_pos (by omega)] at hdf
      refine ⟨fun n w' => ∃ m : Nat, n = (m : Int) ∧ m ≤ 258 ∧ k + m ≤ s.size ∧ (∀ j, j < m → s.data.toList[at_ + j]? = s.data.toList[k + j]?) ∧ alike s.data.toList at_ k 258 0 = alike s.data.toList at_ k (258 - m) m ∧ DSt w w' b lo hi lb db r sl (lowB 3 3 ++ L) ents, fun n _ => 258 - n.toNat, ⟨0, rfl, by omega, by omega, fun j hj => by omega, rfl, hD⟩, ?_⟩
      rintro n w20 ⟨m, rfl, hm, hkm, hj, hal, hD20⟩
      have e5 : IntKind.i64.wrap ((k : Int) + (m : Int)) = ((k + m : Nat) : Int) := by rw [wrap_i64 (by omega) (by omega)]; omega
      have e6 : IntKind.i64.wrap ((at_ : Int) + (m : Int)) = ((at_ + m : Nat) : Int) := by rw [wrap_i64 (by omega) (by omega)]; omega
      have e7 : IntKind.i64.wrap ((m : Int) + 1) = ((m + 1 : Nat) : Int) := by rw [wrap_i64 (by omega) (by omega)]; omega
      rw [e5, e6, e7]
      have found : alike s.data.toList at_ k 258 0 = m → ∃ m' q : Nat, (m : Int) = (m' : Int) ∧ ((k - at_ : Nat) : Int) = (q : Int) ∧ dfind s k ents = (m', q, mupd ents key (.int .i64 (k : Int))) ∧ (m' < 3 ∨ (m' ≤ 258 ∧ 1 ≤ q ∧ q ≤ k ∧ q ≤ 32768 ∧ k + m' ≤ s.size ∧ ∀ j, j < m' → s.data.toList[k - q + j]? = s.data.toList[k + j]?)) := fun hm0 =>
        ⟨m, k - at_, rfl, rfl, by rw [hdf, hm0], .inr ⟨hm, by omega, by omega, by omega, hkm, fun j h => by rw [show k - (k - at_) = at_ by omega]; exact hj j h⟩⟩
      refine ⟨fun hlt => ?_, fun hge w25 d25 => ⟨hbnd, hlast _ _ w25 (hD20.drew d25) (found ?_)⟩⟩
      rotate_left 1
      · have hge := of_decide_eq_false hge
        rw [hal, show 258 - m = 0 by omega]; rfl
      have hlt := of_decide_eq_true hlt
      obtain ⟨f, hf⟩ : ∃ f, 258 - m = f + 1 := ⟨258 - m - 1, by omega⟩
      rw [hf] at hal
      have hsa : alike s.data.toList at_ k (f + 1) m = if k + m < s.data.toList.length ∧ s.data.toList[at_ + m]? = s.data.toList[k + m]? then alike s.data.toList at_ k f (m + 1) else m := rfl
      rw [hsa] at hal
      refine ⟨fun hin => ?_, fun hout w23 d23 => ⟨hbnd, hlast _ _ w23 (hD20.drew d23) (found ?_)⟩⟩
      rotate_left 1
      · have hout := of_decide_eq_false hout
        rw [hal, if_neg (fun hh => by omega)]
      have hin := of_decide_eq_true hin
      refine ⟨⟨by omega, by omega⟩, ⟨by omega, by omega⟩, fun w21 d21 => ?_⟩
      rw [byteAt_nat, byteAt_nat]
      have g1 := get_byt (s := s) (i := at_ + m) (by omega)
      have g2 := get_byt (s := s) (i := k + m) (by omega)
      refine ⟨fun heq => ?_, fun hne => ⟨hbnd, hlast _ _ w21 (hD20.drew d21) (found ?_)⟩⟩
      · have heq : byt s (at_ + m) = byt s (k + m) := by have := eq_of_beq heq; omega
        have hsame : s.data.toList[at_ + m]? = s.data.toList[k + m]? := by rw [g1, g2, heq]
        rw [if_pos ⟨by omega, hsame⟩] at hal
        refine ⟨⟨m + 1, rfl, by omega, by omega, fun j h => ?_, by rw [hal, show 258 - (m + 1) = f by omega], hD20.drew d21⟩, by dsimp only; omega⟩
        by_cases hjm : j = m
        · subst hjm; exact hsame
        · exact hj j (by omega)
      · rw [hal, if_neg]
        rintro ⟨_, hh⟩
        rw [g1, g2, Option.some.injEq, ← UInt8.toNat_inj, toNat_byt, toNat_byt] at hh
        rw [hh] at hne
        simp at hne
  · have hgt := of_decide_eq_false hgt
    rw [e3] at hgt
    exact ⟨0, 0, ents, rfl, rfl, hD, hB.more (by omega), by unfold dfind; rw [if_neg (by omega)], .inl (by decide)⟩
  -- what is written
  rintro n back w31 ⟨m, q, ents', rfl, rfl, hD31, hB31, hdf, hmq⟩
  have hstep : diter s (it + 1) = dstep s (k, L, ents) := by rw [diter, hit]
  unfold dstep at hstep
  dsimp only at hstep
  rw [hdf] at hstep
  dsimp only at hstep
  refine ⟨fun hlt3 => ?_, fun hge3 => ?_⟩
  · have hlt3 := of_decide_eq_true hlt3
    have hb := byt_lt s k
    rw [byteAt_nat, wrap_i64 (by omega) (by omega)]
    have e1 : IntKind.i64.wrap ((k : Int) + 1) = ((k + 1 : Nat) : Int) := by rw [wrap_i64 (by omega) (by omega)]; omega
    rw [e1]
    refine ⟨⟨by omega, by omega⟩, ?_⟩
    have hfx := DefM.fixN_le (byt s k)
    refine code_put hD31.wr hD31.lit (s := byt s k) (DefM.lit_get (by omega)) (by omega) (by omega) fun w37 sl37 hw37 hf37 hs37 => ?_
    have hD37 := hD31.put hw37 hf37 hs37
    have hE37 := DefM.enc_lit hE (get_byt hks)
    rw [toNat_byt] at hE37
    rw [List.append_assoc] at hD37
    exact ⟨⟨k + 1, sl37, _, ents', rfl, by omega, hD37, hE37, by rw [List.length_append, DefM.lit_len (by omega)]; omega, hB31, it + 1, by rw [hstep, if_pos (by omega)]⟩, by dsimp only; omega⟩
  · have hge3 := of_decide_eq_false hge3
    obtain ⟨hm258, hq1, hqk, hq32, hkm, hj⟩ := hmq.resolve_left (by omega)
    refine (symlen_spec (n := m) (by omega) hm258 w31).mono ?_
    rintro e w39 ⟨a, more, rfl, ha, ham, hmore, hsa, hw⟩
    replace hw := hw.symm
    subst hw
    have e1 : IntKind.i64.wrap (257 + (a : Int)) = ((257 + a : Nat) : Int) := by rw [wrap_i64 (by omega) (by omega)]; omega
    have e2 : IntKind.i64.wrap ((k : Int) + (m : Int)) = ((k + m : Nat) : Int) := by rw [wrap_i64 (by omega) (by omega)]; omega
    obtain ⟨hl1, hl2⟩ := lenBase_le a ha
    have hp5 : 2 ^ (lenBase a).2 ≤ 2 ^ 5 := Nat.pow_le_pow_right (by decide) hl2
    refine ⟨_, _, _, rfl, ?_⟩
    rw [e1, e2]
    have hfx := DefM.fixN_le (257 + a)
    refine code_put hD31.wr hD31.lit (s := 257 + a) (DefM.lit_get (by omega)) (by omega) (by omega) fun w48 sl48 hw48 hf48 hs48 => ?_
    have hD48 := hD31.put hw48 hf48 hs48
    have hl48 : (lowB 3 3 ++ L ++ cbits fixedLit (257 + a)).length = 3 + L.length + fixN (257 + a) := by rw [List.length_append, hLl, DefM.lit_len (by omega)]
    refine (wbits_spec hD48.wr (x := more) (n := (lenBase a).2) (by omega) (by omega) (by omega)).mono ?_
    rintro e w50 ⟨rfl, sl50, hw50, hf50, hs50⟩
    have hD50 := hD48.put hw50 hf50 hs50
    refine ⟨rfl, (symdist_spec (n := q) hq1 hq32 w50).mono ?_⟩
    rintro e w52 ⟨d, far', rfl, hd, hdd, hfar, hsd, hw⟩
    replace hw := hw.symm
    subst hw
    obtain ⟨hd1, hd2, hd3⟩ := distBase_le d hd
    have hp13 : 2 ^ (distBase d).2 ≤ 2 ^ 13 := Nat.pow_le_pow_right (by decide) hd3
    have hl50 : (lowB 3 3 ++ L ++ cbits fixedLit (257 + a) ++ lowB (lenBase a).2 more).length = 3 + L.length + fixN (257 + a) + (lenBase a).2 := by rw [List.length_append, hl48, lowB_length]
    refine ⟨_, _, _, rfl, ?_⟩
    refine code_put hD50.wr hD50.dist (s := d) (DefM.dist_get (by omega)) (by decide) (by omega) fun w61 sl61 hw61 hf61 hs61 => ?_
    have hD61 := hD50.put hw61 hf61 hs61
    have hl61 : (lowB 3 3 ++ L ++ cbits fixedLit (257 + a) ++ lowB (lenBase a).2 more ++ cbits fixedDist d).length = 3 + L.length + fixN (257 + a) + (lenBase a).2 + 5 := by rw [List.length_append, hl50, DefM.dist_len (by omega)]
    refine (wbits_spec hD61.wr (x := far') (n := (distBase d).2) (by omega) (by omega) (by omega)).mono ?_
    rintro e w63 ⟨rfl, sl63, hw63, hf63, hs63⟩
    have hD63 := hD61.put hw63 hf63 hs63
    have hE63 := DefM.enc_rep hE (a := a) (more := more) (d := d) (far := far') ha hd hmore hfar (by omega) (by rw [ham, hsl]; omega) (by rw [ham, hdd]; exact hj)
    rw [ham] at hE63
    rw [show lowB 3 3 ++ L ++ cbits fixedLit (257 + a) ++ lowB (lenBase a).2 more ++ cbits fixedDist d ++ lowB (distBase d).2 far' = lowB 3 3 ++ (L ++ DefM.repB a more d far') by unfold DefM.repB; simp only [List.append_assoc]] at hD63
    have hrl := DefM.repB_length (more := more) (far := far') ha hd
    exact ⟨rfl, ⟨k + m, sl63, _, ents', rfl, by omega, hD63, hE63, by rw [List.length_append, hrl]; omega, hB31.more (by omega), it + 1, by rw [hstep, if_neg (by omega), symF_eq len_mono hsa, symF_eq dist_mono hsd, show m - (lenBase a).1 = more by omega, show q - (distBase d).1 = far' by omega]⟩, by dsimp only; omega⟩
end Go.Proofs.YtaaimcbicpgjoaaGreatDoor

/- A stream is inflated wherever it stands. No condition. -/
set_option linter.unusedVariables false
namespace DefM
open BitsM HuffM InfM SumM Go.Proofs.YtaaimcbicpgjoaaGreatDoor
/-- A stream is inflated wherever it stands. -/
theorem stream_inflate {t s : List UInt8} (h : Stream t s) (front back : List UInt8) {most : Nat} (hm : most ≤ 65536) : InfM.inflate (front ++ (t ++ back)) (front.length : Int) (most : Int) = if s.length ≤ most then (s, t.length, 0) else ([], 0, 2) := by
  obtain ⟨p, hp, hst⟩ := h
  unfold InfM.inflate
  rw [if_neg (by rw [List.length_append]; omega), Int.toNat_natCast, Int.toNat_natCast, List.drop_left]
  unfold InfM.inf
  have := hst [] [] most back ((sbits (t ++ back)).length + 1) rfl (Nat.zero_le _) (by rw [sbits_length, List.length_append]; omega)
  simp only [List.nil_append, List.length_nil, Nat.zero_add] at this
  rw [this]
  by_cases hl : s.length ≤ most
  · rw [if_pos hl, if_pos hl]
    dsimp only
    rw [hp]
  · rw [if_neg hl, if_neg hl]
end DefM
namespace Go.Proofs.YtaaimcbicpgjoaaGreatDoor
theorem size_mk (l : List UInt8) : ByteArray.size ⟨l.toArray⟩ = l.length := by simp [ByteArray.size]
theorem data_mk (l : List UInt8) : (⟨l.toArray⟩ : ByteArray).data.toList = l := by simp
theorem bytes_ext {a b : ByteArray} (h : a.data.toList = b.data.toList) : a = b := ByteArray.ext (Array.ext' h)
theorem data_app (a b : ByteArray) : (a ++ b).data.toList = a.data.toList ++ b.data.toList := by simp
end Go.Proofs.YtaaimcbicpgjoaaGreatDoor

/- zlib's frames: written, and read back. Conditions: texts no longer than memory. -/
set_option linter.unusedVariables false
namespace Go.Proofs.YtaaimcbicpgjoaaGreatDoor
open Go Vc BitsM HuffM SumM Go.Proofs

/-- A frame round a stream. -/
def frameS (stream s : List UInt8) : List UInt8 := [120, 1] ++ stream ++ bigB 4 (adler s)
theorem zframe_spec (t s : ByteArray) (ht : t.size ≤ 1099511627776) (hs : s.size ≤ 1099511627776) (w : World) :
    Calls Tryz.prog F_zlib_frame #[.string t, .string s] w fun e w' => e = .returned (.string ⟨(frameS t.data.toList s.data.toList).toArray⟩) ∧ Fr (fun _ => False) w w' := by
  refine vc_zlib_frame_ok (R := fun v w' => v = .string ⟨(frameS t.data.toList s.data.toList).toArray⟩ ∧ Fr (fun _ => False) w w') ?_ (fun v w' h => ⟨by rw [h.1], h.2⟩)
  have hd : ByteArray.size ⟨#[120, 1]⟩ = 2 := rfl
  refine ⟨by rw [hd]; omega, (adler_spec s hs w).mono ?_⟩
  rintro e w2 ⟨rfl, hf2⟩
  have had := adler_lt s.data.toList
  refine ⟨_, rfl, ?_⟩
  rw [wrap_u64 (by omega) (by omega)]
  refine (big_spec (adler s.data.toList) 4 (by omega) (by decide) w2).mono ?_
  rintro e w5 ⟨rfl, hf5⟩
  have hb : ByteArray.size ⟨(bigB 4 (adler s.data.toList)).toArray⟩ = 4 := by simp [ByteArray.size, bigB_length]
  have hsa : (⟨#[120, 1]⟩ ++ t : ByteArray).size = 2 + t.size := by rw [ByteArray.size_append, hd]
  refine ⟨_, rfl, by rw [hsa, hb]; omega, ?_, hf2.trans' hf5⟩
  congr 1
theorem zwrite_spec (s : ByteArray) (hs : s.size ≤ 100000000) (w : World) :
    Calls Tryz.prog F_zlib_Write #[.string s] w fun e w' => e = .returned (.string ⟨(frameS (deflT s) s.data.toList).toArray⟩) ∧ DefM.Stream (deflT s) s.data.toList ∧ (deflT s).length ≤ 2 * s.size + 5 ∧ Fr (fun _ => False) w w' := by
  refine vc_zlib_Write_ok (R := fun v w' => v = .string ⟨(frameS (deflT s) s.data.toList).toArray⟩ ∧ DefM.Stream (deflT s) s.data.toList ∧ (deflT s).length ≤ 2 * s.size + 5 ∧ Fr (fun _ => False) w w') ?_ (fun v w' h => ⟨by rw [h.1], h.2⟩)
  refine (deflate_spec s hs w).mono ?_
  have hsl5 := storedS_len s.data.toList.length s.data.toList rfl
  rw [show s.data.toList.length = s.size by simp] at hsl5
  rintro e w2 ⟨rfl, hst, hlen, hf2⟩
  refine ⟨_, rfl, (zframe_spec ⟨(deflT s).toArray⟩ s (by rw [size_mk (deflT s)]; omega) (by omega) w2).mono ?_⟩
  rintro e w5 ⟨rfl, hf5⟩
  rw [data_mk]
  exact ⟨_, rfl, rfl, hst, by omega, hf2.trans' hf5⟩
/-- A frame is read wherever it stands; one whose sum is another is refused. -/
theorem zread_stream {t s front q back : List UInt8} (h : DefM.Stream t s) {most : Nat} (h1 : s.length ≤ most) (hm : most ≤ 65536) (hq : q.length = 4) :
    ZlM.read (front ++ ([120, 1] ++ t ++ q ++ back)) (front.length : Int) (most : Int) = if q = bigB 4 (adler s) then (s, t.length + 6, 0) else ([], 0, 5) := by
  have hl : (front ++ ([120, 1] ++ t ++ q ++ back)).length = front.length + (6 + t.length + back.length) := by
    simp only [List.length_append, hq, List.length_cons, List.length_nil]; omega
  have hi : InfM.inflate (front ++ ([120, 1] ++ t ++ q ++ back)) ((front.length : Int) + 2) (most : Int) = (s, t.length, 0) := by
    have := DefM.stream_inflate h (front ++ [120, 1]) (q ++ back) hm
    rw [if_pos h1, List.length_append, show (([120, 1] : List UInt8).length) = 2 from rfl] at this
    rw [show (front.length : Int) + 2 = ((front.length + 2 : Nat) : Int) by omega]
    rw [← this]
    simp only [List.append_assoc]
  have hg0 : (front ++ ([120, 1] ++ t ++ q ++ back)).getD front.length 0 = 120 := by
    rw [List.getD_eq_getElem?_getD, List.getElem?_append_right (Nat.le_refl _), Nat.sub_self]; rfl
  have hg1 : (front ++ ([120, 1] ++ t ++ q ++ back)).getD (front.length + 1) 0 = 1 := by
    rw [List.getD_eq_getElem?_getD, List.getElem?_append_right (by omega), Nat.add_sub_cancel_left]; rfl
  have hd : ((front ++ ([120, 1] ++ t ++ q ++ back)).drop (front.length + 2 + t.length)).take 4 = q := by
    rw [show front ++ ([120, 1] ++ t ++ q ++ back) = (front ++ [120, 1] ++ t) ++ (q ++ back) by simp only [List.append_assoc]]
    rw [show front.length + 2 + t.length = (front ++ [120, 1] ++ t).length by simp only [List.length_append, List.length_cons, List.length_nil], List.drop_left, List.take_left' hq]
  unfold ZlM.read
  rw [hi, hl, Int.toNat_natCast, hg0, hg1]
  dsimp only
  rw [hd, if_neg (by omega), if_neg (by omega), if_neg (by decide), if_neg (by omega), if_neg (by omega)]
  by_cases he : q = bigB 4 (adler s)
  · rw [if_neg (fun hh => hh he), if_pos he]
  · rw [if_pos he, if_neg he]
end Go.Proofs.YtaaimcbicpgjoaaGreatDoor

/- Numbers of 32 and 64 bits as bit vectors. No condition. -/
set_option linter.unusedVariables false
namespace Vc
open Go
section
theorem u_of (x : BitVec 32) : BitVec.ofInt 32 (x.toNat : Int) = x := by
  rw [BitVec.ofInt_natCast]; simp
theorem u_wrap (x : BitVec 32) : IntKind.u32.wrap (x.toNat : Int) = (x.toNat : Int) := by
  have := x.isLt
  exact wrap_u32 (by omega) (by omega)
theorem u_add (x y : BitVec 32) : IntKind.u32.wrap ((x.toNat : Int) + (y.toNat : Int)) = ((x + y).toNat : Int) := by
  rw [wrap_u32_mod, BitVec.toNat_add]; omega
theorem u_shl (x : BitVec 32) (k : Nat) (hk : k ≤ 32) : IntKind.u32.wrap ((x.toNat : Int) * 2 ^ (min k 32)) = ((x <<< k).toNat : Int) := by
  have hp : (2 : Int) ^ k = ((2 ^ k : Nat) : Int) := by push_cast; rfl
  rw [Nat.min_eq_left hk, wrap_u32_mod, BitVec.toNat_shiftLeft, Nat.shiftLeft_eq, hp, ← Int.natCast_mul]
  generalize x.toNat * 2 ^ k = z
  show (z : Int) % 4294967296 = ((z % 4294967296 : Nat) : Int)
  omega
theorem u_shr (x : BitVec 32) (k : Nat) (hk : k ≤ 32) : Int.fdiv (x.toNat : Int) (2 ^ (min k 32)) = ((x >>> k).toNat : Int) := by
  have hp : (2 : Int) ^ k = ((2 ^ k : Nat) : Int) := by push_cast; rfl
  rw [Nat.min_eq_left hk, hp, Int.fdiv_eq_ediv_of_nonneg _ (Int.natCast_nonneg _), ← Int.natCast_ediv, BitVec.toNat_ushiftRight, Nat.shiftRight_eq_div_pow]
end
end Vc

/- Formulas of 3 Go functions of this seat (written by a program of the author's, vcgen.py), and that each is enough for the call. No condition. -/
set_option linter.unusedVariables false
namespace Go.Proofs.YtaaimcbicpgjoaaGreatDoor
open Go Vc Go.Proofs
set_option maxRecDepth 100000
/-- (*sums.Crc).Write -/
def vc_sums_Crc_Write (x0 : Nat) (x1 : ByteArray) (w : World) (R : Value → World → Prop) : Prop :=
 ∃ n1 : Int, (World.cell? w (Addr.mk x0 0 none) = some (Value.int IntKind.u32 n1) ∧
 ∃ I2 : Int → Int → World → Prop, ∃ I3 : Int → Int → World → Nat, ((I2 (IntKind.wrap IntKind.u32 (↑(BitVec.toNat (BitVec.ofInt 32 (if IntKind.signed IntKind.u32 = true then -1 else Int.ofNat (2 ^ 32 - Nat.succ 0)) ^^^ BitVec.ofInt 32 n1)) : Int)) 0 w) ∧
 ∀ n4 : Int,
 ∀ n5 : Int,
 ∀ w6 : World,
 (I2 n4 n5 w6 →
 (((decide (n5 < (↑(ByteArray.size x1) : Int)) = true →
 ((0 ≤ n5 ∧
 n5 < (↑(ByteArray.size x1) : Int)) ∧
 ∃ I7 : Int → Int → World → Prop, ∃ I8 : Int → Int → World → Nat, (I7 (IntKind.wrap IntKind.u32 (↑(BitVec.toNat (BitVec.ofInt 32 n4 ^^^ BitVec.ofInt 32 (IntKind.wrap IntKind.u32 (byteAt x1 n5)))) : Int)) 0 w6 ∧
 ∀ n9 : Int,
 ∀ n10 : Int,
 ∀ w11 : World,
 (I7 n9 n10 w11 →
 (((decide (n10 < 8) = true →
 ((0 : Int) ≤ (1 : Int) ∧
 (I7 (IntKind.wrap IntKind.u32 (↑(BitVec.toNat (BitVec.ofInt 32 (Int.fdiv n9 (2 ^ min (Int.toNat 1) 32)) ^^^ BitVec.ofInt 32 (IntKind.wrap IntKind.u32 (↑(BitVec.toNat (BitVec.ofInt 32 3988292384 &&& BitVec.ofInt 32 (IntKind.wrap IntKind.u32 (0 - IntKind.wrap IntKind.u32 (↑(BitVec.toNat (BitVec.ofInt 32 n9 &&& BitVec.ofInt 32 1)) : Int))))) : Int)))) : Int)) (IntKind.wrap IntKind.i64 (n10 + 1)) w11 ∧
 I8 (IntKind.wrap IntKind.u32 (↑(BitVec.toNat (BitVec.ofInt 32 (Int.fdiv n9 (2 ^ min (Int.toNat 1) 32)) ^^^ BitVec.ofInt 32 (IntKind.wrap IntKind.u32 (↑(BitVec.toNat (BitVec.ofInt 32 3988292384 &&& BitVec.ofInt 32 (IntKind.wrap IntKind.u32 (0 - IntKind.wrap IntKind.u32 (↑(BitVec.toNat (BitVec.ofInt 32 n9 &&& BitVec.ofInt 32 1)) : Int))))) : Int)))) : Int)) (IntKind.wrap IntKind.i64 (n10 + 1)) w11 < I8 n9 n10 w11)))) ∧
 (decide (n10 < 8) = false →
 (I2 n9 (IntKind.wrap IntKind.i64 (n5 + 1)) w11 ∧
 I3 n9 (IntKind.wrap IntKind.i64 (n5 + 1)) w11 < I3 n4 n5 w6)))))))) ∧
 (decide (n5 < (↑(ByteArray.size x1) : Int)) = false →
 (Wr w6 (Addr.mk x0 0 none) ∧
 ∀ w12 : World,
 ((w12 = World.setCell w6 (Addr.mk x0 0 none) (Value.int IntKind.u32 (IntKind.wrap IntKind.u32 (↑(BitVec.toNat (BitVec.ofInt 32 (if IntKind.signed IntKind.u32 = true then -1 else Int.ofNat (2 ^ 32 - Nat.succ 0)) ^^^ BitVec.ofInt 32 n4)) : Int)))) →
 R (Value.tuple (Array.mk [])) w12)))))))
theorem vc_sums_Crc_Write_ok {x0 : Nat} {x1 : ByteArray} {w : World} {R : Value → World → Prop} {R' : Ending → World → Prop} (h : vc_sums_Crc_Write x0 x1 w R) (hR : ∀ v w', R v w' → R' (.returned v) w') :
    Calls Tryz.prog 42 #[.pointer (some ⟨x0, 0, none⟩), .string x1] w R' :=
  calls_of_body (vs := [(.pointer (some ⟨x0, 0, none⟩), true), (.string x1, false)]) (ty := ty) (ann := ⟨[], [(2, [(4, .int .u32), (13, .int .i64)]), (6, [(4, .int .u32), (22, .int .i64)])], [], []⟩) (c := Tryz.f42.body.getD .skip) (by kernel_rfl) Tryz.func42 (by kernel_rfl) (by kernel_rfl) (Eq.mp (by kernel_rfl) h) hR
/-- (*sums.Crc).Sum -/
def vc_sums_Crc_Sum (x0 : Nat) (w : World) (R : Value → World → Prop) : Prop :=
 ∃ n1 : Int, (World.cell? w (Addr.mk x0 0 none) = some (Value.int IntKind.u32 n1) ∧
 R (Value.int IntKind.u32 n1) w)
theorem vc_sums_Crc_Sum_ok {x0 : Nat} {w : World} {R : Value → World → Prop} {R' : Ending → World → Prop} (h : vc_sums_Crc_Sum x0 w R) (hR : ∀ v w', R v w' → R' (.returned v) w') :
    Calls Tryz.prog 43 #[.pointer (some ⟨x0, 0, none⟩)] w R' :=
  calls_of_body (vs := [(.pointer (some ⟨x0, 0, none⟩), true)]) (ty := ty) (ann := ⟨[], [], [], []⟩) (c := Tryz.f43.body.getD .skip) (by kernel_rfl) Tryz.func43 (by kernel_rfl) (by kernel_rfl) (Eq.mp (by kernel_rfl) h) hR
/-- sums.Crc32 -/
def vc_sums_Crc32 (x0 : ByteArray) (w : World) (R : Value → World → Prop) : Prop :=
 ∀ w1 : World,
 (w1 = World.alloc w (Obj.cells (Array.mk [Value.int IntKind.u32 0]) 94) →
 Calls Tryz.prog (42 : Nat) (Array.mk [Value.pointer (some (Addr.mk (Array.size (World.heap w)) 0 none)), Value.string x0]) (w1) (fun e2 w3 =>
 (e2 = Ending.returned (Value.tuple (Array.mk [])) ∧
 Calls Tryz.prog (43 : Nat) (Array.mk [Value.pointer (some (Addr.mk (Array.size (World.heap w)) 0 none))]) (w3) (fun e4 w5 =>
 ∃ n6 : Int, (e4 = Ending.returned (Value.int IntKind.u32 n6) ∧
 R (Value.int IntKind.u32 n6) w5)))))
theorem vc_sums_Crc32_ok {x0 : ByteArray} {w : World} {R : Value → World → Prop} {R' : Ending → World → Prop} (h : vc_sums_Crc32 x0 w R) (hR : ∀ v w', R v w' → R' (.returned v) w') :
    Calls Tryz.prog 16 #[.string x0] w R' :=
  calls_of_body (vs := [(.string x0, false)]) (ty := ty) (ann := ⟨[], [], [], []⟩) (c := Tryz.f16.body.getD .skip) (by kernel_rfl) Tryz.func16 (by kernel_rfl) (by kernel_rfl) (Eq.mp (by kernel_rfl) h) hR
end Go.Proofs.YtaaimcbicpgjoaaGreatDoor

/- sums.Crc32, as a function on words. No condition. -/
set_option linter.unusedVariables false
namespace Go.Proofs.YtaaimcbicpgjoaaGreatDoor
open Go Vc Go.Proofs

def crcBit (c : BitVec 32) : BitVec 32 := (c >>> 1) ^^^ (3988292384#32 &&& (0 - (c &&& 1#32)))
def crcBits : Nat → BitVec 32 → BitVec 32
  | 0, c => c
  | n + 1, c => crcBit (crcBits n c)
def crcByte (c : BitVec 32) (b : UInt8) : BitVec 32 := crcBits 8 (c ^^^ BitVec.ofInt 32 ((b.toNat : Nat) : Int))
def crcRun (l : List UInt8) : BitVec 32 := l.foldl crcByte (BitVec.allOnes 32 ^^^ 0#32)
/-- The cyclic sum. -/
def crcW (l : List UInt8) : BitVec 32 := BitVec.allOnes 32 ^^^ crcRun l
theorem u_neg (x : BitVec 32) : IntKind.u32.wrap (0 - (x.toNat : Int)) = ((0 - x).toNat : Int) := by
  have := x.isLt
  rw [wrap_u32_mod, BitVec.toNat_sub]
  show (0 - (x.toNat : Int)) % 4294967296 = (((4294967296 - x.toNat + 0) % 4294967296 : Nat) : Int)
  omega
theorem crcBit_int (c : BitVec 32) : IntKind.u32.wrap (BitVec.toNat (BitVec.ofInt 32 (Int.fdiv (c.toNat : Int) (2 ^ min (Int.toNat 1) 32)) ^^^ BitVec.ofInt 32 (IntKind.u32.wrap (BitVec.toNat (BitVec.ofInt 32 3988292384 &&& BitVec.ofInt 32 (IntKind.u32.wrap (0 - IntKind.u32.wrap (BitVec.toNat (BitVec.ofInt 32 (c.toNat : Int) &&& BitVec.ofInt 32 1) : Int)))) : Int))) : Int) = ((crcBit c).toNat : Int) := by
  have h1 : Int.toNat 1 = 1 := rfl
  have e1 : BitVec.ofInt 32 1 = 1#32 := rfl
  have e2 : BitVec.ofInt 32 3988292384 = 3988292384#32 := rfl
  rw [h1, u_shr c 1 (by decide), u_of, u_of, e1, e2, u_wrap (c &&& 1#32), u_neg, u_of, u_wrap (3988292384#32 &&& (0 - (c &&& 1#32))), u_of, u_wrap]
  rfl
theorem ones_not : BitVec.ofInt 32 (if IntKind.signed IntKind.u32 = true then -1 else Int.ofNat (2 ^ 32 - Nat.succ 0)) = BitVec.allOnes 32 := by decide
theorem crcWrite_spec {w : World} {b : Nat} {T : TypeId} (hb : w.heap[b]? = some (.cells #[.int .u32 0] T (0, 0))) (s : ByteArray) (hs : s.size ≤ 140737488355328) : Calls Tryz.prog F_sums_Crc_Write #[.pointer (some ⟨b, 0, none⟩), .string s] w fun e w' =>
    e = .returned (.tuple #[]) ∧ w' = w.setCell ⟨b, 0, none⟩ (.int .u32 ((crcW s.data.toList).toNat : Int)) := by
  refine vc_sums_Crc_Write_ok (R := fun v w' => v = .tuple #[] ∧ w' = w.setCell ⟨b, 0, none⟩ (.int .u32 ((crcW s.data.toList).toNat : Int))) ?_ (fun v w' h => ⟨by rw [h.1], h.2⟩)
  obtain ⟨L, hL⟩ : ∃ L, s.data.toList = L := ⟨_, rfl⟩
  have hLl : L.length = s.size := by rw [← hL, bs_len]
  have e0 : BitVec.ofInt 32 0 = 0#32 := rfl
  refine ⟨0, by rw [cell_blk hb]; rfl, fun c i w' => ∃ k : Nat, i = k ∧ k ≤ L.length ∧ c = ((crcRun (L.take k)).toNat : Int) ∧ w' = w, fun _ i _ => L.length - i.toNat, ⟨0, rfl, Nat.zero_le _, by rw [ones_not, e0, u_wrap]; rfl, rfl⟩, ?_⟩
  rintro c i w6 ⟨k, rfl, hk, rfl, hw⟩
  subst hw
  refine ⟨fun hlt => ?_, fun hge => ?_⟩
  · have hlt := of_decide_eq_true hlt
    have hkl : k < L.length := by omega
    have htk : L.take (k + 1) = L.take k ++ [L[k]] := (List.take_append_getElem hkl).symm
    have hbk : byteAt s (k : Int) = (((L[k]).toNat : Nat) : Int) := by
      rw [byteAt_nat, bs_byt (by omega)]
      have : s.data.toList[k]? = some L[k] := by rw [hL]; exact List.getElem?_eq_getElem hkl
      rw [List.getElem?_eq_getElem (by rw [bs_len]; omega)] at this
      rw [Option.some.inj this]
    generalize L[k] = x at htk hbk
    have hx := UInt8.toNat_lt x
    have e1 : IntKind.i64.wrap ((k : Int) + 1) = ((k + 1 : Nat) : Int) := by rw [wrap_i64 (by omega) (by omega)]; omega
    rw [hbk, e1, wrap_u32 (x := ((x.toNat : Nat) : Int)) (by omega) (by omega), u_of, u_wrap]
    refine ⟨⟨by omega, by omega⟩, fun c j w' => ∃ q : Nat, j = q ∧ q ≤ 8 ∧ c = ((crcBits q (crcRun (L.take k) ^^^ BitVec.ofInt 32 ((x.toNat : Nat) : Int))).toNat : Int) ∧ w' = w6, fun _ j _ => 8 - j.toNat, ⟨0, rfl, by decide, rfl, rfl⟩, ?_⟩
    rintro c j w11 ⟨q, rfl, hq, rfl, hw⟩
    subst hw
    have e2 : IntKind.i64.wrap ((q : Int) + 1) = ((q + 1 : Nat) : Int) := by rw [wrap_i64 (by omega) (by omega)]; omega
    rw [crcBit_int, e2]
    refine ⟨fun hlt8 => ⟨by decide, ⟨q + 1, rfl, by have := of_decide_eq_true hlt8; omega, rfl, rfl⟩, by have := of_decide_eq_true hlt8; dsimp only; omega⟩, fun hge8 => ?_⟩
    have hq8 : q = 8 := by have := of_decide_eq_false hge8; omega
    subst hq8
    refine ⟨⟨k + 1, rfl, by omega, ?_, rfl⟩, by dsimp only; omega⟩
    rw [htk]
    unfold crcRun
    rw [List.foldl_append]
    rfl
  · have hge := of_decide_eq_false hge
    have hk' : k = L.length := by omega
    rw [hk', List.take_length]
    refine ⟨wr_blk hb (by simp), fun w12 h12 => ⟨rfl, ?_⟩⟩
    rw [ones_not, u_of, u_wrap] at h12
    rw [h12, hL]; rfl
theorem crc32_spec (s : ByteArray) (hs : s.size ≤ 140737488355328) (w : World) : Calls Tryz.prog F_sums_Crc32 #[.string s] w fun e w' => e = .returned (.int .u32 ((crcW s.data.toList).toNat : Int)) ∧ Fr (fun _ => False) w w' := by
  refine vc_sums_Crc32_ok (R := fun v w' => v = .int .u32 ((crcW s.data.toList).toNat : Int) ∧ Fr (fun _ => False) w w') ?_ (fun v w' h => ⟨by rw [h.1], h.2⟩)
  intro w1 h1
  have hf1 : Fr (fun _ => False) w w1 := by rw [h1]; exact .alloc _ _ _
  have hb1 : w1.heap[w.heap.size]? = some (.cells #[.int .u32 0] T_sums_Crc (0, 0)) := by rw [h1]; exact alloc_new _ _
  refine (crcWrite_spec hb1 s hs).mono ?_
  rintro e w3 ⟨rfl, rfl⟩
  refine ⟨rfl, ?_⟩
  have hb3 := set_blk hb1 0 (.int .u32 ((crcW s.data.toList).toNat : Int))
  have hf3 : Fr (fun _ => False) w (w1.setCell ⟨w.heap.size, 0, none⟩ (.int .u32 ((crcW s.data.toList).toNat : Int))) := hf1.trans (Fr.set (· = w.heap.size) _ _ rfl) fun q hq e => by omega
  refine Calls.mono (R := fun e w' => e = .returned (.int .u32 ((crcW s.data.toList).toNat : Int)) ∧ w' = w1.setCell ⟨w.heap.size, 0, none⟩ (.int .u32 ((crcW s.data.toList).toNat : Int))) (vc_sums_Crc_Sum_ok (R := fun v w' => v = .int .u32 ((crcW s.data.toList).toNat : Int) ∧ w' = w1.setCell ⟨w.heap.size, 0, none⟩ (.int .u32 ((crcW s.data.toList).toNat : Int))) ?_ (fun v w' h => ⟨by rw [h.1], h.2⟩)) ?_
  · exact ⟨_, by rw [cell_blk hb3]; rfl, rfl, rfl⟩
  · rintro e w5 ⟨rfl, rfl⟩
    exact ⟨_, rfl, rfl, hf3⟩
end Go.Proofs.YtaaimcbicpgjoaaGreatDoor

/- Digits of bytes in plain; append of what is new. No condition. -/
set_option linter.unusedVariables false
namespace Vc
open Go
theorem append_new {P : Program} {t e : TypeId} {z : Value} {bytes : Nat} {w : World} {base : Nat} {l : Sl} {xs : List Value} (el : El P t e z bytes) (h : Own w base e l xs) {news : List Value} (h1 : ∀ u ∈ news, u.oneCell' = true)
    (hm : xs.length + news.length ≤ maxLen) (hb : (xs.length + news.length) * bytes ≤ 140737488355328) (hbase : base ≤ w.heap.size) {w2 : World} (hw2 : w2 = w.alloc (.cells news.toArray e)) {m : Nat} (hlen : news.length = m) :
    ∃ w' l', (Builtin.append_ #[t, t] t #[.slice l.a l.len l.cap, .slice (some ⟨w.heap.size, 0, none⟩) m m]).run P w2 = .ok (.slice l'.a l'.len l'.cap) w' ∧ Own w' base e l' (xs ++ news) ∧
      Fr (At l) w w' ∧ Since w l l' := by
  subst hw2
  have h2 : Own (w.alloc (.cells news.toArray e)) base e l xs := h.keep (.alloc (fun _ => False) _ _) (by simp)
  obtain ⟨w', l', hr, ho, hf, hs⟩ := append_all' el h2 (src := some ⟨w.heap.size, 0, none⟩) m (news := news) (fun i v hv => ⟨_, rfl, by rw [add_lit, Nat.zero_add, cell_blk (alloc_new w _)]; simpa using hv⟩) h1 hm hb (by simp; omega) hlen
  refine ⟨w', l', hr, ho, (Fr.alloc _ _ _).trans' hf, fun y hy => ?_⟩
  rcases hs y hy with hx | hn
  · exact .inl hx
  · simp only [World.alloc, Array.size_push] at hn
    exact .inr (by omega)
end Vc
namespace HexM
/-- A digit. -/
def hx (n : Nat) : Nat := if n < 10 then 48 + n else 87 + n
theorem hx_lt {n : Nat} (h : n < 16) : hx n < 256 := by unfold hx; split <;> omega
def hexL (l : List UInt8) : List UInt8 := l.flatMap fun c => [UInt8.ofNat (hx (c.toNat / 16)), UInt8.ofNat (hx (c.toNat % 16))]
theorem hexL_snoc (l : List UInt8) (c : UInt8) : hexL (l ++ [c]) = hexL l ++ [UInt8.ofNat (hx (c.toNat / 16)), UInt8.ofNat (hx (c.toNat % 16))] := by simp [hexL]
theorem hexL_length (l : List UInt8) : (hexL l).length = 2 * l.length := by
  induction l with
  | nil => rfl
  | cons c l ih => simp only [hexL, List.flatMap_cons, List.length_append, List.length_cons, List.length_nil] at ih ⊢; omega
/-- A digit's number. -/
def dg (c : Nat) : Option Nat := if 48 ≤ c ∧ c ≤ 57 then some (c - 48) else if 97 ≤ c ∧ c ≤ 102 then some (c - 87) else none
theorem dg_lt {c n : Nat} (h : dg c = some n) : n < 16 := by
  unfold dg at h
  split at h
  · cases h; omega
  · split at h
    · cases h; omega
    · cases h
theorem dg_hx {n : Nat} (h : n < 16) : dg (hx n) = some n := by
  unfold hx dg
  split
  · rw [if_pos (by omega)]; congr 1; omega
  · rw [if_neg (by omega), if_pos (by omega)]; congr 1; omega
theorem hx_dg {c n : Nat} (h : dg c = some n) : hx n = c := by
  unfold dg at h
  unfold hx
  split at h
  · cases h; rw [if_pos (by omega)]; omega
  · split at h
    · cases h; rw [if_neg (by omega)]; omega
    · cases h
def unhexL : List UInt8 → Option (List UInt8)
  | [] => some []
  | [_] => none
  | a :: b :: r => match dg a.toNat, dg b.toNat, unhexL r with
    | some x, some y, some l => some (UInt8.ofNat (16 * x + y) :: l)
    | _, _, _ => none
theorem unhexL_len : ∀ (l r : List UInt8), unhexL l = some r → l.length = 2 * r.length
  | [], r, h => by simp only [unhexL, Option.some.injEq] at h; subst h; rfl
  | [_], r, h => by simp [unhexL] at h
  | a :: b :: l, r, h => by
    simp only [unhexL] at h
    split at h
    · rename_i x y q h1 h2 h3
      cases h
      have := unhexL_len l q h3
      simp only [List.length_cons]; omega
    · cases h
theorem unhex_hex : ∀ l : List UInt8, unhexL (hexL l) = some l
  | [] => rfl
  | c :: l => by
    have hc := c.toNat_lt
    have h1 : (UInt8.ofNat (hx (c.toNat / 16))).toNat = hx (c.toNat / 16) := by have := hx_lt (n := c.toNat / 16) (by omega); simp; omega
    have h2 : (UInt8.ofNat (hx (c.toNat % 16))).toNat = hx (c.toNat % 16) := by have := hx_lt (n := c.toNat % 16) (by omega); simp; omega
    have : hexL (c :: l) = UInt8.ofNat (hx (c.toNat / 16)) :: UInt8.ofNat (hx (c.toNat % 16)) :: hexL l := rfl
    rw [this, unhexL, h1, h2, dg_hx (by omega), dg_hx (by omega), unhex_hex l]
    simp only [Option.some.injEq, List.cons.injEq, and_true]
    rw [show 16 * (c.toNat / 16) + c.toNat % 16 = c.toNat by omega, UInt8.ofNat_toNat]
theorem hex_unhex : ∀ (l r : List UInt8), unhexL l = some r → hexL r = l
  | [], r, h => by simp only [unhexL, Option.some.injEq] at h; subst h; rfl
  | [_], r, h => by simp [unhexL] at h
  | a :: b :: l, r, h => by
    simp only [unhexL] at h
    split at h
    · rename_i x y q h1 h2 h3
      cases h
      have hx1 := dg_lt h1
      have hy1 := dg_lt h2
      have e : (UInt8.ofNat (16 * x + y)).toNat = 16 * x + y := by simp; omega
      show UInt8.ofNat (hx ((UInt8.ofNat (16 * x + y)).toNat / 16)) :: UInt8.ofNat (hx ((UInt8.ofNat (16 * x + y)).toNat % 16)) :: hexL q = _
      rw [e, show (16 * x + y) / 16 = x by omega, show (16 * x + y) % 16 = y by omega, hx_dg h1, hx_dg h2, UInt8.ofNat_toNat, UInt8.ofNat_toNat, hex_unhex l q h3]
    · cases h
/-- All are digits. -/
def digits (l : List UInt8) : Bool := l.all fun c => (dg c.toNat).isSome
theorem unhexL_iff : ∀ l : List UInt8, (unhexL l).isSome = (digits l && l.length % 2 == 0)
  | [] => rfl
  | [a] => by simp [unhexL]
  | a :: b :: l => by
    have ih := unhexL_iff l
    have hl : (a :: b :: l).length % 2 = l.length % 2 := by simp only [List.length_cons]; omega
    rw [hl]
    simp only [unhexL, digits, List.all_cons] at ih ⊢
    cases h1 : dg a.toNat <;> cases h2 : dg b.toNat <;> simp
    cases h3 : unhexL l <;> rw [h3] at ih <;> simp at ih ⊢ <;> simpa using ih
/-- An object's name. -/
def isId (l : List UInt8) : Bool := (unhexL l).isSome && l.length == 40
theorem unhexL_take : ∀ (n : Nat) (l : List UInt8) (r : List UInt8), unhexL (l.take (2 * n)) = some r → 2 * n ≤ l.length → ∀ a b : UInt8, l[2 * n]? = some a → l[2 * n + 1]? = some b →
    unhexL (l.take (2 * (n + 1))) = (match dg a.toNat, dg b.toNat with | some x, some y => some (r ++ [UInt8.ofNat (16 * x + y)]) | _, _ => none)
  | 0, l, r, h, _, a, b, ha, hb => by
    match l, ha, hb with
    | a' :: b' :: l, ha, hb =>
      simp only [Nat.mul_zero, List.getElem?_cons_zero, Option.some.injEq] at ha
      simp only [Nat.mul_zero, Nat.zero_add, List.getElem?_cons_succ, List.getElem?_cons_zero, Option.some.injEq] at hb
      subst ha; subst hb
      simp only [Nat.mul_zero, List.take_zero, unhexL, Option.some.injEq] at h
      subst h
      show unhexL [a', b'] = _
      cases h1 : dg a'.toNat <;> cases h2 : dg b'.toNat <;> simp [unhexL, h1, h2]
    | [], ha, _ => simp at ha
    | [_], _, hb => simp at hb
  | n + 1, l, r, h, hl, a, b, ha, hb => by
    match l, hl with
    | a' :: b' :: l, hl =>
      have ha' : l[2 * n]? = some a := by simpa [show 2 * (n + 1) = 2 * n + 1 + 1 by omega] using ha
      have hb' : l[2 * n + 1]? = some b := by simpa [show 2 * (n + 1) + 1 = 2 * n + 1 + 1 + 1 by omega] using hb
      have ht : ∀ k, (a' :: b' :: l).take (2 * (k + 1)) = a' :: b' :: l.take (2 * k) := fun k => by rw [show 2 * (k + 1) = 2 * k + 1 + 1 by omega]; rfl
      rw [ht] at h ⊢
      simp only [unhexL] at h
      split at h
      · rename_i x y q h1 h2 h3
        cases h
        have ih := unhexL_take n l q h3 (by simp only [List.length_cons] at hl; omega) a b ha' hb'
        simp only [unhexL, h1, h2, ih]
        cases dg a.toNat <;> cases dg b.toNat <;> simp
      · cases h
    | [], hl => simp at hl
    | [_], hl => simp only [List.length_cons, List.length_nil] at hl; omega
theorem unhexL_bad : ∀ (n : Nat) (l : List UInt8) (a : UInt8), l[n]? = some a → dg a.toNat = none → unhexL l = none := fun n l a h hd => by
  have := unhexL_iff l
  cases hu : unhexL l with
  | none => rfl
  | some r =>
    exfalso
    rw [hu] at this
    simp only [Option.isSome_some, digits] at this
    have h2 := (Bool.and_eq_true _ _ ▸ this.symm).1
    rw [List.all_eq_true] at h2
    have := h2 a (List.mem_of_getElem? h)
    rw [hd] at this; cases this
end HexM

/- A digit of a byte. No condition. -/
set_option linter.unusedVariables false
namespace Go.Proofs.YtaaimcbicpgjoaaGreatDoor
open Go Vc HexM Go.Proofs

theorem hexdig_at (n : Nat) (h : n < 16) : byteAt ⟨#[48, 49, 50, 51, 52, 53, 54, 55, 56, 57, 97, 98, 99, 100, 101, 102]⟩ (n : Int) = (hx n : Nat) := by
  rw [byteAt_nat]
  have ha : ((List.range 16).all fun n => byt ⟨#[48, 49, 50, 51, 52, 53, 54, 55, 56, 57, 97, 98, 99, 100, 101, 102]⟩ n == hx n) = true := by decide +kernel
  have := List.all_eq_true.1 ha n (List.mem_range.2 h)
  rw [eq_of_beq this]
theorem and15 (n : Nat) (h : n < 256) : n &&& 15 = n % 16 := Nat.and_two_pow_sub_one_eq_mod n 4
end Go.Proofs.YtaaimcbicpgjoaaGreatDoor

/- Formulas of 1 Go functions of this seat (written by a program of the author's, vcgen.py), and that each is enough for the call. No condition. -/
set_option linter.unusedVariables false
namespace Go.Proofs.YtaaimcbicpgjoaaGreatDoor
open Go Vc Go.Proofs
set_option maxRecDepth 100000
/-- sums.Hex -/
def vc_sums_Hex (x0 : ByteArray) (w : World) (R : Value → World → Prop) : Prop :=
 ∃ I1 : Sl → Int → World → Prop, ∃ I2 : Sl → Int → World → Nat, (I1 (Sl.mk none 0 0) 0 w ∧
 ∀ l3 : Sl,
 ∀ n4 : Int,
 ∀ w5 : World,
 (I1 l3 n4 w5 →
 (((decide (n4 < (↑(ByteArray.size x0) : Int)) = true →
 ∀ w6 : World,
 (Drew w5 w6 →
 ∃ I7 : World → Prop, (I7 w6 ∧
 ((0 ≤ n4 ∧
 n4 < (↑(ByteArray.size x0) : Int)) ∧
 ((0 : Int) ≤ (4 : Int) ∧
 ((0 ≤ Int.fdiv (byteAt x0 n4) (2 ^ min (Int.toNat 4) 8) ∧
 Int.fdiv (byteAt x0 n4) (2 ^ min (Int.toNat 4) 8) < (↑(ByteArray.size (ByteArray.mk (Array.mk [48, 49, 50, 51, 52, 53, 54, 55, 56, 57, 97, 98, 99, 100, 101, 102]))) : Int)) ∧
 ((0 ≤ n4 ∧
 n4 < (↑(ByteArray.size x0) : Int)) ∧
 ((0 ≤ IntKind.wrap IntKind.u8 (↑(BitVec.toNat (BitVec.ofInt 8 (byteAt x0 n4) &&& BitVec.ofInt 8 15)) : Int) ∧
 IntKind.wrap IntKind.u8 (↑(BitVec.toNat (BitVec.ofInt 8 (byteAt x0 n4) &&& BitVec.ofInt 8 15)) : Int) < (↑(ByteArray.size (ByteArray.mk (Array.mk [48, 49, 50, 51, 52, 53, 54, 55, 56, 57, 97, 98, 99, 100, 101, 102]))) : Int)) ∧
 ∀ w8 : World,
 (w8 = World.alloc w6 (Obj.cells (Array.mk [Value.int IntKind.u8 (byteAt (ByteArray.mk (Array.mk [48, 49, 50, 51, 52, 53, 54, 55, 56, 57, 97, 98, 99, 100, 101, 102])) (Int.fdiv (byteAt x0 n4) (2 ^ min (Int.toNat 4) 8))), Value.int IntKind.u8 (byteAt (ByteArray.mk (Array.mk [48, 49, 50, 51, 52, 53, 54, 55, 56, 57, 97, 98, 99, 100, 101, 102])) (IntKind.wrap IntKind.u8 (↑(BitVec.toNat (BitVec.ofInt 8 (byteAt x0 n4) &&& BitVec.ofInt 8 15)) : Int)))]) 5) →
 (I7 w8 ∧
 ∃ w9 : World, ∃ l10 : Sl, (Sem.run Tryz.prog (Builtin.append_ (Array.mk [60, 60]) 60 (Array.mk [Value.slice l3.1 l3.2 l3.3, Value.slice (some (Addr.mk (Array.size (World.heap w6)) 0 none)) 2 2])) w8 = Result.ok (Value.slice l10.1 l10.2 l10.3) w9 ∧
 (I7 w9 ∧
 (I1 (Sl.mk l10.1 l10.2 l10.3) (IntKind.wrap IntKind.i64 (n4 + 1)) w9 ∧
 I2 (Sl.mk l10.1 l10.2 l10.3) (IntKind.wrap IntKind.i64 (n4 + 1)) w9 < I2 l3 n4 w5)))))))))))))) ∧
 (decide (n4 < (↑(ByteArray.size x0) : Int)) = false →
 ∃ w11 : World, ∃ s12 : ByteArray, (Sem.run Tryz.prog (convert 60 9 (Value.slice l3.1 l3.2 l3.3)) w5 = Result.ok (Value.string s12) w11 ∧
 R (Value.string s12) w11)))))
theorem vc_sums_Hex_ok {x0 : ByteArray} {w : World} {R : Value → World → Prop} {R' : Ending → World → Prop} (h : vc_sums_Hex x0 w R) (hR : ∀ v w', R v w' → R' (.returned v) w') :
    Calls Tryz.prog 9 #[.string x0] w R' :=
  calls_of_body (vs := [(.string x0, false)]) (ty := ty) (ann := ⟨[], [(3, [(3, .slice), (7, .int .i64)])], [(5, .held [(0, true), (1, true), (2, true), (3, true), (4, true), (5, true), (6, true), (7, true), (8, true), (9, true), (10, true), (11, false), (12, false), (13, true)])], []⟩) (c := Tryz.f9.body.getD .skip) (by kernel_rfl) Tryz.func9 (by kernel_rfl) (by kernel_rfl) (Eq.mp (by kernel_rfl) h) hR
end Go.Proofs.YtaaimcbicpgjoaaGreatDoor

/- Hex. Conditions: as named. -/
set_option linter.unusedVariables false
namespace Go.Proofs.YtaaimcbicpgjoaaGreatDoor
open Go Vc HexM Go.Proofs

/-- 'Hex'. -/
theorem hex_spec (s : ByteArray) (hs : s.size ≤ 1000000000) (w : World) : Calls Tryz.prog F_sums_Hex #[.string s] w fun e w' => e = .returned (.string ⟨(hexL s.data.toList).toArray⟩) ∧ Fr (fun _ => False) w w' := by
  refine vc_sums_Hex_ok (R := fun v w' => v = .string ⟨(hexL s.data.toList).toArray⟩ ∧ Fr (fun _ => False) w w') ?_ (fun v w' h => ⟨by rw [h.1], h.2⟩)
  refine ⟨fun l n w' => ∃ k : Nat, n = k ∧ k ≤ s.size ∧ Vc.Own w' w.heap.size T_uint8 l (byteV (hexL (s.data.toList.take k))) ∧ Fr (fun _ => False) w w', fun _ n _ => s.size - n.toNat, ⟨0, rfl, Nat.zero_le _, .nil _ _ _, .refl _ _⟩, ?_⟩
  rintro l3 n w5 ⟨k, rfl, hk, ho, hf⟩
  have e1 : IntKind.i64.wrap ((k : Int) + 1) = ((k + 1 : Nat) : Int) := by rw [wrap_i64 (by omega) (by omega)]; omega
  rw [e1]
  have hln : (byteV (hexL (s.data.toList.take k))).length = 2 * k := by rw [bv_len, hexL_length, List.length_take, bs_len]; omega
  refine ⟨fun hlt w6 d6 => ?_, fun hge => ?_⟩
  · have hlt := of_decide_eq_true hlt
    have hb := byt_lt s k
    rw [byteAt_nat]
    have e2 : Int.fdiv ((byt s k : Nat) : Int) (2 ^ min (Int.toNat 4) 8) = ((byt s k / 16 : Nat) : Int) := by
      rw [show (2 : Int) ^ min (Int.toNat 4) 8 = ((16 : Nat) : Int) from rfl, Int.fdiv_eq_ediv_of_nonneg _ (Int.natCast_nonneg _), ← Int.natCast_ediv]
    have e3 : IntKind.u8.wrap (((BitVec.ofInt 8 ((byt s k : Nat) : Int) &&& BitVec.ofInt 8 15).toNat : Nat) : Int) = ((byt s k % 16 : Nat) : Int) := by
      rw [show (15 : Int) = ((15 : Nat) : Int) from rfl, and_nat 8 _ _ (by omega) (by decide), and15 _ hb, wrap_u8 (by omega) (by omega)]
    rw [e2, e3, hexdig_at _ (by omega), hexdig_at _ (by omega)]
    refine ⟨fun _ => True, trivial, ⟨by omega, by omega⟩, by decide, ⟨by omega, ?_⟩, ⟨by omega, by omega⟩, ⟨by omega, ?_⟩, fun w8 h8 => ⟨trivial, ?_⟩⟩
    · rw [show ByteArray.size ⟨#[48, 49, 50, 51, 52, 53, 54, 55, 56, 57, 97, 98, 99, 100, 101, 102]⟩ = 16 from rfl]; omega
    · rw [show ByteArray.size ⟨#[48, 49, 50, 51, 52, 53, 54, 55, 56, 57, 97, 98, 99, 100, 101, 102]⟩ = 16 from rfl]; omega
    obtain ⟨w9, l10, hr, ho9, hf9, _⟩ := append_new elByteH (ho.drew d6) (news := [.int .u8 (hx (byt s k / 16) : Nat), .int .u8 (hx (byt s k % 16) : Nat)]) (by simp [Value.oneCell']) (by rw [hln]; simp only [List.length_cons, List.length_nil]; unfold maxLen; omega) (by rw [hln]; simp only [List.length_cons, List.length_nil]; omega) (Nat.le_trans hf.size (by rw [d6.heap]; exact Nat.le_refl _)) h8 rfl
    refine ⟨w9, l10, hr, trivial, ⟨k + 1, rfl, by omega, ?_, ?_⟩, by dsimp only; omega⟩
    · rw [bs_take (by omega), hexL_snoc, toNat_of _ hb]
      have h1 := hx_lt (n := byt s k / 16) (by omega)
      have h2 := hx_lt (n := byt s k % 16) (by omega)
      have : byteV (hexL (s.data.toList.take k)) ++ [.int .u8 (hx (byt s k / 16) : Nat), .int .u8 (hx (byt s k % 16) : Nat)] = byteV (hexL (s.data.toList.take k) ++ [UInt8.ofNat (hx (byt s k / 16)), UInt8.ofNat (hx (byt s k % 16))]) := by
        simp [byteV]; omega
      rw [← this]; exact ho9
    · exact (hf.trans' (.drew _ d6)).trans hf9 fun q hq ⟨y, hy, e⟩ => by
        have := (ho.blk hy).1; omega
  · have hge := of_decide_eq_false hge
    have : k = s.size := by omega
    subst this
    rw [bs_all] at ho
    exact ⟨_, _, bytes_str (e := T_uint8) (by kernel_rfl) (by kernel_rfl) (by kernel_rfl) l3.cap ho.reads (by rw [ho.len, bv_len]), rfl, hf⟩
end Go.Proofs.YtaaimcbicpgjoaaGreatDoor

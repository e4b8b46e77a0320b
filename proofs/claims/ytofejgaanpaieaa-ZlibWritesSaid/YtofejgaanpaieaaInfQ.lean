/- Plain laws on inflating: a stream that is cut short is told to be short. -/
import Derived.Test.YtofejgaanpaieaaInfX
set_option linter.unusedVariables false
namespace InfM
open BitsM HuffM Go.Proofs.Ytofejgaanpaieaa
/-- What was read within the first L bits is read of these alone; what was read beyond them is told to be short. -/
def Cut {α : Type} (L : Nat) (r r' : E α) : Prop := ∀ v p', r = .ok (v, p') → r' = if p' ≤ L then .ok (v, p') else .error 6
theorem drop_cut (B : List Bool) (L p n : Nat) (h : p + n ≤ L) : ((B.take L).drop p).take n = (B.drop p).take n := by
  rw [List.drop_take, List.take_take, show min n (L - p) = n by omega]
theorem take_cut {B : List Bool} {L : Nat} (hL : L ≤ B.length) (n p : Nat) : Cut L (take B n p) (take (B.take L) n p) := fun v p' h => by
  have hl : (B.take L).length = L := by rw [List.length_take]; omega
  unfold take at h ⊢
  rw [hl]
  split at h
  · cases h
    split
    · rename_i h2; rw [drop_cut B L p n h2]
    · rfl
  · cases h
theorem At.cut {ls : List Nat} {b : List Bool} {s n k : Nat} (h : HuffM.At ls (b.take k) s n) : HuffM.At ls b s n := by
  obtain ⟨h1, h2, h3, h4⟩ := h
  rw [List.length_take] at h3
  rw [List.take_take, show min n k = n by omega] at h4
  exact ⟨h1, h2, by omega, h4⟩
theorem sym_cut {ls : List Nat} (hf : Fits ls) {B : List Bool} {L : Nat} (hL : L ≤ B.length) (p : Nat) (hp : p ≤ L) : Cut L (sym ls B p) (sym ls (B.take L) p) := fun v p' h => by
  unfold sym at h
  split at h
  · rename_i hx
    have ha := hx.choose_spec
    cases h
    generalize hx.choose = y at ha ⊢
    by_cases hle : p + y.2 ≤ L
    · rw [if_pos hle]
      refine sym_at ?_
      obtain ⟨h1, h2, h3, h4⟩ := ha
      exact ⟨h1, h2, by rw [List.length_drop, List.length_take]; omega, by rw [drop_cut B L p _ hle]; exact h4⟩
    · rw [if_neg hle]
      unfold sym
      have hno : ¬ ∃ x : Nat × Nat, HuffM.At ls ((B.take L).drop p) x.1 x.2 := fun ⟨x, hx'⟩ => by
        have h3 := hx'.2.2.1
        rw [List.length_drop, List.length_take] at h3
        rw [List.drop_take] at hx'
        have := ha.one (At.cut hx')
        omega
      rw [dif_neg hno, if_pos ?_]
      have hpre := (cbits_prefix hf ha.1 ha.2.1 (B.drop p)).2 ha
      have hcl : (cbits ls y.1).length = y.2 := by rw [cbits_length, List.getD_eq_getElem?_getD, ha.1]; rfl
      refine ⟨y.1, (List.getElem?_eq_some_iff.1 ha.1).1, by rw [hcl, List.length_drop, List.length_take]; omega, ?_⟩
      rw [List.drop_take]
      exact List.prefix_of_prefix_length_le (List.take_prefix _ _) hpre (by rw [hcl, List.length_take]; omega)
  · split at h <;> cases h
theorem firsts_cut {B : List Bool} {L : Nat} (hL : L ≤ B.length) : ∀ (r : List Nat) (p : Nat) (l : List Nat), p ≤ L → Cut L (firsts B r p l) (firsts (B.take L) r p l)
  | [], p, l, hp => fun v p' h => by
    rw [firsts] at h ⊢
    cases h
    rw [if_pos hp]
  | i :: r, p, l, hp => fun v p' h => by
    rw [firsts] at h ⊢
    split at h
    · cases h
    rename_i n p1 ht
    have h1 := take_cut hL 3 p _ _ ht
    have h2 := firsts_le _ _ _ _ _ h
    rw [h1]
    by_cases hle : p1 ≤ L
    · rw [if_pos hle]; exact firsts_cut hL r p1 _ hle _ _ h
    · rw [if_neg hle, if_neg (show ¬ p' ≤ L by omega)]
theorem clens_cut {cl : List Nat} (hf : Fits cl) {tot : Nat} {B : List Bool} {L : Nat} (hL : L ≤ B.length) : ∀ (f p : Nat) (l : List Nat), p ≤ L → Cut L (clens cl tot B f p l) (clens cl tot (B.take L) f p l)
  | 0, p, l, hp => fun v p' h => by cases h
  | f + 1, p, l, hp => fun v p' h => by
    rw [clens] at h ⊢
    split at h
    · rename_i h0
      cases h
      rw [if_pos h0, if_pos hp]
    rename_i h0
    rw [if_neg h0]
    split at h
    · cases h
    rename_i s p1 hs
    have h1 := sym_cut hf hL p hp _ _ hs
    rw [h1]
    by_cases hle : p1 ≤ L
    · rw [if_pos hle]
      simp only
      split at h
      · rename_i h16
        rw [if_pos h16]
        exact clens_cut hf hL f p1 _ hle _ _ h
      rename_i h16
      rw [if_neg h16]
      split at h
      · cases h
      rename_i h17
      rw [if_neg h17]
      split at h
      · cases h
      rename_i n p2 ht
      have h2 := take_cut hL _ p1 _ _ ht
      rw [h2]
      have key : ∀ k what, (if tot < l.length + k then (Except.error 3 : E (List Nat)) else clens cl tot B f p2 (l ++ List.replicate k what)) = .ok (v, p') →
          p2 ≤ p' ∧ (p2 ≤ L → (if tot < l.length + k then (Except.error 3 : E (List Nat)) else clens cl tot (B.take L) f p2 (l ++ List.replicate k what)) = if p' ≤ L then .ok (v, p') else .error 6) := fun k what h => by
        split at h
        · cases h
        · rename_i hk
          rw [if_neg hk]
          exact ⟨clens_le _ _ _ _ _ h, fun h2 => clens_cut hf hL f p2 _ h2 _ _ h⟩
      obtain ⟨k1, k2⟩ := key _ _ h
      by_cases hle2 : p2 ≤ L
      · rw [if_pos hle2]; exact k2 hle2
      · rw [if_neg hle2, if_neg (show ¬ p' ≤ L by omega)]
    · rw [if_neg hle, if_neg (c := p' ≤ L) ?_]
      have := clens_le (cl := cl) (tot := tot) (B := B) (f + 1) p l v p' (by rw [clens, if_neg h0, hs]; exact h)
      have hge : p1 ≤ p' := by
        simp only at h
        split at h
        · exact clens_le _ _ _ _ _ h
        split at h
        · cases h
        split at h
        · cases h
        rename_i n p2 ht
        have h2 := take_le ht
        have key : ∀ k what, (if tot < l.length + k then (Except.error 3 : E (List Nat)) else clens cl tot B f p2 (l ++ List.replicate k what)) = .ok (v, p') → p1 ≤ p' := fun k what h => by
          split at h
          · cases h
          · have := clens_le f _ _ _ _ h; omega
        exact key _ _ h
      omega
theorem chk_fits {ls : List Nat} (h : chkN ls = 0) : Fits ls := by
  unfold chkN chk at h
  rw [List.map_map, show (Int.toNat ∘ Int.ofNat) = id from rfl, List.map_id] at h
  split at h
  · cases h
  rename_i h1
  split at h
  · cases h
  rename_i h2
  split at h
  · cases h
  rename_i h3
  refine ⟨by omega, fun z hz => ?_⟩
  exact Nat.le_of_not_lt fun hl => h2 ⟨(z : Int), List.mem_map.2 ⟨z, hz, rfl⟩, .inr (by omega)⟩
theorem tables_cut {B : List Bool} {L : Nat} (hL : L ≤ B.length) (p : Nat) (hp : p ≤ L) : Cut L (tables B p) (tables (B.take L) p) := fun v p' h => by
  have hle := tables_le h
  obtain ⟨hd, p1, ht⟩ : ∃ hd p1, take B 14 p = .ok (hd, p1) := by
    cases ht : take B 14 p with
    | error e => rw [tables_err ht] at h; cases h
    | ok x => exact ⟨_, _, rfl⟩
  have c1 := take_cut hL 14 p _ _ ht
  rw [tables_ok ht] at h
  by_cases h1 : p1 ≤ L
  · rw [if_pos h1] at c1
    rw [tables_ok c1]
    rw [tabs1] at h ⊢
    split at h
    · cases h
    rename_i g1
    rw [if_neg g1]
    split at h
    · cases h
    rename_i first p2 hfi
    have c2 := firsts_cut hL _ p1 _ h1 _ _ hfi
    rw [c2]
    by_cases h2 : p2 ≤ L
    · rw [if_pos h2]
      simp only
      rw [tabs2] at h ⊢
      split at h
      · cases h
      rename_i g2
      rw [if_neg g2]
      split at h
      · cases h
      rename_i l p3 hcl
      have c3 := clens_cut (chk_fits (Classical.not_not.1 g2)) hL _ p2 _ h2 _ _ hcl
      rw [c3]
      split at h
      · cases h
      rename_i g3
      cases h
      by_cases h3 : p' ≤ L
      · rw [if_pos h3, if_pos h3]
        simp only
        rw [if_neg g3]
      · rw [if_neg h3, if_neg h3]
    · rw [if_neg h2, if_neg (show ¬ p' ≤ L from ?_)]
      rw [tabs2] at h
      split at h
      · cases h
      split at h
      · cases h
      rename_i hcl
      have := clens_le _ _ _ _ _ hcl
      split at h
      · cases h
      · cases h; omega
  · rw [if_neg h1] at c1
    rw [tables_err c1, if_neg (show ¬ p' ≤ L from ?_)]
    rw [tabs1] at h
    split at h
    · cases h
    split at h
    · cases h
    rename_i hfi
    have := firsts_le _ _ _ _ _ hfi
    rw [tabs2] at h
    split at h
    · cases h
    split at h
    · cases h
    rename_i hcl
    have := clens_le _ _ _ _ _ hcl
    split at h
    · cases h
    · cases h; omega
theorem rep_cut {dist : List Nat} (hf : Fits dist) {most : Nat} {B : List Bool} {L : Nat} (hL : L ≤ B.length) (s p : Nat) (out : List UInt8) (hp : p ≤ L) : Cut L (rep dist most B s p out) (rep dist most (B.take L) s p out) := fun v p' h => by
  unfold rep at h ⊢
  split at h
  · cases h
  rename_i g1
  rw [if_neg g1]
  split at h
  · cases h
  rename_i more p1 h1
  have c1 := take_cut hL _ p _ _ h1
  rw [c1]
  split at h
  · cases h
  rename_i d p2 h2
  have l2 := sym_le h2
  split at h
  · cases h
  rename_i g2
  split at h
  · cases h
  rename_i far p3 h3
  have l3 := take_le h3
  simp only at h
  split at h
  · cases h
  rename_i g3
  split at h
  · cases h
  rename_i g4
  cases h
  by_cases e1 : p1 ≤ L
  · rw [if_pos e1]
    simp only
    rw [sym_cut hf hL p1 e1 _ _ h2]
    by_cases e2 : p2 ≤ L
    · rw [if_pos e2]
      simp only
      rw [if_neg g2, take_cut hL _ p2 _ _ h3]
      by_cases e3 : p' ≤ L
      · rw [if_pos e3, if_pos e3]
        simp only
        rw [if_neg g3, if_neg g4]
      · rw [if_neg e3, if_neg e3]
    · rw [if_neg e2, if_neg (show ¬ p' ≤ L by omega)]
  · rw [if_neg e1, if_neg (show ¬ p' ≤ L by omega)]
theorem packed_le {lit dist : List Nat} {most : Nat} {B : List Bool} : ∀ (f p : Nat) (out out' : List UInt8) (p' : Nat), packed lit dist most B f p out = .ok (out', p') → p ≤ p'
  | 0, p, out, out', p', h => by cases h
  | f + 1, p, out, out', p', h => by
    rw [packed] at h
    split at h
    · cases h
    rename_i s p1 h1
    have l1 := sym_le h1
    split at h
    · cases h; exact l1
    split at h
    · split at h
      · cases h
      · have := packed_le f _ _ _ _ h; omega
    split at h
    · cases h
    rename_i o p2 h2
    have l2 := rep_le h2
    have := packed_le f _ _ _ _ h
    omega
theorem sym_lt {ls : List Nat} {B : List Bool} {p x p' : Nat} (h : sym ls B p = .ok (x, p')) : p < p' := by
  unfold sym at h
  split at h
  · rename_i hx
    have := hx.choose_spec.2.1
    cases h; omega
  · split at h <;> cases h
theorem packed_cut {lit dist : List Nat} (hl : Fits lit) (hd : Fits dist) {most : Nat} {B : List Bool} {L : Nat} (hL : L ≤ B.length) : ∀ (f f' p : Nat) (out : List UInt8), p ≤ L → L + 1 ≤ f' + p → Cut L (packed lit dist most B f p out) (packed lit dist most (B.take L) f' p out)
  | 0, f', p, out, hp, hf => fun v p' h => by cases h
  | f + 1, f', p, out, hp, hf => fun v p' h => by
    obtain ⟨f', rfl⟩ : ∃ g, f' = g + 1 := ⟨f' - 1, by omega⟩
    rw [packed] at h ⊢
    split at h
    · cases h
    rename_i s p1 h1
    have l1 := sym_lt h1
    rw [sym_cut hl hL p hp _ _ h1]
    by_cases e1 : p1 ≤ L
    · rw [if_pos e1]
      simp only
      split at h
      · rename_i g1
        cases h
        rw [if_pos g1, if_pos e1]
      rename_i g1
      rw [if_neg g1]
      split at h
      · rename_i g2
        rw [if_pos g2]
        split at h
        · cases h
        rename_i g3
        rw [if_neg g3]
        exact packed_cut hl hd hL f f' p1 _ e1 (by omega) _ _ h
      rename_i g2
      rw [if_neg g2]
      split at h
      · cases h
      rename_i o p2 h2
      have l2 := rep_le h2
      rw [rep_cut hd hL s p1 out e1 _ _ h2]
      by_cases e2 : p2 ≤ L
      · rw [if_pos e2]
        exact packed_cut hl hd hL f f' p2 _ e2 (by omega) _ _ h
      · have := packed_le f _ _ _ _ h
        rw [if_neg e2, if_neg (show ¬ p' ≤ L by omega)]
    · rw [if_neg e1, if_neg (show ¬ p' ≤ L from ?_)]
      split at h
      · cases h; omega
      split at h
      · split at h
        · cases h
        · have := packed_le f _ _ _ _ h; omega
      split at h
      · cases h
      rename_i o p2 h2
      have l2 := rep_le h2
      have := packed_le f _ _ _ _ h
      omega
theorem stored_cut {most : Nat} {B : List Bool} {L : Nat} (hL : L ≤ B.length) (p : Nat) (out : List UInt8) (hp : p ≤ L) : Cut L (stored most B p out) (stored most (B.take L) p out) := fun v p' h => by
  have hl : (B.take L).length = L := by rw [List.length_take]; omega
  unfold stored at h ⊢
  simp only at h ⊢
  rw [hl]
  generalize (p + 7) / 8 * 8 = q at h ⊢
  split at h
  · split at h
    · cases h
    rename_i g1
    split at h
    · split at h
      · cases h
      rename_i g2 g3
      cases h
      by_cases e1 : q + 32 ≤ L
      · rw [if_pos e1, drop_cut B L q 16 (by omega), drop_cut B L (q + 16) 16 (by omega), if_neg g1]
        generalize num ((B.drop q).take 16) = n at g1 g2 g3 ⊢
        by_cases e2 : q + 32 + 8 * n ≤ L
        · rw [if_pos e2, if_neg g3, if_pos e2]
          have : bytesAt (B.take L) n (q + 32) = bytesAt B n (q + 32) := by
            unfold bytesAt
            refine List.map_congr_left fun i hi => ?_
            have := List.mem_range.1 hi
            rw [drop_cut B L _ 8 (by omega)]
          rw [this]
        · rw [if_neg e2, if_neg (by omega), if_neg e2]
      · rw [if_neg e1, if_neg (by omega)]
    · split at h <;> cases h
  · cases h
theorem tables_chk {B : List Bool} {p p' : Nat} {lit dist : List Nat} (h : tables B p = .ok ((lit, dist), p')) : Fits lit ∧ Fits dist := by
  unfold tables at h
  split at h
  · cases h
  simp only at h
  split at h
  · cases h
  split at h
  · cases h
  split at h
  · cases h
  split at h
  · cases h
  split at h
  · cases h
  rename_i g
  cases h
  exact ⟨chk_fits (Classical.not_not.1 fun hh => g (.inr (.inl hh))), chk_fits (Classical.not_not.1 fun hh => g (.inr (.inr hh)))⟩
theorem block_le {most : Nat} {B : List Bool} {kind p p' : Nat} {out out' : List UInt8} (h : block most B kind p out = .ok (out', p')) : p ≤ p' := by
  unfold block at h
  split at h
  · exact stored_le h
  split at h
  · exact packed_le _ _ _ _ _ h
  split at h
  · split at h
    · cases h
    rename_i h1
    have := tables_le h1
    have := packed_le _ _ _ _ _ h
    omega
  · cases h
theorem block_cut {most : Nat} {B : List Bool} {L : Nat} (hL : L ≤ B.length) (kind p : Nat) (out : List UInt8) (hp : p ≤ L) : Cut L (block most B kind p out) (block most (B.take L) kind p out) := fun v p' h => by
  have hl : (B.take L).length = L := by rw [List.length_take]; omega
  unfold block at h ⊢
  rw [hl]
  split at h
  · rename_i g; rw [if_pos g]; exact stored_cut hL p out hp _ _ h
  rename_i g; rw [if_neg g]
  split at h
  · rename_i g; rw [if_pos g]; exact packed_cut (chk_fits fixedLit_chk) (chk_fits fixedDist_chk) hL _ _ p out hp (by omega) _ _ h
  rename_i g; rw [if_neg g]
  split at h
  · rename_i g
    rw [if_pos g]
    split at h
    · cases h
    rename_i lit dist p1 h1
    have hc := tables_chk h1
    rw [tables_cut hL p hp _ _ h1]
    by_cases e1 : p1 ≤ L
    · rw [if_pos e1]
      exact packed_cut hc.1 hc.2 hL _ _ p1 out e1 (by omega) _ _ h
    · have := packed_le _ _ _ _ _ h
      rw [if_neg e1, if_neg (show ¬ p' ≤ L by omega)]
  · cases h
theorem blocks_le {most : Nat} {B : List Bool} : ∀ (f p : Nat) (out out' : List UInt8) (p' : Nat), blocks most B f p out = .ok (out', p') → p ≤ p'
  | 0, p, out, out', p', h => by cases h
  | f + 1, p, out, out', p', h => by
    rw [blocks] at h
    split at h
    · cases h
    rename_i h1
    have := take_le h1
    split at h
    · cases h
    rename_i h2
    have := block_le h2
    split at h
    · cases h; omega
    · have := blocks_le f _ _ _ _ h; omega
theorem blocks_cut {most : Nat} {B : List Bool} {L : Nat} (hL : L ≤ B.length) : ∀ (f f' p : Nat) (out : List UInt8), p ≤ L → L + 1 ≤ f' + p → Cut L (blocks most B f p out) (blocks most (B.take L) f' p out)
  | 0, f', p, out, hp, hf => fun v p' h => by cases h
  | f + 1, f', p, out, hp, hf => fun v p' h => by
    obtain ⟨f', rfl⟩ : ∃ g, f' = g + 1 := ⟨f' - 1, by omega⟩
    have hle := blocks_le _ _ _ _ _ h
    rw [blocks] at h ⊢
    split at h
    · cases h
    rename_i hd p1 h1
    have l1 := take_le h1
    split at h
    · cases h
    rename_i o p2 h2
    have l2 := block_le h2
    have l3 : p2 ≤ p' := by
      split at h
      · cases h; omega
      · exact blocks_le f _ _ _ _ h
    rw [take_cut hL 3 p _ _ h1]
    by_cases e1 : p1 ≤ L
    · rw [if_pos e1]
      simp only
      rw [block_cut hL _ p1 out e1 _ _ h2]
      by_cases e2 : p2 ≤ L
      · rw [if_pos e2]
        simp only
        split at h
        · rename_i g
          cases h
          rw [if_pos g, if_pos e2]
        · rename_i g
          rw [if_neg g]
          exact blocks_cut hL f f' p2 _ e2 (by omega) _ _ h
      · rw [if_neg e2, if_neg (show ¬ p' ≤ L by omega)]
    · rw [if_neg e1, if_neg (show ¬ p' ≤ L by omega)]
/-- A stream that is cut short. -/
theorem inflate_cut {s : List UInt8} {most : Int} {cut : Nat} (hc : cut ≤ s.length) (h0 : (inflate s 0 most).2.2 = 0) (hok : ∃ x, inf most.toNat (sbits (s.drop (0 : Int).toNat)) = .ok x) :
    inflate (s.take cut) 0 most = if (inflate s 0 most).2.1 ≤ cut then inflate s 0 most else ([], 0, 6) := by
  unfold inflate at h0 ⊢
  by_cases hb : (0 : Int) < 0 ∨ (s.length : Int) < 0 ∨ most < 0 ∨ 65536 < most
  · rw [if_pos hb] at h0; cases h0
  rw [if_neg hb] at h0 ⊢
  rw [if_neg (by omega)]
  have e0 : (0 : Int).toNat = 0 := rfl
  rw [e0, List.drop_zero, List.drop_zero]
  have hL : 8 * cut ≤ (sbits s).length := by rw [sbits_length]; omega
  rw [sbits_take]
  cases hi : inf most.toNat (sbits s) with
  | error e =>
    obtain ⟨x, hx⟩ := hok
    rw [e0, List.drop_zero, hi] at hx
    cases hx
  | ok x =>
    obtain ⟨out, p⟩ := x
    have hl : ((sbits s).take (8 * cut)).length = 8 * cut := by rw [List.length_take]; omega
    have hcut : inf most.toNat ((sbits s).take (8 * cut)) = if p ≤ 8 * cut then .ok (out, p) else .error 6 := by
      unfold inf at hi ⊢
      rw [hl]
      exact blocks_cut hL _ _ 0 [] (Nat.zero_le _) (by omega) _ _ hi
    rw [hcut]
    by_cases hp : p ≤ 8 * cut
    · rw [if_pos hp]
      simp only
      rw [if_pos (by omega)]
    · rw [if_neg hp]
      simp only
      rw [if_neg (by omega)]
end InfM

/- What a folder's names say: they rise, and each file stands under one of them. Plain. -/
import Derived.Test.YtmihbbgojkbaeaaDoorSnapG
set_option linter.unusedVariables false
namespace Go.Proofs.YtmihbbgojkbaeaaDoor
open Go Vc Go.Proofs

/-- A text up to its first slash, with it. -/
def hdL : List UInt8 → List UInt8
  | [] => []
  | b :: l => if b = 47 then [47] else b :: hdL l
theorem hdL_no : ∀ l : List UInt8, (47 : UInt8) ∉ l → hdL l = l
  | [], _ => rfl
  | b :: l, h => by
    rw [hdL, if_neg (fun e => h (by simp [e])), hdL_no l (fun e => h (by simp [e]))]
theorem hdL_at : ∀ a b : List UInt8, (47 : UInt8) ∉ a → hdL (a ++ 47 :: b) = a ++ [47]
  | [], b, _ => by rw [List.nil_append, hdL, if_pos rfl]; rfl
  | c :: a, b, h => by
    rw [List.cons_append, hdL, if_neg (fun e => h (by simp [e])), hdL_at a b (fun e => h (by simp [e]))]; rfl
theorem hdL_cases : ∀ l : List UInt8, ((47 : UInt8) ∉ l ∧ hdL l = l) ∨ ∃ a b, l = a ++ 47 :: b ∧ (47 : UInt8) ∉ a ∧ hdL l = a ++ [47]
  | [] => .inl ⟨by simp, rfl⟩
  | c :: l => by
    by_cases hc : c = 47
    · refine .inr ⟨[], l, by rw [hc]; rfl, by simp, ?_⟩
      rw [hdL, if_pos hc]; rfl
    · rcases hdL_cases l with ⟨h1, h2⟩ | ⟨a, b, h1, h2, h3⟩
      · refine .inl ⟨by simp [h1, Ne.symm hc], ?_⟩
        rw [hdL, if_neg hc, h2]
      · refine .inr ⟨c :: a, b, by rw [h1]; rfl, by simp [h2, Ne.symm hc], ?_⟩
        rw [hdL, if_neg hc, h3]; rfl
theorem hdL_mono : ∀ a b : List UInt8, a < b → ¬ hdL b < hdL a
  | [], b, _ => by rw [hdL]; exact List.not_lt_nil _
  | x :: a, [], h => absurd h (List.not_lt_nil _)
  | x :: a, y :: b, h => by
    rw [List.cons_lt_cons_iff] at h
    rw [hdL, hdL]
    by_cases hx : x = 47
    · by_cases hy : y = 47
      · rw [if_pos hx, if_pos hy]; exact List.lt_irrefl _
      · rw [if_pos hx, if_neg hy, List.cons_lt_cons_iff]
        rcases h with h | ⟨h, _⟩
        · rintro (h1 | ⟨h1, _⟩)
          · rw [hx] at h; exact absurd (UInt8.lt_trans h h1) (UInt8.lt_irrefl _)
          · exact hy h1
        · exact absurd (h.symm.trans hx) hy
    · by_cases hy : y = 47
      · rw [if_neg hx, if_pos hy, List.cons_lt_cons_iff]
        rcases h with h | ⟨h, _⟩
        · rintro (h1 | ⟨h1, _⟩)
          · rw [hy] at h; exact absurd (UInt8.lt_trans h h1) (UInt8.lt_irrefl _)
          · exact hx h1.symm
        · exact absurd (h.trans hy) hx
      · rw [if_neg hx, if_neg hy, List.cons_lt_cons_iff]
        rcases h with h | ⟨rfl, h⟩
        · rintro (h1 | ⟨h1, _⟩)
          · exact absurd (UInt8.lt_trans h h1) (UInt8.lt_irrefl _)
          · rw [h1] at h; exact absurd h (UInt8.lt_irrefl _)
        · rintro (h1 | ⟨_, h1⟩)
          · exact absurd h1 (UInt8.lt_irrefl _)
          · exact hdL_mono a b h h1
theorem app_lt : ∀ f a b : List UInt8, f ++ a < f ++ b → a < b
  | [], a, b, h => h
  | c :: f, a, b, h => by
    rw [List.cons_append, List.cons_append, List.cons_lt_cons_iff] at h
    rcases h with h | ⟨_, h⟩
    · exact absurd h (UInt8.lt_irrefl _)
    · exact app_lt f a b h
theorem cutS_cases (s : ByteArray) : ((47 : UInt8) ∉ s.data.toList ∧ cutS s 47 = (s, ⟨#[]⟩, false)) ∨ ∃ a b, s.data.toList = a ++ 47 :: b ∧ (47 : UInt8) ∉ a ∧ (cutS s 47).1.data.toList = a ∧ (cutS s 47).2.2 = true := by
  rcases fnd_cases s 47 with ⟨h, hno⟩ | ⟨i, h, hlt, hb, hno⟩
  · refine .inl ⟨fun hm => ?_, ?_⟩
    · obtain ⟨k, hk, he⟩ := List.getElem_of_mem hm
      obtain ⟨h1, h2⟩ := bs_get? (s := s) (i := k) (c := 47) (by rw [List.getElem?_eq_getElem hk, he])
      exact hno k h1 h2
    · unfold cutS; rw [if_pos h]
  · have hlt' : i < s.data.toList.length := by rw [bs_len]; exact hlt
    have hc : s.data.toList[i] = 47 := by
      have := bs_byt hlt
      rw [hb] at this
      exact (UInt8.toNat_inj.1 this).symm
    refine .inr ⟨s.data.toList.take i, s.data.toList.drop (i + 1), ?_, fun hm => ?_, ?_, ?_⟩
    · rw [← hc, ← List.drop_eq_getElem_cons hlt', List.take_append_drop]
    · obtain ⟨k, hk, he⟩ := List.getElem_of_mem hm
      rw [List.length_take] at hk
      rw [List.getElem_take] at he
      obtain ⟨h1, h2⟩ := bs_get? (s := s) (i := k) (c := 47) (by rw [List.getElem?_eq_getElem (by omega), he])
      exact hno k (by omega) h2
    · unfold cutS
      rw [h, if_neg (by omega), Int.toNat_natCast]
      exact bs_head _ _
    · unfold cutS
      rw [h, if_neg (by omega)]
theorem nameE_L (f p : ByteArray) : (nameE f p).data.toList = hdL (p.data.toList.drop f.size) := by
  unfold nameE
  have ht : (p.extract f.size p.size).data.toList = p.data.toList.drop f.size := bs_tail _ _
  rcases cutS_cases (p.extract f.size p.size) with ⟨h1, h2⟩ | ⟨a, b, h1, h2, h3, h4⟩
  · rw [h2, if_neg (fun h => by cases h), ht]
    rw [ht] at h1
    exact (hdL_no _ h1).symm
  · rw [if_pos h4, bs_app, h3, ← ht, h1, hdL_at a b h2]
theorem begB_split {p f : ByteArray} (h : begB p f = true) : ∃ b, p.data.toList = f.data.toList ++ b ∧ p.data.toList.drop f.size = b := by
  obtain ⟨b, hb⟩ : f.data.toList <+: p.data.toList := of_decide_eq_true h
  refine ⟨b, hb.symm, ?_⟩
  rw [← hb, List.drop_append_of_le_length (by rw [bs_len]; exact Nat.le_refl _), List.drop_of_length_le (by rw [bs_len]; exact Nat.le_refl _), List.nil_append]
theorem nameE_mono {f p q : ByteArray} (hp : begB p f = true) (hq : begB q f = true) (h : p.data.toList < q.data.toList) : ¬ (nameE f q).data.toList < (nameE f p).data.toList := by
  obtain ⟨a, ha, ha'⟩ := begB_split hp
  obtain ⟨b, hb, hb'⟩ := begB_split hq
  rw [nameE_L, nameE_L, ha', hb']
  rw [ha, hb] at h
  exact hdL_mono a b (app_lt _ _ _ h)
/-- A list of texts that rises. -/
def RiseB (us : List ByteArray) : Prop := us.Pairwise fun x y => x.data.toList < y.data.toList
theorem rise_last {ns : List ByteArray} (h : RiseB ns) {x y : ByteArray} (hx : x ∈ ns) (hy : ns.getLast? = some y) : x = y ∨ x.data.toList < y.data.toList := by
  obtain ⟨r, rfl⟩ : ∃ r, ns = r ++ [y] := by
    rcases List.eq_nil_or_concat ns with h0 | ⟨r, z, h0⟩
    · rw [h0] at hy; cases hy
    · rw [h0, List.concat_eq_append, List.getLast?_append] at hy
      simp at hy
      exact ⟨r, by rw [h0, hy, List.concat_eq_append]⟩
  rcases List.mem_append.1 hx with hx | hx
  · exact .inr ((List.pairwise_append.1 h).2.2 x hx y (by simp))
  · exact .inl (by simpa using hx)
theorem names_rise (f : ByteArray) : ∀ (n : Nat) (us : List ByteArray), us.length = n → RiseB us → (∀ p ∈ us, begB p f = true) → RiseB (namesE f us) ∧ (∀ x, x ∈ namesE f us ↔ ∃ p ∈ us, nameE f p = x)
  | 0, us, hn, _, _ => by
    rw [List.length_eq_zero_iff.1 hn]
    exact ⟨List.Pairwise.nil, fun x => ⟨fun h => by simp [namesE] at h, fun ⟨p, hp, _⟩ => by simp at hp⟩⟩
  | n + 1, us, hn, hr, hb => by
    rcases List.eq_nil_or_concat us with h0 | ⟨vs, q, h0⟩
    · rw [h0] at hn; simp at hn
    rw [List.concat_eq_append] at h0
    subst h0
    have hr' := List.pairwise_append.1 hr
    obtain ⟨h1, h2⟩ := names_rise f n vs (by simpa using hn) hr'.1 (fun p hp => hb p (by simp [hp]))
    have hle : ∀ x ∈ namesE f vs, ¬ (nameE f q).data.toList < x.data.toList := fun x hx => by
      obtain ⟨p, hp, rfl⟩ := (h2 x).1 hx
      exact nameE_mono (hb p (by simp [hp])) (hb q (by simp)) (hr'.2.2 p hp q (by simp))
    rw [namesE_snoc]
    unfold putName
    by_cases hl : (namesE f vs).getLast? = some (nameE f q)
    · rw [if_pos hl]
      refine ⟨h1, fun x => ⟨fun hx => ?_, fun ⟨p, hp, he⟩ => ?_⟩⟩
      · obtain ⟨p, hp, he⟩ := (h2 x).1 hx
        exact ⟨p, by simp [hp], he⟩
      · rcases List.mem_append.1 hp with hp | hp
        · exact (h2 x).2 ⟨p, hp, he⟩
        · have : p = q := by simpa using hp
          subst this
          rw [← he]
          exact List.mem_of_getLast? hl
    · rw [if_neg hl]
      refine ⟨List.pairwise_append.2 ⟨h1, List.pairwise_singleton _ _, fun x hx y hy => ?_⟩, fun x => ⟨fun hx => ?_, fun ⟨p, hp, he⟩ => ?_⟩⟩
      · have hy : y = nameE f q := by simpa using hy
        subst hy
        rcases lt_tri x.data.toList (nameE f q).data.toList with h3 | h3 | h3
        · exact h3
        · exfalso
          have hne : namesE f vs ≠ [] := fun e => by rw [e] at hx; simp at hx
          have hy := List.getLast?_eq_some_getLast hne
          generalize (namesE f vs).getLast hne = y at hy
          have hym := List.mem_of_getLast? hy
          rcases rise_last h1 hx hy with h4 | h4
          · exact hl (by rw [hy, ← h4, bs_ext h3])
          · rw [h3] at h4
            exact hle y hym h4
        · exact absurd h3 (hle x hx)
      · rcases List.mem_append.1 hx with hx | hx
        · obtain ⟨p, hp, he⟩ := (h2 x).1 hx
          exact ⟨p, by simp [hp], he⟩
        · have : x = nameE f q := by simpa using hx
          exact ⟨q, by simp, this.symm⟩
      · rcases List.mem_append.1 hp with hp | hp
        · exact List.mem_append_left _ ((h2 x).2 ⟨p, hp, he⟩)
        · have : p = q := by simpa using hp
          subst this
          exact List.mem_append_right _ (by simp [he])
/-- How many stand under a name. -/
def cntE (f : ByteArray) (us : List ByteArray) (x : ByteArray) : Nat := (us.filter fun p => decide (nameE f p = x)).length
theorem sum_add (g h : ByteArray → Nat) : ∀ ns : List ByteArray, (ns.map fun x => g x + h x).sum = (ns.map g).sum + (ns.map h).sum
  | [] => rfl
  | x :: r => by
    have := sum_add g h r
    simp only [List.map_cons, List.sum_cons]; omega
theorem sum_zero (a : ByteArray) : ∀ ns : List ByteArray, a ∉ ns → (ns.map fun x => if a = x then 1 else 0).sum = 0
  | [], _ => rfl
  | x :: r, h => by
    have := sum_zero a r (fun e => h (by simp [e]))
    simp only [List.map_cons, List.sum_cons]
    rw [if_neg (fun e => h (by simp [e])), this]
theorem sum_one (a : ByteArray) : ∀ ns : List ByteArray, RiseB ns → a ∈ ns → (ns.map fun x => if a = x then 1 else 0).sum = 1
  | [], _, h => by simp at h
  | x :: r, hn, h => by
    have hn := List.pairwise_cons.1 hn
    simp only [List.map_cons, List.sum_cons]
    by_cases he : a = x
    · subst he
      rw [if_pos rfl, sum_zero a r (fun e => absurd (hn.1 a e) (List.lt_irrefl _))]
    · rw [if_neg he, sum_one a r hn.2 (by rcases List.mem_cons.1 h with h | h; exact absurd h he; exact h)]
theorem cnt_all (f : ByteArray) {ns : List ByteArray} (hn : RiseB ns) : ∀ us : List ByteArray, (∀ p ∈ us, nameE f p ∈ ns) → (ns.map (cntE f us)).sum = us.length
  | [], h0 => by
    have : ns.map (cntE f []) = ns.map fun _ => 0 := rfl
    rw [this]
    clear this hn h0
    induction ns with
    | nil => rfl
    | cons x r ih => rw [List.map_cons, List.sum_cons, ih]; rfl
  | p :: us, h => by
    have ih := cnt_all f hn us fun q hq => h q (by simp [hq])
    have e : ns.map (cntE f (p :: us)) = ns.map fun x => cntE f us x + if nameE f p = x then 1 else 0 := List.map_congr_left fun x _ => by
      unfold cntE
      rw [List.filter_cons]
      by_cases hx : nameE f p = x
      · rw [if_pos (by simpa using hx), if_pos hx]; rfl
      · rw [if_neg (by simpa using hx), if_neg hx]; rfl
    rw [e, sum_add, ih, sum_one _ ns hn (h p (by simp))]; rfl

/-! ### Paths that are folders' -/
theorem partsL_app : ∀ a b : List UInt8, partsL (a ++ 47 :: b) = partsL a ++ partsL b
  | [], b => by
    show partsL (47 :: b) = [] :: partsL b
    rw [partsL, if_pos rfl]
  | c :: a, b => by
    rw [List.cons_append, partsL, partsL, partsL_app a b]
    split
    · rfl
    · obtain ⟨h, t, e⟩ := List.exists_cons_of_ne_nil (partsL_ne a)
      rw [e]; rfl
theorem clean_parts {p : ByteArray} (h : cleanB p = true) : p.size ≤ 200 ∧ (∀ x ∈ partsL p.data.toList, partOK ⟨x.toArray⟩ = true) ∧ printB p = true := by
  unfold cleanB at h
  rw [Bool.and_eq_true, Bool.and_eq_true] at h
  refine ⟨of_decide_eq_true h.1.1, fun x hx => ?_, h.2⟩
  have := h.1.2
  rw [partsF_L p.size p (Nat.le_refl _), List.all_eq_true] at this
  exact this _ (List.mem_map.2 ⟨x, hx, rfl⟩)
theorem clean_front {p u : ByteArray} {v : List UInt8} (h : cleanB p = true) (he : p.data.toList = u.data.toList ++ 47 :: v) : cleanB u = true := by
  obtain ⟨h1, h2, h3⟩ := clean_parts h
  have hs : p.size = u.size + (v.length + 1) := by rw [← bs_len, he, List.length_append, bs_len]; rfl
  unfold cleanB
  rw [Bool.and_eq_true, Bool.and_eq_true]
  refine ⟨⟨decide_eq_true (by omega), ?_⟩, decide_eq_true fun k hk => ?_⟩
  · rw [partsF_L u.size u (Nat.le_refl _), List.all_eq_true]
    intro x hx
    obtain ⟨y, hy, rfl⟩ := List.mem_map.1 hx
    exact h2 y (by rw [he, partsL_app]; exact List.mem_append_left _ hy)
  · have h3 := (of_decide_eq_true h3 : ∀ k, k < p.size → 32 ≤ byt p k ∧ byt p k ≤ 126) k (by omega)
    have : byt p k = byt u k := by
      unfold byt
      rw [he, List.getElem?_append_left (by rw [bs_len]; exact hk)]
    rwa [this] at h3
theorem clean_ne {p : ByteArray} (h : cleanB p = true) : p.data.toList ≠ [] ∧ ∀ u, p.data.toList ≠ u ++ [47] := by
  obtain ⟨_, h2, _⟩ := clean_parts h
  refine ⟨fun e => ?_, fun u e => ?_⟩
  · have := h2 [] (by rw [e]; simp [partsL])
    revert this; decide
  · have := h2 [] (by rw [e, partsL_slash]; simp)
    revert this; decide
end Go.Proofs.YtmihbbgojkbaeaaDoor

/- The plain laws of folders: what is parsed says the bytes, what has the bytes is parsed, order, lengths. No condition. -/
import Derived.Test.YtmihbbgojkbaeaaDoorTreeS
set_option linter.unusedVariables false
namespace Go.Proofs.YtmihbbgojkbaeaaDoor
open Go Vc HexM TreeM Go.Proofs

theorem modeText_textMode {s : ByteArray} (h : textMode s ≠ 0) : modeText (textMode s) = s := by
  unfold textMode at h ⊢
  split
  · rename_i e; rw [e]; rfl
  · split
    · rename_i e; rw [e]; rfl
    · split
      · rename_i e; rw [e]; rfl
      · split
        · rename_i e; rw [e]; rfl
        · split
          · rename_i e; rw [e]; rfl
          · rename_i h1 h2 h3 h4 h5
            rw [if_neg h1, if_neg h2, if_neg h3, if_neg h4, if_neg h5] at h; exact absurd rfl h
theorem textMode_modeText {m : Int} (h : modeText m ≠ ⟨#[]⟩) : textMode (modeText m) = m ∧ m ≠ 0 := by
  unfold modeText at h ⊢
  split
  · rename_i e; rw [e]; decide +kernel
  · split
    · rename_i e; rw [e]; decide +kernel
    · split
      · rename_i e; rw [e]; decide +kernel
      · split
        · rename_i e; rw [e]; decide +kernel
        · split
          · rename_i e; rw [e]; decide +kernel
          · rename_i h1 h2 h3 h4 h5
            rw [if_neg h1, if_neg h2, if_neg h3, if_neg h4, if_neg h5] at h; exact absurd rfl h
theorem modeText_plain (m : Int) : ∀ c ∈ (modeText m).data.toList, c ≠ 0 ∧ c ≠ 32 := by
  unfold modeText
  repeat' split
  all_goals (intro c hc; revert c; decide +kernel)
/-- A text cut at a byte that it has says its parts. -/
theorem cut_join {s : ByteArray} {c : UInt8} (h : (cutS s c).2.2 = true) : s.data.toList = (cutS s c).1.data.toList ++ c :: (cutS s c).2.1.data.toList := by
  unfold cutS at h ⊢
  rcases fnd_cases s c with ⟨h1, _⟩ | ⟨i, h1, hi, hb, _⟩
  · rw [h1, if_pos rfl] at h; cases h
  · rw [h1, if_neg (by omega), Int.toNat_natCast]
    simp only
    rw [bs_head, bs_tail]
    have hlt : i < s.data.toList.length := by rw [bs_len]; exact hi
    have hc : s.data.toList[i] = c := by
      have := bs_byt hi
      rw [hb] at this
      exact (UInt8.toNat_inj.1 this).symm
    rw [← hc, ← List.drop_eq_getElem_cons hlt, List.take_append_drop]
theorem cut_of {s : ByteArray} {c : UInt8} {a b : List UInt8} (h : s.data.toList = a ++ c :: b) (hn : c ∉ a) : cutS s c = (⟨a.toArray⟩, ⟨b.toArray⟩, true) := by
  have hsz : s.size = a.length + b.length + 1 := by rw [← bs_len, h]; simp; omega
  have hat : Lib.indexByte s.data.toList c = (a.length : Int) := by
    refine fnd_at (by omega) ?_ fun k hk he => hn ?_
    · have := bs_get (s := s) (i := a.length) (by omega)
      rw [h, List.getElem?_append_right (Nat.le_refl _), Nat.sub_self, List.getElem?_cons_zero] at this
      have := Option.some.inj this
      have h2 := congrArg UInt8.toNat this
      rw [toNat_of _ (byt_lt _ _)] at h2
      exact h2.symm
    · have := bs_get (s := s) (i := k) (by omega)
      rw [h, List.getElem?_append_left hk, he, UInt8.ofNat_toNat] at this
      exact List.mem_of_getElem? this
  unfold cutS
  rw [hat, if_neg (by omega), Int.toNat_natCast]
  have e1 : s.extract 0 a.length = ⟨a.toArray⟩ := bs_ext (by rw [bs_head, h, bs_mk, List.take_left])
  have e2 : s.extract (a.length + 1) s.size = ⟨b.toArray⟩ := bs_ext (by rw [bs_tail, h, bs_mk, ← List.drop_drop, List.drop_left]; rfl)
  rw [e1, e2]
theorem parse_len : ∀ (f : Nat) (s : ByteArray) (acc : List Ent), acc.length ≤ 500 → (parseE f s acc).1.length ≤ 500
  | 0, _, _, _ => by simp [parseE]
  | f + 1, s, acc, h => by
    rw [parseE]
    repeat' split
    all_goals first | exact h | exact Nat.zero_le _ | exact parse_len f _ _ (by rw [List.length_append, List.length_singleton]; omega)
/-- What is parsed has the bytes. -/
theorem parse_bytes : ∀ (f : Nat) (s : ByteArray) (acc xs : List Ent), parseE f s acc = (xs, 0) → checkE isGit xs = 0 ∧ bytesE xs = bytesE acc ++ s.data.toList
  | 0, s, acc, xs, h => by simp [parseE] at h
  | f + 1, s, acc, xs, h => by
    rw [parseE] at h
    split at h
    · rename_i hs
      split at h
      · rename_i hc
        simp only [Prod.mk.injEq, and_true] at h
        subst h
        exact ⟨hc, by rw [hs]; simp⟩
      · rename_i hc
        simp only [Prod.mk.injEq] at h
        exact absurd h.2 hc
    · split at h
      · simp at h
      · split at h
        · simp at h
        · split at h
          · simp at h
          · split at h
            · simp at h
            · split at h
              · simp at h
              · rename_i h1 h2 h3 h4 h5 h6
                obtain ⟨k1, k2⟩ := parse_bytes f _ _ xs h
                refine ⟨k1, ?_⟩
                rw [k2]
                have j1 := cut_join (s := s) (c := 0) (by simpa using h2)
                have j2 := cut_join (s := (cutS s 0).1) (c := 32) (by simpa using h4)
                generalize cutS s 0 = cu at *
                obtain ⟨hd, rest, ok⟩ := cu
                simp only at *
                generalize cutS hd 32 = cv at *
                obtain ⟨m, name, ok2⟩ := cv
                simp only at *
                unfold bytesE
                rw [List.flatMap_append, List.append_assoc]
                congr 1
                rw [List.flatMap_cons, List.flatMap_nil, List.append_nil]
                unfold entB
                simp only
                rw [modeText_textMode h5, bs_mk, unhex_hex, Option.getD_some, j1, j2, bs_head, bs_tail]
                simp only [List.append_assoc, List.cons_append, List.nil_append, List.take_append_drop]
theorem entOK_parts {x : Ent} (h : entOK isGit x = true) : modeText x.mode ≠ ⟨#[]⟩ ∧ nameOK isGit x.name = true ∧ ∃ l, unhexL x.id.data.toList = some l ∧ l.length = 20 := by
  unfold entOK isId at h
  simp only [Bool.and_eq_true, decide_eq_true_eq, beq_iff_eq] at h
  obtain ⟨⟨h1, h2⟩, h3, h4⟩ := h
  obtain ⟨l, hl⟩ := Option.isSome_iff_exists.1 h3
  have := unhexL_len _ _ hl
  exact ⟨h1, h2, l, hl, by omega⟩
theorem name_plain {s : ByteArray} (h : nameOK isGit s = true) : (0 : UInt8) ∉ s.data.toList := by
  unfold nameOK slashed at h
  simp only [Bool.and_eq_true, Bool.not_eq_true'] at h
  have := h.2
  intro hm
  rw [List.any_eq_false] at this
  exact this 0 hm (by decide)
/-- One entry's bytes are read as it. -/
theorem parse_step {x : Ent} (hx : entOK isGit x = true) (f : Nat) (s : ByteArray) (r : List UInt8) (hs : s.data.toList = entB x ++ r) (acc : List Ent) :
    parseE (f + 1) s acc = if 500 < acc.length + 1 then ([], 2) else parseE f ⟨r.toArray⟩ (acc ++ [x]) := by
  obtain ⟨h1, h2, l, hl, hl20⟩ := entOK_parts hx
  have hm := modeText_plain x.mode
  have hn := name_plain h2
  have hb : s.data.toList = ((modeText x.mode).data.toList ++ 32 :: x.name.data.toList) ++ 0 :: (l ++ r) := by
    rw [hs, entB, hl, Option.getD_some]; simp
  have hc1 := cut_of hb (by
    intro hm0
    rcases List.mem_append.1 hm0 with h | h
    · exact (hm 0 h).1 rfl
    · rcases List.mem_cons.1 h with h | h
      · cases h
      · exact hn h)
  have hc2 := cut_of (s := ⟨((modeText x.mode).data.toList ++ 32 :: x.name.data.toList).toArray⟩) (c := 32) (a := (modeText x.mode).data.toList) (b := x.name.data.toList) (bs_mk _) (fun h => (hm 32 h).2 rfl)
  have hne : s ≠ ⟨#[]⟩ := by rw [Ne, bs_empty, ← bs_len, hb]; simp
  obtain ⟨t1, t2⟩ := textMode_modeText h1
  rw [parseE, if_neg hne, hc1]
  simp only
  rw [if_neg (by decide), bs_mksize, if_neg (by rw [List.length_append]; omega), hc2]
  simp only
  rw [bs_self, bs_self, t1, if_neg (by decide), if_neg t2]
  have e1 : (⟨(l ++ r).toArray⟩ : ByteArray).extract 20 (l ++ r).length = ⟨r.toArray⟩ := by
    refine bs_ext ?_
    rw [← bs_mksize, bs_tail, bs_mk, bs_mk, ← hl20, List.drop_left]
  have e2 : ((⟨(l ++ r).toArray⟩ : ByteArray).extract 0 20).data.toList = l := by rw [bs_head, bs_mk, ← hl20, List.take_left]
  rw [e1, e2, hex_unhex _ _ hl, bs_self]
/-- Entries in form, one behind the other, are read. -/
theorem parse_all : ∀ (ys acc : List Ent) (f : Nat) (s : ByteArray), s.data.toList = bytesE ys → (∀ x ∈ ys, entOK isGit x = true) → acc.length ≤ 500 → ys.length < f →
    parseE f s acc = if 500 < acc.length + ys.length then ([], 2) else if checkE isGit (acc ++ ys) = 0 then (acc ++ ys, 0) else ([], checkE isGit (acc ++ ys))
  | [], acc, f, s, hs, _, hl, hf => by
    obtain ⟨g, rfl⟩ : ∃ g, f = g + 1 := ⟨f - 1, by omega⟩
    have : s = ⟨#[]⟩ := by rw [bs_empty, ← bs_len, hs]; rfl
    rw [parseE, if_pos this, List.append_nil, if_neg (show ¬ 500 < acc.length + ([] : List Ent).length by simp; omega)]
  | x :: ys, acc, f, s, hs, hok, hl, hf => by
    obtain ⟨g, rfl⟩ : ∃ g, f = g + 1 := ⟨f - 1, by omega⟩
    rw [parse_step (hok x (by simp)) g s (bytesE ys) (by rw [hs]; rfl)]
    split
    · rw [if_pos (by simp only [List.length_cons]; omega)]
    · rw [parse_all ys (acc ++ [x]) g ⟨(bytesE ys).toArray⟩ (bs_mk _) (fun y hy => hok y (by simp [hy])) (by simp; omega) (by simp at hf; omega)]
      simp only [List.append_assoc, List.length_append, List.length_cons, List.length_nil, List.singleton_append]
      rw [show acc.length + (0 + 1) + ys.length = acc.length + (ys.length + 1) by omega]
theorem len_bytes (ys : List Ent) (h : ∀ x ∈ ys, entOK isGit x = true) : ys.length ≤ (bytesE ys).length := by
  induction ys with
  | nil => exact Nat.le_refl _
  | cons x r ih =>
    have := ih fun y hy => h y (by simp [hy])
    unfold bytesE at this ⊢
    rw [List.flatMap_cons, List.length_append, List.length_cons]
    have h1 : 1 ≤ (entB x).length := by unfold entB; simp; omega
    omega
/-- Of entries in form the bytes are read back. -/
theorem parse_back {ys : List Ent} (h : checkE isGit ys = 0) (s : ByteArray) (hs : s.data.toList = bytesE ys) : parseE (s.size + 1) s [] = (ys, 0) := by
  obtain ⟨h1, h2⟩ := check_ok h
  have hok := ok_mem h2
  rw [parse_all ys [] _ s hs hok (Nat.zero_le _) (by have := len_bytes ys hok; rw [← bs_len, hs]; omega), if_neg (by simp only [List.length_nil]; omega), List.nil_append, if_pos h]
/-- In form: each entry is, and they rise. -/
theorem good_pair {xs : List Ent} : good isGit xs = true ↔ (∀ x ∈ xs, entOK isGit x = true) ∧ xs.Pairwise fun y x => y.name ≠ x.name ∧ klt y x = true := by
  constructor
  · intro h
    have h := good_iff.1 h
    refine ⟨ok_mem h, ?_⟩
    rw [List.pairwise_iff_getElem]
    intro i j hi hj hij
    have hb := ok_both (git := isGit) (i := j) (fun k hk => h k (by omega)) hj
    have := (okR_iff (List.getElem?_eq_getElem hj)).1 (hb ▸ h j hj)
    exact this.2 i _ hij (List.getElem?_eq_getElem hi)
  · rintro ⟨h1, h2⟩
    rw [List.pairwise_iff_getElem] at h2
    refine good_iff.2 fun i hi => (okAt_iff (List.getElem?_eq_getElem hi)).2 ⟨h1 _ (List.getElem_mem hi), fun j y hj hy => ?_, fun y h0 hy => ?_⟩
    · have hjl : j < xs.length := by omega
      rw [List.getElem?_eq_getElem hjl] at hy
      cases hy
      exact (h2 j i hjl hi hj).1
    · have hjl : i - 1 < xs.length := by omega
      rw [List.getElem?_eq_getElem hjl] at hy
      cases hy
      exact (h2 (i - 1) i hjl hi (by omega)).2
theorem check_iff {xs : List Ent} : checkE isGit xs = 0 ↔ xs.length ≤ 500 ∧ good isGit xs = true := by
  unfold checkE
  constructor
  · intro h
    split at h
    · cases h
    · split at h
      · rename_i h1 h2; exact ⟨by omega, h2⟩
      · cases h
  · rintro ⟨h1, h2⟩
    rw [if_neg (by omega), if_pos h2]
theorem klt_irrefl (x : Ent) : klt x x = false := by
  unfold klt
  rw [Proofs.bytesLess_eq, decide_eq_false_iff_not]
  exact List.lt_irrefl _
/-- Two that change places are out of order. -/
theorem check_swap {xs : List Ent} (h : checkE isGit xs = 0) {i j : Nat} (hij : i < j) (hj : j < xs.length) (x y : Ent) (hx : xs[i]? = some x) (hy : xs[j]? = some y) : checkE isGit ((xs.set i y).set j x) = 4 := by
  obtain ⟨h1, h2⟩ := check_iff.1 h
  have hp := (good_pair.1 h2).2
  rw [List.pairwise_iff_getElem] at hp
  have hxy := (hp i j (by omega) hj hij).2
  rw [List.getElem?_eq_getElem (by omega)] at hx hy
  cases hx; cases hy
  unfold checkE
  rw [if_neg (by simp only [List.length_set]; omega), if_neg]
  intro hg
  have hq := (good_pair.1 hg).2
  rw [List.pairwise_iff_getElem] at hq
  have h3 := (hq i j (by simp only [List.length_set]; omega) (by simp only [List.length_set]; omega) hij).2
  rw [List.getElem_set_ne (by omega), List.getElem_set_self, List.getElem_set_self] at h3
  have := klt_trans hxy h3
  rw [klt_irrefl] at this; cases this
/-- Without one they are in form. -/
theorem check_less {xs : List Ent} (h : checkE isGit xs = 0) (i : Nat) : checkE isGit (xs.take i ++ xs.drop (i + 1)) = 0 := by
  obtain ⟨h1, h2⟩ := check_iff.1 h
  obtain ⟨h3, h4⟩ := good_pair.1 h2
  have hsub : (xs.take i ++ xs.drop (i + 1)).Sublist xs := by
    have : (xs.take i ++ xs.drop (i + 1)).Sublist (xs.take i ++ xs.drop i) := by
      refine List.Sublist.append (List.Sublist.refl _) ?_
      rw [← List.drop_drop]
      exact List.drop_sublist 1 _
    rwa [List.take_append_drop] at this
  exact check_iff.2 ⟨Nat.le_trans hsub.length_le h1, good_pair.2 ⟨fun x hx => h3 x (hsub.subset hx), h4.sublist hsub⟩⟩
theorem entB_size {x : Ent} (h : entOK isGit x = true) : ((entB x).length : Int) = 6 + x.name.size + 22 - (if x.mode = 16384 then 1 else 0) ∧ x.name.size ≤ 100 := by
  obtain ⟨h1, h2, l, hl, hl20⟩ := entOK_parts h
  have hsz : x.name.size ≤ 100 := by
    unfold nameOK at h2
    simp only [Bool.and_eq_true, decide_eq_true_eq] at h2
    exact h2.1.1.1.1.2
  refine ⟨?_, hsz⟩
  have hm : (modeText x.mode).size = if x.mode = 16384 then 5 else 6 := by
    unfold modeText at h1 ⊢
    split
    · rfl
    · split
      · rfl
      · split
        · rfl
        · split
          · rfl
          · split
            · rfl
            · rename_i g1 g2 g3 g4 g5
              rw [if_neg g1, if_neg g2, if_neg g3, if_neg g4, if_neg g5] at h1; exact absurd rfl h1
  unfold entB
  rw [hl, Option.getD_some]
  simp only [List.length_append, bs_len, List.length_cons, List.length_nil, hm, hl20]
  split <;> omega
end Go.Proofs.YtmihbbgojkbaeaaDoor

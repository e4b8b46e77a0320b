/- Rows of an index as the program has them: which are right, in what order they stand, and as what rows of bytes. No condition. -/
import Derived.Test.YtoagdpjickippaaPkM
import Derived.Test.YtoagdpjickippaaHexM
import Derived.Test.YtoagdpjickippaaCmpL
set_option linter.unusedVariables false
namespace Go.Proofs.Ytoagdpjickippaa
open Go Vc HexM SumM Go.Proofs

abbrev PRow := ByteArray × Int × Int
def encP (r : PRow) : List Value := [.string r.1, .int .i64 r.2.1, .int .u32 r.2.2]
def okRow (r : PRow) : Prop := isId r.1.data.toList = true ∧ 0 ≤ r.2.1 ∧ r.2.1 ≤ 1099511627776
def Fits (r : PRow) : Prop := 0 ≤ r.2.2 ∧ r.2.2 < 4294967296
def CheckP (rs : List PRow) : Prop := (∀ r ∈ rs, okRow r) ∧ rs.Pairwise fun x y => x.1 ≠ y.1
def RiseP (rs : List PRow) : Prop := rs.Pairwise fun x y => x.1.data.toList < y.1.data.toList
def NearP (rs : List PRow) : Prop := rs.Pairwise fun x y => ¬ y.1.data.toList < x.1.data.toList
def insP (r : PRow) : List PRow → List PRow
  | [] => [r]
  | x :: xs => if r.1.data.toList < x.1.data.toList then r :: x :: xs else x :: insP r xs
def sortP (rs : List PRow) : List PRow := rs.foldl (fun o r => insP r o) []
theorem insP_perm (r : PRow) : ∀ xs, (insP r xs).Perm (r :: xs)
  | [] => .refl _
  | x :: xs => by
    rw [insP]
    split
    · exact .refl _
    · exact ((insP_perm r xs).cons x).trans (List.Perm.swap r x xs)
theorem insP_near (r : PRow) : ∀ xs, NearP xs → NearP (insP r xs)
  | [], _ => List.pairwise_singleton _ _
  | x :: xs, h => by
    obtain ⟨h1, h2⟩ := List.pairwise_cons.1 h
    rw [insP]
    by_cases hl : r.1.data.toList < x.1.data.toList
    · rw [if_pos hl]
      refine List.pairwise_cons.2 ⟨fun y hy => ?_, h⟩
      rcases List.mem_cons.1 hy with rfl | hy
      · exact List.lt_asymm hl
      · intro hh
        exact h1 y hy (List.lt_trans hh hl)
    · rw [if_neg hl]
      refine List.pairwise_cons.2 ⟨fun y hy => ?_, insP_near r xs h2⟩
      rcases List.mem_cons.1 ((insP_perm r xs).subset hy) with rfl | hy
      · exact hl
      · exact h1 y hy
theorem fold_ins : ∀ (rs o : List PRow), NearP o → (rs.foldl (fun o r => insP r o) o).Perm (o ++ rs) ∧ NearP (rs.foldl (fun o r => insP r o) o)
  | [], o, h => ⟨by simp, h⟩
  | r :: rs, o, h => by
    obtain ⟨h1, h2⟩ := fold_ins rs (insP r o) (insP_near r o h)
    refine ⟨h1.trans ?_, h2⟩
    refine ((insP_perm r o).append_right rs).trans ?_
    rw [List.cons_append]
    exact List.perm_middle.symm
theorem sortP_perm (rs : List PRow) : (sortP rs).Perm rs := by simpa [sortP] using (fold_ins rs [] List.Pairwise.nil).1
theorem sortP_near (rs : List PRow) : NearP (sortP rs) := (fold_ins rs [] List.Pairwise.nil).2
theorem near_rise {rs : List PRow} (h : NearP rs) (hd : rs.Pairwise fun x y => x.1 ≠ y.1) : RiseP rs := by
  refine (h.and hd).imp fun {x y} hh => ?_
  obtain ⟨h1, h2⟩ := hh
  rcases lt_tri x.1.data.toList y.1.data.toList with h3 | h3 | h3
  · exact h3
  · exact absurd (bs_ext h3) h2
  · exact absurd h3 h1
theorem riseP_eq {a b : List PRow} (h1 : RiseP a) (h2 : RiseP b) (hp : a.Perm b) : a = b := by
  refine List.Perm.eq_of_pairwise (le := fun x y : PRow => x.1.data.toList < y.1.data.toList) ?_ h1 h2 hp
  intro x y _ _ h3 h4
  exact absurd (List.lt_trans h3 h4) (List.lt_irrefl _)
theorem pw_perm {a b : List PRow} (hp : a.Perm b) (h : a.Pairwise fun x y => x.1 ≠ y.1) : b.Pairwise fun x y => x.1 ≠ y.1 := hp.pairwise h fun h e => h e.symm
theorem checkP_perm {a b : List PRow} (hp : a.Perm b) (h : CheckP a) : CheckP b := ⟨fun r hr => h.1 r (hp.symm.subset hr), pw_perm hp h.2⟩
/-- Neighbours alone are looked at. -/
theorem adj_rise {ys : List PRow} (h : NearP ys) (ha : ∀ i x y, ys[i]? = some x → ys[i + 1]? = some y → x.1 ≠ y.1) : RiseP ys := by
  have key : ∀ d i : Nat, ∀ x y, ys[i]? = some x → ys[i + d + 1]? = some y → x.1.data.toList < y.1.data.toList := by
    intro d
    induction d with
    | zero =>
      intro i x y hx hy
      have h1 := (List.pairwise_iff_getElem.1 h) i (i + 1) (List.getElem?_eq_some_iff.1 hx).1 (List.getElem?_eq_some_iff.1 hy).1 (by omega)
      rw [(List.getElem?_eq_some_iff.1 hx).2, show ys[i + 1]'((List.getElem?_eq_some_iff.1 hy).1) = y from (List.getElem?_eq_some_iff.1 hy).2] at h1
      rcases lt_tri x.1.data.toList y.1.data.toList with h3 | h3 | h3
      · exact h3
      · exact absurd (bs_ext h3) (ha i x y hx hy)
      · exact absurd h3 h1
    | succ d ih =>
      intro i x y hx hy
      have hl := (List.getElem?_eq_some_iff.1 hy).1
      obtain ⟨z, hz⟩ : ∃ z, ys[i + d + 1]? = some z := ⟨_, List.getElem?_eq_getElem (by omega)⟩
      have h1 := ih i x z hx hz
      have hy' : ys[(i + d + 1) + 1]? = some y := hy
      have h2 := (List.pairwise_iff_getElem.1 h) (i + d + 1) (i + d + 1 + 1) (by omega) (by omega) (by omega)
      rw [(List.getElem?_eq_some_iff.1 hz).2, (List.getElem?_eq_some_iff.1 hy').2] at h2
      rcases lt_tri z.1.data.toList y.1.data.toList with h3 | h3 | h3
      · exact List.lt_trans h1 h3
      · rw [← h3]; exact h1
      · exact absurd h3 h2
  unfold RiseP
  rw [List.pairwise_iff_getElem]
  intro i j hi hj hij
  exact key (j - i - 1) i ys[i] ys[j] (List.getElem?_eq_getElem hi) (by rw [show i + (j - i - 1) + 1 = j by omega]; exact List.getElem?_eq_getElem hj)
theorem rise_dist {ys : List PRow} (h : RiseP ys) : ys.Pairwise fun x y => x.1 ≠ y.1 := h.imp fun h e => by rw [e] at h; exact List.lt_irrefl _ h
/-! ### As rows of bytes -/
theorem hx_mono {a b : Nat} (ha : a < 16) (hb : b < 16) : UInt8.ofNat (hx a) < UInt8.ofNat (hx b) ↔ a < b := by
  rw [UInt8.lt_iff_toNat_lt]
  have h1 := hx_lt ha
  have h2 := hx_lt hb
  rw [toNat_of _ h1, toNat_of _ h2]
  unfold hx
  split <;> split <;> omega
theorem hx_inj {a b : Nat} (ha : a < 16) (hb : b < 16) (h : UInt8.ofNat (hx a) = UInt8.ofNat (hx b)) : a = b := by
  rcases Nat.lt_trichotomy a b with h1 | h1 | h1
  · have := (hx_mono ha hb).2 h1
    rw [h] at this
    rw [UInt8.lt_iff_toNat_lt] at this; omega
  · exact h1
  · have := (hx_mono hb ha).2 h1
    rw [h] at this
    rw [UInt8.lt_iff_toNat_lt] at this; omega
theorem hexL_lt : ∀ a b : List UInt8, hexL a < hexL b ↔ a < b
  | [], [] => by simp [hexL]
  | [], y :: b => by
    refine ⟨fun _ => List.nil_lt_cons y b, fun _ => ?_⟩
    show ([] : List UInt8) < _ :: _
    exact List.nil_lt_cons _ _
  | x :: a, [] => by
    refine ⟨fun h => ?_, fun h => absurd h (List.not_lt_nil _)⟩
    exact absurd h (List.not_lt_nil _)
  | x :: a, y :: b => by
    have h1 : hexL (x :: a) = UInt8.ofNat (hx (x.toNat / 16)) :: UInt8.ofNat (hx (x.toNat % 16)) :: hexL a := rfl
    have h2 : hexL (y :: b) = UInt8.ofNat (hx (y.toNat / 16)) :: UInt8.ofNat (hx (y.toNat % 16)) :: hexL b := rfl
    have hx1 := x.toNat_lt
    have hy1 := y.toNat_lt
    rw [h1, h2, List.cons_lt_cons_iff, List.cons_lt_cons_iff, List.cons_lt_cons_iff, hexL_lt a b, hx_mono (by omega) (by omega), hx_mono (by omega) (by omega), UInt8.lt_iff_toNat_lt]
    constructor
    · rintro (h | ⟨h3, h | ⟨h4, h⟩⟩)
      · exact .inl (by omega)
      · have := hx_inj (by omega) (by omega) h3
        exact .inl (by omega)
      · have e1 := hx_inj (by omega) (by omega) h3
        have e2 := hx_inj (by omega) (by omega) h4
        exact .inr ⟨UInt8.toNat_inj.1 (by omega), h⟩
    · rintro (h | ⟨rfl, h⟩)
      · by_cases h5 : x.toNat / 16 < y.toNat / 16
        · exact .inl h5
        · have h6 : x.toNat / 16 = y.toNat / 16 := by omega
          exact .inr ⟨by rw [h6], .inl (by omega)⟩
      · exact .inr ⟨rfl, .inr ⟨rfl, h⟩⟩
def rawB (s : ByteArray) : List UInt8 := (unhexL s.data.toList).getD []
def rawOf (r : PRow) : PkM.Rw := (rawB r.1, r.2.1.toNat, r.2.2.toNat)
def ofRaw (x : PkM.Rw) : PRow := (⟨(hexL x.1).toArray⟩, (x.2.1 : Int), (x.2.2 : Int))
theorem rawB_id {s : ByteArray} (h : isId s.data.toList = true) : unhexL s.data.toList = some (rawB s) ∧ (rawB s).length = 20 ∧ hexL (rawB s) = s.data.toList := by
  unfold isId at h
  rw [Bool.and_eq_true] at h
  obtain ⟨r, hr⟩ := Option.isSome_iff_exists.1 h.1
  have h40 : s.data.toList.length = 40 := eq_of_beq h.2
  have hl := unhexL_len _ _ hr
  have e : rawB s = r := by unfold rawB; rw [hr]; rfl
  rw [e]
  exact ⟨hr, by omega, hex_unhex _ _ hr⟩
theorem of_raw {r : PRow} (h : okRow r) (hf : Fits r) : ofRaw (rawOf r) = r := by
  obtain ⟨h1, h2, h3⟩ := rawB_id h.1
  obtain ⟨a, b, c⟩ := r
  unfold ofRaw rawOf
  have e1 : (⟨(hexL (rawB a)).toArray⟩ : ByteArray) = a := bs_ext (by rw [bs_mk]; exact h3)
  have e2 : ((b.toNat : Nat) : Int) = b := Int.toNat_of_nonneg h.2.1
  have e3 : ((c.toNat : Nat) : Int) = c := Int.toNat_of_nonneg hf.1
  simp only
  rw [e1, e2, e3]
theorem raw_good {ys : List PRow} (h : CheckP ys) (hr : RiseP ys) (hf : ∀ r ∈ ys, Fits r) (hl : ys.length ≤ 1000) : PkM.Good (ys.map rawOf) where
  raw r hm := by
    obtain ⟨y, hy, rfl⟩ := List.mem_map.1 hm
    exact (rawB_id (h.1 y hy).1).2.1
  place r hm := by
    obtain ⟨y, hy, rfl⟩ := List.mem_map.1 hm
    have := (h.1 y hy).2
    show y.2.1.toNat ≤ _
    omega
  crc r hm := by
    obtain ⟨y, hy, rfl⟩ := List.mem_map.1 hm
    have := hf y hy
    show y.2.2.toNat < _
    unfold Fits at this; omega
  rise := by
    rw [List.pairwise_map]
    refine List.Pairwise.imp_of_mem (fun {x y} hx hy hlt => ?_) hr
    show rawB x.1 < rawB y.1
    rw [← hexL_lt, (rawB_id (h.1 x hx).1).2.2, (rawB_id (h.1 y hy).1).2.2]
    exact hlt
  few := by rw [List.length_map]; exact hl
theorem raw_back {ys : List PRow} (h : CheckP ys) (hf : ∀ r ∈ ys, Fits r) : (ys.map rawOf).map ofRaw = ys := by
  rw [List.map_map]
  exact (List.map_congr_left fun r hr => of_raw (h.1 r hr) (hf r hr)).trans (List.map_id _)
theorem of_rise {l : List PkM.Rw} (h : l.Pairwise fun x y => x.1 < y.1) : RiseP (l.map ofRaw) := by
  unfold RiseP
  rw [List.pairwise_map]
  refine h.imp fun {x y} hlt => ?_
  show (⟨(hexL x.1).toArray⟩ : ByteArray).data.toList < (⟨(hexL y.1).toArray⟩ : ByteArray).data.toList
  rw [bs_mk, bs_mk, hexL_lt]; exact hlt
end Go.Proofs.Ytoagdpjickippaa
namespace PkM
open SumM
/-- What is told of an index that is read: the names rise. -/
theorem rows_rise {L : List UInt8} {n : Nat} : ∀ (k i : Nat) (rs : List Rw), rowsE L n i k = .ok rs → rs.length = k ∧ ∀ j r, rs[j]? = some r → stepE L n (i + j) = .ok r
  | 0, i, rs, h => by
    rw [rowsE] at h; cases h
    exact ⟨rfl, fun j r hr => by simp at hr⟩
  | k + 1, i, rs, h => by
    rw [rowsE] at h
    cases hs : stepE L n i with
    | error e => rw [hs] at h; cases h
    | ok r =>
      rw [hs] at h
      simp only at h
      cases hr : rowsE L n (i + 1) k with
      | error e => rw [hr] at h; cases h
      | ok rs' =>
        rw [hr] at h
        simp only at h
        cases h
        obtain ⟨h1, h2⟩ := rows_rise k (i + 1) rs' hr
        refine ⟨by rw [List.length_cons, h1], fun j x hx => ?_⟩
        cases j with
        | zero => simp only [List.getElem?_cons_zero, Option.some.injEq] at hx; subst hx; exact hs
        | succ j =>
          rw [List.getElem?_cons_succ] at hx
          have := h2 j x hx
          rwa [show i + 1 + j = i + (j + 1) by omega] at this
theorem step_ok {L : List UInt8} {n i : Nat} {r : Rw} (h : stepE L n i = .ok r) : r.1 = sl L (1032 + 20 * i) 20 ∧ (0 < i → sl L (1032 + 20 * (i - 1)) 20 < r.1) ∧ r.2.1 ≤ 1099511627776 ∧ r.2.2 = num8 (sl L (1032 + 20 * n + 4 * i) 4) := by
  unfold stepE at h
  split at h
  · cases h
  rename_i h1
  split at h
  · cases h
  split at h
  · cases h
  split at h
  · cases h
  · rename_i a _
    split at h
    · cases h
    · rename_i ha
      cases h
      refine ⟨rfl, fun h0 => ?_, by simp only; omega, rfl⟩
      refine Classical.byContradiction fun hn => h1 ⟨h0, ?_⟩
      rw [show 1032 + 20 * i - 20 = 1032 + 20 * (i - 1) by omega]
      exact hn
theorem rows_sorted {L : List UInt8} {n : Nat} {rs : List Rw} (h : rowsE L n 0 n = .ok rs) (hL : 1072 + 28 * n ≤ L.length) : rs.length = n ∧ (∀ r ∈ rs, r.1.length = 20 ∧ r.2.1 ≤ 1099511627776 ∧ r.2.2 < 4294967296) ∧ rs.Pairwise fun x y => x.1 < y.1 := by
  obtain ⟨h1, h2⟩ := rows_rise n 0 rs h
  have h3 : ∀ j r, rs[j]? = some r → stepE L n j = .ok r := fun j r hr => by have := h2 j r hr; rwa [Nat.zero_add] at this
  refine ⟨h1, fun r hr => ?_, ?_⟩
  · obtain ⟨j, hj⟩ := List.mem_iff_getElem?.1 hr
    have hjl := (List.getElem?_eq_some_iff.1 hj).1
    obtain ⟨a, _, c, d⟩ := step_ok (h3 j r hj)
    refine ⟨by rw [a]; exact sl_len (by omega), c, ?_⟩
    rw [d]
    exact num8_lt 4 _ (sl_len (by omega))
  · have key : ∀ d i : Nat, ∀ x y, rs[i]? = some x → rs[i + d + 1]? = some y → x.1 < y.1 := by
      intro d
      induction d with
      | zero =>
        intro i x y hx hy
        obtain ⟨a, _⟩ := step_ok (h3 i x hx)
        obtain ⟨_, b, _⟩ := step_ok (h3 _ y hy)
        have := b (by omega)
        rw [show i + 0 + 1 - 1 = i by omega] at this
        rw [a]; exact this
      | succ d ih =>
        intro i x y hx hy
        have hl := (List.getElem?_eq_some_iff.1 hy).1
        obtain ⟨z, hz⟩ : ∃ z, rs[i + d + 1]? = some z := ⟨_, List.getElem?_eq_getElem (by omega)⟩
        obtain ⟨a, _⟩ := step_ok (h3 _ z hz)
        obtain ⟨_, b, _⟩ := step_ok (h3 _ y hy)
        have := b (by omega)
        rw [show i + (d + 1) + 1 - 1 = i + d + 1 by omega, ← a] at this
        exact List.lt_trans (ih i x z hx hz) this
    rw [List.pairwise_iff_getElem]
    intro i j hi hj hij
    exact key (j - i - 1) i rs[i] rs[j] (List.getElem?_eq_getElem hi) (by rw [show i + (j - i - 1) + 1 = j by omega]; exact List.getElem?_eq_getElem hj)
end PkM

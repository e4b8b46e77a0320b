/- Lists of texts that rise; slices.Sort and slices.Compact of texts. Conditions: as named. -/
import Derived.Test.YtmhlmdnhpfhoeaaGreatDoorSnapP
import Derived.Test.YtmhlmdnhpfhoeaaGreatDoorLaysT
import Derived.Shelf.Sort.Plain
import Derived.Shelf.Slices.In.SortNone
import Derived.Shelf.Slices.CompactS
set_option linter.unusedVariables false
namespace Go.Proofs.YtmhlmdnhpfhoeaaGreatDoor
open Go Vc Go.Proofs

/-- A list of texts that rises. -/
def RiseB (us : List ByteArray) : Prop := us.Pairwise fun x y => x.data.toList < y.data.toList
theorem rise_last {ns : List ByteArray} (h : RiseB ns) {x y : ByteArray} (hx : x ∈ ns) (hy : ns.getLast? = some y) : x = y ∨ x.data.toList < y.data.toList := by
  obtain ⟨r, rfl⟩ : ∃ r, ns = r ++ [y] := by
    rcases List.eq_nil_or_concat ns with h0 | ⟨r, z, h0⟩
    · rw [h0] at hy; cases hy
    · rw [h0, List.concat_eq_append, List.getLast?_append] at hy
      simp at hy
      exact ⟨r, by rw [h0, hy, List.concat_eq_append]⟩
  rcases List.mem_append.1 hx with hx | hx
  · exact .inr ((List.pairwise_append.1 h).2.2 x hx y (by simp))
  · exact .inl (by simpa using hx)
def putR (s : ByteArray) : Bool → List ByteArray → List ByteArray
  | d, [] => if d = true then [] else [s]
  | d, x :: r => if d = false ∧ x ≠ s ∧ s.data.toList < x.data.toList then s :: x :: putR s true r else x :: putR s (d || decide (x = s)) r
theorem putR_true (s : ByteArray) : ∀ r, putR s true r = r
  | [] => rfl
  | x :: r => by
    rw [putR, if_neg (fun h => by cases h.1), Bool.true_or, putR_true s r]
theorem putR_len (s : ByteArray) : ∀ d r, (putR s d r).length ≤ r.length + 1
  | d, [] => by
    rw [putR]
    split <;> simp
  | d, x :: r => by
    rw [putR]
    split
    · rw [putR_true]; simp
    · have := putR_len s (d || decide (x = s)) r
      simp only [List.length_cons]; omega
theorem putR_rise (s : ByteArray) : ∀ xs : List ByteArray, RiseB xs → RiseB (putR s false xs) ∧ ∀ p, p ∈ putR s false xs ↔ p = s ∨ p ∈ xs
  | [], _ => by
    rw [putR, if_neg (by decide)]
    exact ⟨List.pairwise_singleton _ _, fun p => by simp⟩
  | x :: r, h => by
    obtain ⟨h1, h2⟩ := List.pairwise_cons.1 h
    rw [putR]
    by_cases hx : x = s
    · rw [if_neg (fun h => h.2.1 hx), show (false || decide (x = s)) = true by simp [hx], putR_true]
      exact ⟨h, fun p => by rw [← hx]; simp⟩
    · rw [show (false || decide (x = s)) = false by simp [hx]]
      by_cases hl : s.data.toList < x.data.toList
      · rw [if_pos ⟨rfl, hx, hl⟩, putR_true]
        refine ⟨List.pairwise_cons.2 ⟨fun y hy => ?_, h⟩, fun p => by simp⟩
        rcases List.mem_cons.1 hy with rfl | hy
        · exact hl
        · exact List.lt_trans hl (h1 y hy)
      · rw [if_neg (fun h => hl h.2.2)]
        obtain ⟨h3, h4⟩ := putR_rise s r h2
        have hxs : x.data.toList < s.data.toList := by
          rcases lt_tri x.data.toList s.data.toList with h | h | h
          · exact h
          · exact absurd (bs_ext h) hx
          · exact absurd h hl
        refine ⟨List.pairwise_cons.2 ⟨fun y hy => ?_, h3⟩, fun p => ?_⟩
        · rcases (h4 y).1 hy with rfl | hy
          · exact hxs
          · exact h1 y hy
        · rw [List.mem_cons, h4, List.mem_cons]
          constructor
          · rintro (h | h | h)
            · exact .inr (.inl h)
            · exact .inl h
            · exact .inr (.inr h)
          · rintro (h | h | h)
            · exact .inr (.inl h)
            · exact .inl h
            · exact .inr (.inr h)
theorem rise_eq {a b : List ByteArray} (h1 : RiseB a) (h2 : RiseB b) (h : ∀ p, p ∈ a ↔ p ∈ b) : a = b := by
  have hp : a.Perm b := by
    have n1 : a.Nodup := h1.imp fun h e => by rw [e] at h; exact List.lt_irrefl _ h
    have n2 : b.Nodup := h2.imp fun h e => by rw [e] at h; exact List.lt_irrefl _ h
    exact (List.perm_ext_iff_of_nodup n1 n2).2 h
  refine List.Perm.eq_of_pairwise (le := fun x y : ByteArray => x.data.toList < y.data.toList) ?_ h1 h2 hp
  intro x y _ _ h3 h4
  exact absurd (List.lt_trans h3 h4) (List.lt_irrefl _)
theorem under_mem {ys : List FileE} {f p : ByteArray} (h : p ∈ underE ys f) : begB p f = true ∧ ∃ y ∈ ys, y.path = p := by
  unfold underE at h
  obtain ⟨y, hy, rfl⟩ := List.mem_map.1 h
  exact ⟨(List.mem_filter.1 hy).2, y, (List.mem_filter.1 hy).1, rfl⟩
/-- What 'Under' gathers. -/
def rUnder (front : ByteArray) (xs : List FileE) : List ByteArray := xs.foldl (fun o x => if begB x.path front = true then putR x.path false o else o) []
theorem rUnder_snoc (front : ByteArray) (xs : List FileE) (x : FileE) : rUnder front (xs ++ [x]) = if begB x.path front = true then putR x.path false (rUnder front xs) else rUnder front xs := by
  unfold rUnder; rw [List.foldl_append]; rfl
theorem rUnder_rise (front : ByteArray) : ∀ (n : Nat) (xs : List FileE), xs.length = n → (rUnder front xs).length ≤ n ∧ RiseB (rUnder front xs) ∧ ∀ p, p ∈ rUnder front xs ↔ ∃ x ∈ xs, x.path = p ∧ begB p front = true
  | 0, xs, h => by
    rw [List.length_eq_zero_iff.1 h]
    exact ⟨Nat.le_refl _, List.Pairwise.nil, fun p => ⟨fun h => by simp [rUnder] at h, fun ⟨x, hx, _⟩ => by simp at hx⟩⟩
  | n + 1, xs, h => by
    rcases List.eq_nil_or_concat xs with h0 | ⟨vs, q, h0⟩
    · rw [h0] at h; simp at h
    rw [List.concat_eq_append] at h0
    subst h0
    obtain ⟨h0, h1, h2⟩ := rUnder_rise front n vs (by simpa using h)
    rw [rUnder_snoc]
    by_cases hq : begB q.path front = true
    · rw [if_pos hq]
      obtain ⟨h3, h4⟩ := putR_rise q.path _ h1
      have := putR_len q.path false (rUnder front vs)
      refine ⟨by omega, h3, fun p => ?_⟩
      rw [h4, h2]
      constructor
      · rintro (rfl | ⟨x, hx, h5⟩)
        · exact ⟨q, by simp, rfl, hq⟩
        · exact ⟨x, by simp [hx], h5⟩
      · rintro ⟨x, hx, h5, h6⟩
        rcases List.mem_append.1 hx with hx | hx
        · exact .inr ⟨x, hx, h5, h6⟩
        · have : x = q := by simpa using hx
          subst this
          exact .inl h5.symm
    · rw [if_neg hq]
      refine ⟨by omega, h1, fun p => ?_⟩
      rw [h2]
      constructor
      · rintro ⟨x, hx, h5⟩
        exact ⟨x, by simp [hx], h5⟩
      · rintro ⟨x, hx, h5, h6⟩
        rcases List.mem_append.1 hx with hx | hx
        · exact ⟨x, hx, h5, h6⟩
        · have : x = q := by simpa using hx
          subst this
          rw [h5] at hq; exact absurd h6 hq
theorem rUnder_under {xs ys : List FileE} (hp : ys.Perm xs) (hst : ys.Pairwise fun x y => x.path.data.toList < y.path.data.toList) (front : ByteArray) : rUnder front xs = underE ys front := by
  obtain ⟨_, h1, h2⟩ := rUnder_rise front _ xs rfl
  refine rise_eq h1 (under_pair hst front) fun p => ?_
  rw [h2]
  constructor
  · rintro ⟨x, hx, h5, h6⟩
    unfold underE
    exact List.mem_map.2 ⟨x, List.mem_filter.2 ⟨hp.symm.subset hx, by rw [h5]; exact h6⟩, h5⟩
  · intro h
    obtain ⟨h3, y, hy, h4⟩ := under_mem h
    exact ⟨y, hp.subset hy, h4, h3⟩
theorem own_lit (w : World) (t : TypeId) : Vc.Own (w.alloc (.cells #[] t)) w.heap.size t ⟨some ⟨w.heap.size, 0, none⟩, 0, 0⟩ [] :=
  ⟨rfl, .inr ⟨w.heap.size, _, rfl, Nat.le_refl _, alloc_new w _, Nat.le_refl _, Nat.zero_le _, rfl, rfl⟩⟩
theorem grow_str {w0 w12 : World} {l : Sl} {out : List ByteArray} (x : ByteArray) (hs : out.length ≤ 1000003) (ho : Vc.Own w12 w0.heap.size T_string l (strV out)) (hf : Fr (fun _ => False) w0 w12) {w13 : World} (h13 : w13 = w12.alloc (.cells #[.string x] 9)) :
    ∃ (w14 : World) (l15 : Sl), (Builtin.append_ #[37, 37] 37 #[.slice l.a l.len l.cap, .slice (some ⟨w12.heap.size, 0, none⟩) 1 1]).run Tryz.prog w13 = .ok (.slice l15.a l15.len l15.cap) w14 ∧ Vc.Own w14 w0.heap.size T_string l15 (strV (out ++ [x])) ∧ Fr (fun _ => False) w0 w14 := by
  obtain ⟨w14, l15, hr14, ho14, hf14, _⟩ := append_one' elString ho (v := .string x) rfl (by simp only [strV, List.length_map, maxLen]; omega) (by simp only [strV, List.length_map]; omega) hf.size h13
  refine ⟨w14, l15, hr14, by simpa [strV] using ho14, hf.trans hf14 fun q hq ⟨z, hz, e⟩ => ?_⟩
  have := (ho.blk hz).1; omega
end Go.Proofs.YtmhlmdnhpfhoeaaGreatDoor
namespace Go.Proofs.YtmhlmdnhpfhoeaaGreatDoor
open Go Vc Go.Proofs Go.Sort Go.Lib

theorem own_blk {w : World} {base : Nat} {e : TypeId} {l : Sl} {xs : List Value} {g : Nat} (h : Vc.Own w base e l xs) (ha : l.a = some ⟨g, 0, none⟩) : ∃ cur, w.heap[g]? = some (.cells cur e (0, 0)) ∧ base ≤ g ∧ l.len ≤ l.cap ∧ l.cap ≤ maxLen ∧ cur.size = l.cap ∧ cur.toList.take l.len = xs := by
  rcases h.2 with ⟨hn, _⟩ | ⟨g', cur, hv, hb, hg, hl, hm, hs, ht⟩
  · rw [ha] at hn; cases hn
  · rw [ha] at hv; cases hv
    exact ⟨cur, hg, hb, hl, hm, hs, ht⟩
theorem own_holdsS {w : World} {base : Nat} {e : TypeId} {l : Sl} {xs : List ByteArray} {g : Nat} (h : Vc.Own w base e l (strV xs)) (ha : l.a = some ⟨g, 0, none⟩) : Holds encStr w g 0 (xs.map (·.data.toList)).toArray := fun j hj => by
  obtain ⟨cur, hg, _, hl, _, hs, ht⟩ := own_blk h ha
  have hlen := h.1
  simp only [strV, List.length_map] at hlen
  simp only [List.size_toArray, List.length_map] at hj
  refine ⟨?_, by rw [Nat.zero_add]; exact frozen_blk hg j⟩
  rw [Nat.zero_add, cell_blk hg]
  have h1 : (cur.toList.take l.len)[j]? = (strV xs)[j]? := by rw [ht]
  rw [List.getElem?_take, if_pos (by omega)] at h1
  rw [← Array.getElem?_toList, h1]
  have h2 : xs[j]? = some xs[j] := List.getElem?_eq_getElem hj
  simp only [strV, List.getElem?_map, h2, Option.map_some]
  rw [getElem!_pos _ j (by simpa using hj)]
  simp
theorem put_row {w : World} {g : Nat} {cur : Array Value} {e : TypeId} {fz : Nat × Nat} (hg : w.heap[g]? = some (.cells cur e fz)) (q : Nat) (d : Array (List UInt8)) :
    (putRow encStr (Sort.ahead w q) g 0 d).heap[g]? = some (.cells (putCells encStr 0 d cur) e fz) := by
  simp only [putRow, mapBlock, Sort.ahead, Array.getElem?_modify, if_true, hg]
  rfl
theorem put_fr {w : World} {g q : Nat} (d : Array (List UInt8)) : Fr (· = g) w (putRow encStr (Sort.ahead w q) g 0 d) :=
  ⟨rfl, rfl, rfl, by simp [putRow, mapBlock, Sort.ahead], fun k hk hne => by
    simp only [putRow, mapBlock, Sort.ahead, Array.getElem?_modify]
    rw [if_neg (fun e => hne e.symm)]⟩
theorem put_take (us : List (List UInt8)) (cur : Array Value) (n : Nat) (hn : n ≤ us.length) (hc : us.length ≤ cur.size) : (putCells encStr 0 us.toArray cur).toList.take n = (us.take n).map fun u => .string ⟨u.toArray⟩ := by
  apply List.ext_getElem?
  intro j
  rw [List.getElem?_take, List.getElem?_map, List.getElem?_take]
  by_cases hj : j < n
  · rw [if_pos hj, if_pos hj]
    simp only [putCells, Array.getElem?_toList, Array.getElem?_mapIdx]
    rw [Array.getElem?_eq_getElem (by omega)]
    simp only [Option.map_some, Nat.zero_le, true_and, Nat.zero_add, List.size_toArray, Nat.sub_zero]
    rw [if_pos (by omega), List.getElem?_eq_getElem (by omega), getElem!_pos _ j (by simp; omega)]
    simp [encStr]
  · rw [if_neg hj, if_neg hj]; rfl
theorem back (us : List (List UInt8)) : (us.map fun u => (⟨u.toArray⟩ : ByteArray)).map (·.data.toList) = us := by
  rw [List.map_map]
  exact (List.map_congr_left fun u _ => bs_mk u).trans (List.map_id _)
/-- Rises, equal neighbours allowed. -/
def NearB (us : List ByteArray) : Prop := us.Pairwise fun x y => ¬ y.data.toList < x.data.toList
theorem sortS_spec {w : World} {base : Nat} {l : Sl} {xs : List ByteArray} (h : Vc.Own w base T_string l (strV xs)) (hsz : xs.length ≤ 1000000) :
    Calls Tryz.prog 43 #[.slice l.a l.len l.cap] w fun r w' => r = .returned (.tuple #[]) ∧ ∃ ys : List ByteArray, ys.Perm xs ∧ NearB ys ∧ Vc.Own w' base T_string l (strV ys) ∧ Fr (At l) w w' := by
  have hlen := h.1
  simp only [strV, List.length_map] at hlen
  rcases h.2 with ⟨hn, h0, hc⟩ | ⟨g, cur, ha, hb, hg, hl, hm, hs, ht⟩
  · have hx : xs = [] := List.length_eq_zero_iff.1 (by omega)
    subst hx
    rw [hn, h0, hc]
    refine (Any.slices_Sort_string_none lays190 none 0 w).mono ?_
    rintro r w' ⟨rfl, rfl⟩
    exact ⟨rfl, [], List.Perm.refl _, List.Pairwise.nil, h, .refl _ _⟩
  · have hsort := Any.slices_Sort_string lays190 g 0 l.cap (xs.map (·.data.toList)) w (own_holdsS h ha) (lt_blk hg) (by rw [List.length_map]; omega)
    rw [List.length_map] at hsort
    rw [ha, ← hlen]
    refine hsort.mono ?_
    rintro r w' ⟨rfl, n, os, rfl⟩
    obtain ⟨us, hus⟩ : ∃ us, (xs.map (·.data.toList)).mergeSort (fun x y => decide (x ≤ y)) = us := ⟨_, rfl⟩
    have hperm : us.Perm (xs.map (·.data.toList)) := by rw [← hus]; exact List.mergeSort_perm _ _
    have hpw : us.Pairwise fun x y => ¬ y < x := by
      have := List.pairwise_mergeSort (le := fun x y : List UInt8 => decide (x ≤ y)) (fun a b c h1 h2 => by
        rw [decide_eq_true_eq] at *; exact List.le_trans h1 h2) (fun a b => by
        rw [Bool.or_eq_true, decide_eq_true_eq, decide_eq_true_eq]; exact List.le_total a b) (xs.map (·.data.toList))
      rw [hus] at this
      exact this.imp fun h => by rw [decide_eq_true_eq] at h; exact List.not_lt.2 h
    rw [hus]
    clear hus hsort
    have hul : us.length = xs.length := by rw [hperm.length_eq, List.length_map]
    refine ⟨rfl, us.map fun u => ⟨u.toArray⟩, ?_, ?_, ⟨by simp [strV]; omega, .inr ⟨g, putCells encStr 0 us.toArray cur, ha, hb, ?_, hl, hm, ?_, ?_⟩⟩, ?_⟩
    · have := hperm.map fun u => (⟨u.toArray⟩ : ByteArray)
      rw [List.map_map] at this
      have e : xs.map ((fun u => (⟨u.toArray⟩ : ByteArray)) ∘ fun x => x.data.toList) = xs := (List.map_congr_left fun x _ => bs_self x).trans (List.map_id _)
      rwa [e] at this
    · unfold NearB
      rw [List.pairwise_map]
      exact hpw.imp fun h => by rw [bs_mk, bs_mk]; exact h
    · rw [heap_grow_old _ _ (by have := lt_blk hg; simpa [putRow, mapBlock, Sort.ahead] using this)]
      exact put_row hg n us.toArray
    · simp [putCells, hs]
    · rw [put_take us cur l.len (by omega) (by omega), List.take_of_length_le (by omega)]
      simp [strV]
    · have hf : Fr (fun _ => False) (putRow encStr (Sort.ahead w n) g 0 us.toArray) (grow (putRow encStr (Sort.ahead w n) g 0 us.toArray) os) := ⟨rfl, rfl, rfl, by simp [grow], fun k hk _ => heap_grow_old _ _ hk⟩
      exact ((put_fr us.toArray).trans hf fun _ _ h => h.elim).mono fun q _ e => ⟨_, ha, e⟩
theorem compact_near : ∀ (d : Array (List UInt8)), (∀ i j, i < j → j < d.size → ¬ d[j]! < d[i]!) → ∀ m, m ≤ d.size → (compactUpTo d m).Pairwise (· < ·) ∧ (∀ x, x ∈ compactUpTo d m ↔ ∃ j, j < m ∧ d[j]! = x)
  | d, hd, 0, _ => ⟨by simp [compactUpTo], fun x => by simp [compactUpTo]⟩
  | d, hd, m + 1, hm => by
    obtain ⟨h1, h2⟩ := compact_near d hd m (by omega)
    rw [compactUpTo_succ]
    by_cases hk : keeps d m = true
    · rw [if_pos hk]
      refine ⟨List.pairwise_append.2 ⟨h1, List.pairwise_singleton _ _, fun x hx y hy => ?_⟩, fun x => ?_⟩
      · simp only [List.mem_singleton] at hy
        subst hy
        obtain ⟨j, hj, rfl⟩ := (h2 x).1 hx
        have hne : d[m]! ≠ d[m - 1]! := by
          unfold keeps at hk
          rcases of_decide_eq_true hk with h | h
          · omega
          · exact h
        have a1 := hd (m - 1) m (by omega) (by omega)
        have a2 : d[m - 1]! < d[m]! := by
          rcases lt_tri d[m - 1]! d[m]! with h | h | h
          · exact h
          · exact absurd h.symm hne
          · exact absurd h a1
        rcases Nat.lt_or_ge j (m - 1) with hj1 | hj1
        · have a3 := hd j (m - 1) hj1 (by omega)
          rcases lt_tri d[j]! d[m - 1]! with h | h | h
          · exact List.lt_trans h a2
          · rw [h]; exact a2
          · exact absurd h a3
        · rw [show j = m - 1 by omega]; exact a2
      · rw [List.mem_append, h2, List.mem_singleton]
        constructor
        · rintro (⟨j, hj, h⟩ | h)
          · exact ⟨j, by omega, h⟩
          · exact ⟨m, by omega, h.symm⟩
        · rintro ⟨j, hj, h⟩
          rcases Nat.lt_or_ge j m with h3 | h3
          · exact .inl ⟨j, h3, h⟩
          · rw [show j = m by omega] at h; exact .inr h.symm
    · rw [if_neg hk, List.append_nil]
      refine ⟨h1, fun x => ?_⟩
      rw [h2]
      constructor
      · rintro ⟨j, hj, h⟩; exact ⟨j, by omega, h⟩
      · rintro ⟨j, hj, h⟩
        rcases Nat.lt_or_ge j m with h3 | h3
        · exact ⟨j, h3, h⟩
        · rw [show j = m by omega] at h
          unfold keeps at hk
          have hk' : ¬ (m = 0 ∨ d[m]! ≠ d[m - 1]!) := fun hh => hk (decide_eq_true hh)
          have hm0 : m ≠ 0 := fun h => hk' (.inl h)
          have he : d[m]! = d[m - 1]! := Classical.byContradiction fun h => hk' (.inr h)
          exact ⟨m - 1, by omega, by rw [← he, h]⟩
theorem compactS_spec {w : World} {base : Nat} {l : Sl} {xs : List ByteArray} (h : Vc.Own w base T_string l (strV xs)) (hsz : xs.length ≤ 1000000) (hs : NearB xs) :
    Calls Tryz.prog 44 #[.slice l.a l.len l.cap] w fun r w' => ∃ (l' : Sl) (ys : List ByteArray), r = .returned (.slice l'.a l'.len l'.cap) ∧ RiseB ys ∧ (∀ x, x ∈ ys ↔ x ∈ xs) ∧ Vc.Own w' base T_string l' (strV ys) ∧ Fr (At l) w w' := by
  have hlen := h.1
  simp only [strV, List.length_map] at hlen
  rcases h.2 with ⟨hn, h0, hc⟩ | ⟨g, cur, ha, hb, hg, hl, hm, hsc, ht⟩
  · have hx : xs = [] := List.length_eq_zero_iff.1 (by omega)
    subst hx
    have h1 := Any.slices_Compact_string_empty lays194 l.a l.cap w
    rw [h0]
    refine h1.mono ?_
    rintro r w' ⟨rfl, rfl⟩
    exact ⟨l, [], by rw [h0], List.Pairwise.nil, fun x => Iff.rfl, h, .refl _ _⟩
  · have hcp := Any.slices_Compact_string lays194 g 0 l.cap (xs.map (·.data.toList)) w (own_holdsS h ha) (by rw [List.length_map]; omega) (by rw [List.length_map]; omega)
    rw [List.length_map] at hcp
    rw [ha, ← hlen]
    refine hcp.mono ?_
    rintro r w' ⟨rfl, n, rfl⟩
    have hd : ∀ i j, i < j → j < (xs.map (·.data.toList)).toArray.size → ¬ (xs.map (·.data.toList)).toArray[j]! < (xs.map (·.data.toList)).toArray[i]! := fun i j hij hj => by
      simp only [List.size_toArray, List.length_map] at hj
      have := (List.pairwise_iff_getElem.1 hs) i j (by omega) hj hij
      rw [getElem!_pos _ j (by simpa using hj), getElem!_pos _ i (by simp; omega)]
      simpa using this
    obtain ⟨k1, k2⟩ := compact_near _ hd (xs.map (·.data.toList)).length (by simp)
    have hcl : (Lib.compact (xs.map (·.data.toList))).length ≤ xs.length := by
      have : (Lib.compact (xs.map (·.data.toList))).length ≤ (List.range (xs.map (·.data.toList)).length).length := by
        unfold Lib.compact compactUpTo
        rw [List.length_map]
        exact List.length_filter_le _ _
      simpa using this
    change (Lib.compact (xs.map (·.data.toList))).Pairwise (· < ·) at k1
    change ∀ x, x ∈ Lib.compact (xs.map (·.data.toList)) ↔ _ at k2
    generalize hus : Lib.compact (xs.map (·.data.toList)) = us at hcl k1 k2
    refine ⟨⟨some ⟨g, 0, none⟩, us.length, l.cap⟩, us.map fun u => ⟨u.toArray⟩, rfl, ?_, fun x => ?_, ⟨by simp [strV], .inr ⟨g, putCells encStr 0 (us ++ List.replicate (xs.length - us.length) []).toArray cur, rfl, hb, put_row hg n _, by simp only; omega, hm, by simp [putCells, hsc], ?_⟩⟩, ?_⟩
    · unfold RiseB
      rw [List.pairwise_map]
      exact k1.imp fun h => by rw [bs_mk, bs_mk]; exact h
    · rw [List.mem_map]
      constructor
      · rintro ⟨u, hu, rfl⟩
        obtain ⟨j, hj, rfl⟩ := (k2 u).1 hu
        rw [List.length_map] at hj
        rw [getElem!_pos _ j (by simpa using hj)]
        simp only [List.getElem_toArray, List.getElem_map]
        rw [bs_self]
        exact List.getElem_mem hj
      · intro hx
        obtain ⟨j, hj, he⟩ := List.getElem_of_mem hx
        refine ⟨x.data.toList, (k2 _).2 ⟨j, by rw [List.length_map]; exact hj, ?_⟩, bs_self x⟩
        rw [getElem!_pos _ j (by simpa using hj)]
        simp [he]
    · rw [put_take _ cur us.length (by simp) (by simp; omega), List.take_left']
      · simp [strV]
      · rfl
    · exact (put_fr _).mono fun q _ e => ⟨_, ha, e⟩
end Go.Proofs.YtmhlmdnhpfhoeaaGreatDoor

/- Lists of texts that rise, and a text put in its place once. No condition. -/
import Derived.Test.YtmhlmdnhpfhoeaaGreatDoorSnapP
set_option linter.unusedVariables false
namespace Go.Proofs.YtmhlmdnhpfhoeaaGreatDoor
open Go Vc Go.Proofs

/-- A list of texts that rises. -/
def RiseB (us : List ByteArray) : Prop := us.Pairwise fun x y => x.data.toList < y.data.toList
theorem rise_last {ns : List ByteArray} (h : RiseB ns) {x y : ByteArray} (hx : x ∈ ns) (hy : ns.getLast? = some y) : x = y ∨ x.data.toList < y.data.toList := by
  obtain ⟨r, rfl⟩ : ∃ r, ns = r ++ [y] := by
    rcases List.eq_nil_or_concat ns with h0 | ⟨r, z, h0⟩
    · rw [h0] at hy; cases hy
    · rw [h0, List.concat_eq_append, List.getLast?_append] at hy
      simp at hy
      exact ⟨r, by rw [h0, hy, List.concat_eq_append]⟩
  rcases List.mem_append.1 hx with hx | hx
  · exact .inr ((List.pairwise_append.1 h).2.2 x hx y (by simp))
  · exact .inl (by simpa using hx)
def putR (s : ByteArray) : Bool → List ByteArray → List ByteArray
  | d, [] => if d = true then [] else [s]
  | d, x :: r => if d = false ∧ x ≠ s ∧ s.data.toList < x.data.toList then s :: x :: putR s true r else x :: putR s (d || decide (x = s)) r
theorem putR_true (s : ByteArray) : ∀ r, putR s true r = r
  | [] => rfl
  | x :: r => by
    rw [putR, if_neg (fun h => by cases h.1), Bool.true_or, putR_true s r]
theorem putR_len (s : ByteArray) : ∀ d r, (putR s d r).length ≤ r.length + 1
  | d, [] => by
    rw [putR]
    split <;> simp
  | d, x :: r => by
    rw [putR]
    split
    · rw [putR_true]; simp
    · have := putR_len s (d || decide (x = s)) r
      simp only [List.length_cons]; omega
theorem putR_rise (s : ByteArray) : ∀ xs : List ByteArray, RiseB xs → RiseB (putR s false xs) ∧ ∀ p, p ∈ putR s false xs ↔ p = s ∨ p ∈ xs
  | [], _ => by
    rw [putR, if_neg (by decide)]
    exact ⟨List.pairwise_singleton _ _, fun p => by simp⟩
  | x :: r, h => by
    obtain ⟨h1, h2⟩ := List.pairwise_cons.1 h
    rw [putR]
    by_cases hx : x = s
    · rw [if_neg (fun h => h.2.1 hx), show (false || decide (x = s)) = true by simp [hx], putR_true]
      exact ⟨h, fun p => by rw [← hx]; simp⟩
    · rw [show (false || decide (x = s)) = false by simp [hx]]
      by_cases hl : s.data.toList < x.data.toList
      · rw [if_pos ⟨rfl, hx, hl⟩, putR_true]
        refine ⟨List.pairwise_cons.2 ⟨fun y hy => ?_, h⟩, fun p => by simp⟩
        rcases List.mem_cons.1 hy with rfl | hy
        · exact hl
        · exact List.lt_trans hl (h1 y hy)
      · rw [if_neg (fun h => hl h.2.2)]
        obtain ⟨h3, h4⟩ := putR_rise s r h2
        have hxs : x.data.toList < s.data.toList := by
          rcases lt_tri x.data.toList s.data.toList with h | h | h
          · exact h
          · exact absurd (bs_ext h) hx
          · exact absurd h hl
        refine ⟨List.pairwise_cons.2 ⟨fun y hy => ?_, h3⟩, fun p => ?_⟩
        · rcases (h4 y).1 hy with rfl | hy
          · exact hxs
          · exact h1 y hy
        · rw [List.mem_cons, h4, List.mem_cons]
          constructor
          · rintro (h | h | h)
            · exact .inr (.inl h)
            · exact .inl h
            · exact .inr (.inr h)
          · rintro (h | h | h)
            · exact .inr (.inl h)
            · exact .inl h
            · exact .inr (.inr h)
theorem rise_eq {a b : List ByteArray} (h1 : RiseB a) (h2 : RiseB b) (h : ∀ p, p ∈ a ↔ p ∈ b) : a = b := by
  have hp : a.Perm b := by
    have n1 : a.Nodup := h1.imp fun h e => by rw [e] at h; exact List.lt_irrefl _ h
    have n2 : b.Nodup := h2.imp fun h e => by rw [e] at h; exact List.lt_irrefl _ h
    exact (List.perm_ext_iff_of_nodup n1 n2).2 h
  refine List.Perm.eq_of_pairwise (le := fun x y : ByteArray => x.data.toList < y.data.toList) ?_ h1 h2 hp
  intro x y _ _ h3 h4
  exact absurd (List.lt_trans h3 h4) (List.lt_irrefl _)
theorem under_mem {ys : List FileE} {f p : ByteArray} (h : p ∈ underE ys f) : begB p f = true ∧ ∃ y ∈ ys, y.path = p := by
  unfold underE at h
  obtain ⟨y, hy, rfl⟩ := List.mem_map.1 h
  exact ⟨(List.mem_filter.1 hy).2, y, (List.mem_filter.1 hy).1, rfl⟩
/-- What 'Under' gathers. -/
def rUnder (front : ByteArray) (xs : List FileE) : List ByteArray := xs.foldl (fun o x => if begB x.path front = true then putR x.path false o else o) []
theorem rUnder_snoc (front : ByteArray) (xs : List FileE) (x : FileE) : rUnder front (xs ++ [x]) = if begB x.path front = true then putR x.path false (rUnder front xs) else rUnder front xs := by
  unfold rUnder; rw [List.foldl_append]; rfl
theorem rUnder_rise (front : ByteArray) : ∀ (n : Nat) (xs : List FileE), xs.length = n → (rUnder front xs).length ≤ n ∧ RiseB (rUnder front xs) ∧ ∀ p, p ∈ rUnder front xs ↔ ∃ x ∈ xs, x.path = p ∧ begB p front = true
  | 0, xs, h => by
    rw [List.length_eq_zero_iff.1 h]
    exact ⟨Nat.le_refl _, List.Pairwise.nil, fun p => ⟨fun h => by simp [rUnder] at h, fun ⟨x, hx, _⟩ => by simp at hx⟩⟩
  | n + 1, xs, h => by
    rcases List.eq_nil_or_concat xs with h0 | ⟨vs, q, h0⟩
    · rw [h0] at h; simp at h
    rw [List.concat_eq_append] at h0
    subst h0
    obtain ⟨h0, h1, h2⟩ := rUnder_rise front n vs (by simpa using h)
    rw [rUnder_snoc]
    by_cases hq : begB q.path front = true
    · rw [if_pos hq]
      obtain ⟨h3, h4⟩ := putR_rise q.path _ h1
      have := putR_len q.path false (rUnder front vs)
      refine ⟨by omega, h3, fun p => ?_⟩
      rw [h4, h2]
      constructor
      · rintro (rfl | ⟨x, hx, h5⟩)
        · exact ⟨q, by simp, rfl, hq⟩
        · exact ⟨x, by simp [hx], h5⟩
      · rintro ⟨x, hx, h5, h6⟩
        rcases List.mem_append.1 hx with hx | hx
        · exact .inr ⟨x, hx, h5, h6⟩
        · have : x = q := by simpa using hx
          subst this
          exact .inl h5.symm
    · rw [if_neg hq]
      refine ⟨by omega, h1, fun p => ?_⟩
      rw [h2]
      constructor
      · rintro ⟨x, hx, h5⟩
        exact ⟨x, by simp [hx], h5⟩
      · rintro ⟨x, hx, h5, h6⟩
        rcases List.mem_append.1 hx with hx | hx
        · exact ⟨x, hx, h5, h6⟩
        · have : x = q := by simpa using hx
          subst this
          rw [h5] at hq; exact absurd h6 hq
theorem rUnder_under {xs ys : List FileE} (hp : ys.Perm xs) (hst : ys.Pairwise fun x y => x.path.data.toList < y.path.data.toList) (front : ByteArray) : rUnder front xs = underE ys front := by
  obtain ⟨_, h1, h2⟩ := rUnder_rise front _ xs rfl
  refine rise_eq h1 (under_pair hst front) fun p => ?_
  rw [h2]
  constructor
  · rintro ⟨x, hx, h5, h6⟩
    unfold underE
    exact List.mem_map.2 ⟨x, List.mem_filter.2 ⟨hp.symm.subset hx, by rw [h5]; exact h6⟩, h5⟩
  · intro h
    obtain ⟨h3, y, hy, h4⟩ := under_mem h
    exact ⟨y, hp.subset hy, h4, h3⟩
theorem own_lit (w : World) (t : TypeId) : Vc.Own (w.alloc (.cells #[] t)) w.heap.size t ⟨some ⟨w.heap.size, 0, none⟩, 0, 0⟩ [] :=
  ⟨rfl, .inr ⟨w.heap.size, _, rfl, Nat.le_refl _, alloc_new w _, Nat.le_refl _, Nat.zero_le _, rfl, rfl⟩⟩
theorem grow_str {w0 w12 : World} {l : Sl} {out : List ByteArray} (x : ByteArray) (hs : out.length ≤ 1000003) (ho : Vc.Own w12 w0.heap.size T_string l (strV out)) (hf : Fr (fun _ => False) w0 w12) {w13 : World} (h13 : w13 = w12.alloc (.cells #[.string x] 9)) :
    ∃ (w14 : World) (l15 : Sl), (Builtin.append_ #[37, 37] 37 #[.slice l.a l.len l.cap, .slice (some ⟨w12.heap.size, 0, none⟩) 1 1]).run Tryz.prog w13 = .ok (.slice l15.a l15.len l15.cap) w14 ∧ Vc.Own w14 w0.heap.size T_string l15 (strV (out ++ [x])) ∧ Fr (fun _ => False) w0 w14 := by
  obtain ⟨w14, l15, hr14, ho14, hf14, _⟩ := append_one' elString ho (v := .string x) rfl (by simp only [strV, List.length_map, maxLen]; omega) (by simp only [strV, List.length_map]; omega) hf.size h13
  refine ⟨w14, l15, hr14, by simpa [strV] using ho14, hf.trans hf14 fun q hq ⟨z, hz, e⟩ => ?_⟩
  have := (ho.blk hz).1; omega
end Go.Proofs.YtmhlmdnhpfhoeaaGreatDoor

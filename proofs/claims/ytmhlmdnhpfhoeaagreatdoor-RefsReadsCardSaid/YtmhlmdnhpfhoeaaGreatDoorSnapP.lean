/- Folders: sorting nothing, one order alone, rows in a block. Conditions: texts are no longer than memory. -/
import Derived.Test.YtmhlmdnhpfhoeaaGreatDoorSnapX
import Derived.Shelf.SlSortCmp.NoneTotal
set_option linter.unusedVariables false
namespace Go.Proofs.YtmhlmdnhpfhoeaaGreatDoor
open Go Vc Go.Proofs

/-- Sorting a nil slice does nothing. -/
def NilSort : Prop := ∀ W, Calls Tryz.prog 23 #[.slice none 0 0, .func (.func F_snap_byPath) #[] #[]] W fun e w' => e = .returned (.tuple #[]) ∧ w' = W
theorem nilSort : NilSort := fun W => AnyF.slices_SortFunc_none sortLays none 0 _ W
theorem strict_of {ys : List FileE} (hs : Rising ys) (hok : NewOK ys) : ys.Pairwise fun x y => x.path.data.toList < y.path.data.toList := by
  have key : ∀ d i : Nat, ∀ x y, ys[i]? = some x → ys[i + d + 1]? = some y → x.path.data.toList < y.path.data.toList := by
    intro d
    induction d with
    | zero =>
      intro i x y hx hy
      have h1 := (List.pairwise_iff_getElem.1 hs) i (i + 1) (List.getElem?_eq_some_iff.1 hx).1 (List.getElem?_eq_some_iff.1 hy).1 (by omega)
      rw [(List.getElem?_eq_some_iff.1 hx).2, show ys[i + 1]'((List.getElem?_eq_some_iff.1 hy).1) = y from (List.getElem?_eq_some_iff.1 hy).2] at h1
      have h2 := (hok.1 (i + 1) y hy).2 x (by omega) (by simpa using hx)
      rcases lt_tri x.path.data.toList y.path.data.toList with h3 | h3 | h3
      · exact h3
      · exact absurd (bs_ext h3) h2
      · exact absurd h3 h1
    | succ d ih =>
      intro i x y hx hy
      have hl := (List.getElem?_eq_some_iff.1 hy).1
      obtain ⟨z, hz⟩ : ∃ z, ys[i + d + 1]? = some z := ⟨_, List.getElem?_eq_getElem (by omega)⟩
      have h1 := ih i x z hx hz
      have hy' : ys[(i + d + 1) + 1]? = some y := hy
      have hs2 := (List.pairwise_iff_getElem.1 hs) (i + d + 1) (i + d + 1 + 1) (by omega) (by omega) (by omega)
      have h2 := (hok.1 (i + d + 1 + 1) y hy').2 z (by omega) hz
      rw [(List.getElem?_eq_some_iff.1 hz).2, (List.getElem?_eq_some_iff.1 hy').2] at hs2
      rcases lt_tri z.path.data.toList y.path.data.toList with h3 | h3 | h3
      · exact List.lt_trans h1 h3
      · exact absurd (bs_ext h3) h2
      · exact absurd h3 hs2
  rw [List.pairwise_iff_getElem]
  intro i j hi hj hij
  exact key (j - i - 1) i _ _ (List.getElem?_eq_getElem hi) (by rw [show i + (j - i - 1) + 1 = j by omega]; exact List.getElem?_eq_getElem hj)
theorem under_pair {ys : List FileE} (h : ys.Pairwise fun x y => x.path.data.toList < y.path.data.toList) (front : ByteArray) : (underE ys front).Pairwise fun x y => x.data.toList < y.data.toList := by
  unfold underE
  rw [List.pairwise_map]
  exact h.sublist List.filter_sublist
theorem perm_eq {ys zs : List FileE} (hp : ys.Perm zs) (h1 : ys.Pairwise fun x y => x.path.data.toList < y.path.data.toList) (h2 : Rising zs) : ys = zs := by
  have inj : ∀ (ys : List FileE), (ys.Pairwise fun x y => x.path.data.toList < y.path.data.toList) → ∀ a ∈ ys, ∀ b ∈ ys, a.path.data.toList = b.path.data.toList → a = b := by
    intro ys h
    induction ys with
    | nil => intro a ha; simp at ha
    | cons y r ih =>
      obtain ⟨h3, h4⟩ := List.pairwise_cons.1 h
      intro a ha b hb he
      rcases List.mem_cons.1 ha with rfl | ha
      · rcases List.mem_cons.1 hb with rfl | hb
        · rfl
        · have := h3 b hb
          rw [he] at this; exact absurd this (List.lt_irrefl _)
      · rcases List.mem_cons.1 hb with hb | hb
        · have := h3 a ha
          rw [he, hb] at this; exact absurd this (List.lt_irrefl _)
        · exact ih h4 a ha b hb he
  refine List.Perm.eq_of_pairwise (le := fun x y : FileE => ¬ y.path.data.toList < x.path.data.toList) ?_ (h1.imp fun h => List.lt_asymm h) h2 hp
  intro a b ha hb h3 h4
  refine inj ys h1 a ha b (hp.symm.subset hb) ?_
  rcases lt_tri a.path.data.toList b.path.data.toList with h | h | h
  · exact absurd h h4
  · exact h
  · exact absurd h h3
theorem newOK_perm {ys zs : List FileE} (hp : ys.Perm zs) (h1 : Rising ys) (h2 : Rising zs) (hok : NewOK ys) : ys = zs := perm_eq hp (strict_of h1 hok) h2
theorem totalF_perm {xs ys : List FileE} (h : xs.Perm ys) : totalF xs = totalF ys := (h.map _).sum_nat
theorem reads_blkF {w : World} {g : Nat} {cs : Array Value} {e : TypeId} {fz : Nat × Nat} (h : w.heap[g]? = some (.cells cs e fz)) {xs : List FileE} (hc : cs.toList = xs.flatMap encF) : ReadsK encF 2 w (some ⟨g, 0, none⟩) xs := fun i x hx => by
  refine ⟨_, rfl, fun j v hv => ?_⟩
  have := flat_get (enc := encF) (k := 2) (fun _ => rfl) xs i x j v hx hv
  rw [add_lit, add_lit, cell_blk h, Nat.zero_add, ← Array.getElem?_toList, hc]; exact this
end Go.Proofs.YtmhlmdnhpfhoeaaGreatDoor

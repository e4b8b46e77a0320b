/- What is found in a folder hangs on no order; what New hands back; a file that says a name. No condition. -/
import Derived.Test.YtmhlmdnhpfhoeaaGreatDoorRefST
import Derived.Test.YtmhlmdnhpfhoeaaGreatDoorShortS
set_option linter.unusedVariables false
namespace Go.Proofs.YtmhlmdnhpfhoeaaGreatDoor
open Go Vc HexM Go.Proofs

theorem total_of' (k : Nat) : ∀ xs : List FileE, (∀ x ∈ xs, x.data.size ≤ k) → totalF xs ≤ k * xs.length
  | [], _ => Nat.zero_le _
  | x :: r, h => by
    have h1 := total_of' k r fun y hy => h y (.tail _ hy)
    have h2 := h x (.head _)
    unfold totalF at h1 ⊢
    rw [List.map_cons, List.sum_cons, List.length_cons, Nat.mul_succ]; omega
theorem shortF_facts' {xs : List FileE} {m N : Nat} (hb : ∀ x ∈ xs, x.path.size ≤ N ∧ x.data.size ≤ N) : (shortF xs m).length ≤ m ∧ (∀ x ∈ shortF xs m, x.path.size ≤ N) ∧ (∀ x ∈ shortF xs m, x.data.size ≤ 3000) := by
  unfold shortF
  refine ⟨by rw [List.length_map, List.length_take]; omega, fun x hx => ?_, fun x hx => ?_⟩
  · obtain ⟨y, hy, rfl⟩ := List.mem_map.1 hx
    exact (hb y (List.mem_of_mem_take hy)).1
  · obtain ⟨y, hy, rfl⟩ := List.mem_map.1 hx
    exact (fewB_size y.data 3000).1
/-- Paths that stand once: what is found hangs on no order. -/
theorem find_perm {ys zs : List FileE} (hp : ys.Perm zs) (hu : ∀ x ∈ ys, ∀ y ∈ ys, x.path = y.path → x = y) (p : ByteArray) : getE ys p = getE zs p := by
  have key : ys.find? (fun x => decide (x.path = p)) = zs.find? (fun x => decide (x.path = p)) := by
    cases h1 : ys.find? (fun x => decide (x.path = p)) with
    | none =>
      rw [List.find?_eq_none] at h1
      exact (List.find?_eq_none.2 fun x hx => h1 x (hp.symm.subset hx)).symm
    | some x =>
      have hx := List.mem_of_find?_eq_some h1
      have hxp : x.path = p := by simpa using List.find?_some h1
      cases h2 : zs.find? (fun x => decide (x.path = p)) with
      | none =>
        rw [List.find?_eq_none] at h2
        exact absurd (decide_eq_true hxp) (h2 x (hp.subset hx))
      | some y =>
        have hy := hp.symm.subset (List.mem_of_find?_eq_some h2)
        have hyp : y.path = p := by simpa using List.find?_some h2
        rw [hu x hx y hy (hxp.trans hyp.symm)]
  unfold getE
  rw [key]
theorem strict_uniq {ys : List FileE} (h : ys.Pairwise fun x y => x.path.data.toList < y.path.data.toList) : ∀ x ∈ ys, ∀ y ∈ ys, x.path = y.path → x = y := by
  intro x hx y hy he
  obtain ⟨i, hi, rfl⟩ := List.getElem_of_mem hx
  obtain ⟨j, hj, rfl⟩ := List.getElem_of_mem hy
  rcases Nat.lt_trichotomy i j with h1 | h1 | h1
  · have := (List.pairwise_iff_getElem.1 h) i j hi hj h1
    rw [he] at this; exact absurd this (List.lt_irrefl _)
  · subst h1; rfl
  · have := (List.pairwise_iff_getElem.1 h) j i hj hi h1
    rw [he] at this; exact absurd this (List.lt_irrefl _)
theorem getE_snoc {a : List FileE} {x : FileE} {p : ByteArray} (h : x.path ≠ p) : getE (a ++ [x]) p = getE a p := by
  have : (a ++ [x]).find? (fun x => decide (x.path = p)) = a.find? (fun x => decide (x.path = p)) := by
    rw [List.find?_append]
    have : [x].find? (fun x => decide (x.path = p)) = none := by simp [h]
    rw [this, Option.or_none]
  unfold getE
  rw [this]
theorem getE_none {a : List FileE} {p : ByteArray} (h : ∀ x ∈ a, x.path ≠ p) : getE a p = (⟨#[]⟩, 7) := by
  have : a.find? (fun x => decide (x.path = p)) = none := List.find?_eq_none.2 fun x hx => by simpa using h x hx
  unfold getE
  rw [this]
theorem getE_last {a : List FileE} {x : FileE} (h : ∀ y ∈ a, y.path ≠ x.path) : getE (a ++ [x]) x.path = (x.data, 0) := by
  have : (a ++ [x]).find? (fun y => decide (y.path = x.path)) = some x := by
    rw [List.find?_append, List.find?_eq_none.2 fun y hy => by simpa using h y hy]
    simp
  unfold getE
  rw [this]
theorem openE_same {ys zs : List FileE} (h : getE ys sPacked = getE zs sPacked) : openE ys = openE zs := by unfold openE; rw [h]
theorem name_packed {n : ByteArray} (h : nameB n = true) : n ≠ sPacked := fun e => by
  subst e
  unfold nameB at h
  rw [show decide (sPacked = sHEAD) = false by decide, show begB sPacked sRefs = false by decide] at h
  simp at h
theorem id_file {ys : List FileE} {n id : ByteArray} (hi : isId id.data.toList = true) (hg : getE ys n = (id ++ ⟨#[10]⟩, 0)) : fileE ys n = (id, ⟨#[]⟩, 0) := by
  have hs : sufL [10] (id ++ ⟨#[10]⟩).data.toList = true := by
    rw [bs_app]; exact decide_eq_true (List.suffix_append _ _)
  have hc : cutSuf (id ++ ⟨#[10]⟩) ⟨#[10]⟩ = id := by
    unfold cutSuf
    rw [if_pos hs]
    refine bs_ext ?_
    rw [bs_head, bs_app, ByteArray.size_append]
    have : id.size + ByteArray.size ⟨#[10]⟩ - ByteArray.size ⟨#[10]⟩ = id.data.toList.length := by rw [bs_len]; exact Nat.add_sub_cancel _ _
    rw [this, List.take_left']
    rfl
  unfold fileE
  rw [hg]
  simp only
  rw [if_neg (by decide), hc, if_pos ⟨hi, hs⟩]
/-- What New hands back, in two cases. -/
theorem newR_two {w w' : World} {xs : List FileE} {v : Value} (h : NewR w xs v w') : Fr (fun _ => False) w w' ∧ ∃ (p : Option Addr) (n : Int), v = .tuple #[.pointer p, .int .i64 n] ∧
    ((p = none ∧ n ≠ 0) ∨ (n = 0 ∧ ∃ b l ys, p = some ⟨b, 0, none⟩ ∧ (w.heap.size ≤ b ∧ ∀ x, l.a = some x → w.heap.size ≤ x.block) ∧ ys.Perm xs ∧ Rising ys ∧ NewOK ys ∧ IsSnap w' b l ys (totalF xs))) := by
  obtain ⟨hf, h⟩ := h
  refine ⟨hf, ?_⟩
  rcases h with ⟨rfl, _⟩ | ⟨_, _, ys, hp, hris, h⟩
  · exact ⟨_, _, rfl, .inl ⟨rfl, by decide⟩⟩
  rcases h with ⟨_, rfl⟩ | ⟨hok, b, l, rfl, hbl, hS⟩
  · exact ⟨_, _, rfl, .inl ⟨rfl, by decide⟩⟩
  · exact ⟨_, _, rfl, .inr ⟨rfl, b, l, ys, rfl, hbl, hp, hris, hok, hS⟩⟩
theorem snap_keepX {w w1 : World} {b : Nat} {l : Sl} {xs : List FileE} {size : Int} {X : Nat → Prop} (h : IsSnap w b l xs size) (hf : Fr X w w1) (hb : ¬ X b) (hl : ∀ x, l.a = some x → ¬ X x.block) : IsSnap w1 b l xs size :=
  ⟨hf.cell h.files hb, hf.cell h.size hb, h.len, h.reads.keep hf hl, h.small⟩
theorem id_full {id : ByteArray} (h : isId id.data.toList = true) : id.size = 40 := by
  unfold isId at h
  rw [Bool.and_eq_true] at h
  have := eq_of_beq h.2
  rw [bs_len] at this; exact this
end Go.Proofs.YtmhlmdnhpfhoeaaGreatDoor

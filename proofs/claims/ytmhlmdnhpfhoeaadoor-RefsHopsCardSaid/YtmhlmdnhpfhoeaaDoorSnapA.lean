/- Files in order of their paths: snap.byPath, slices.SortFunc by it. Conditions: as named. -/
import Derived.Test.YtmhlmdnhpfhoeaaDoorSnapS
import Derived.Test.YtmhlmdnhpfhoeaaDoorSortK
import Derived.Test.YtmhlmdnhpfhoeaaDoorLaysS
import Derived.Test.YtmhlmdnhpfhoeaaDoorLaysC
import Derived.Shelf.Small.Strs
set_option linter.unusedVariables false
namespace Go.Proofs.YtmhlmdnhpfhoeaaDoor
open Go Vc Go.Proofs Go.Sort Go.Lib

structure FileE where
  path : ByteArray
  data : ByteArray
instance : Inhabited FileE := ⟨⟨⟨#[]⟩, ⟨#[]⟩⟩⟩
def encF (f : FileE) : List Value := [.string f.path, .string f.data]
theorem elF : ElK encF 2 Tryd.prog T_S_api_File T_api_File (.agg #[.string ⟨#[]⟩, .string ⟨#[]⟩]) 32 :=
  ⟨by kernel_rfl, by kernel_rfl, rfl, by decide, by kernel_rfl, fun _ => rfl, fun x u hu => by
    simp only [encF, List.mem_cons, List.mem_nil_iff, or_false] at hu
    rcases hu with rfl | rfl <;> rfl⟩
def cmpF (x y : FileE) : Int := Lib.compareBytes x.path.data.toList y.path.data.toList
theorem compare_spec (a b : ByteArray) (w : World) : Calls Tryd.prog F_strings_Compare #[.string a, .string b] w fun e w' => e = .returned (.int .i64 (Lib.compareBytes a.data.toList b.data.toList)) ∧ w' = w := Any.strings_Compare lays106 a b w
theorem byPath_spec (x y : FileE) (w : World) : Calls Tryd.prog F_snap_byPath #[.agg (encF x).toArray, .agg (encF y).toArray] w fun e w' => e = .returned (.int .i64 (cmpF x y)) ∧ ∃ q os', w' = grow (w.drewN q) os' := by
  refine vc_snap_byPath_ok (R := fun v w' => v = .int .i64 (cmpF x y) ∧ ∃ q os', w' = grow (w.drewN q) os') ?_ (fun v w' h => ⟨by rw [h.1], h.2⟩)
  intro w1 h1 w2 h2
  have hb1 : w1.heap[w.heap.size]? = some (.cells (encF x).toArray T_api_File (0, 0)) := by rw [h1]; exact alloc_new _ _
  have hb2 : w2.heap[w1.heap.size]? = some (.cells (encF y).toArray T_api_File (0, 0)) := by rw [h2]; exact alloc_new _ _
  have hb1' : w2.heap[w.heap.size]? = some (.cells (encF x).toArray T_api_File (0, 0)) := by rw [h2]; exact (Fr.alloc (fun _ => False) _ _).keep hb1 (by simp)
  refine ⟨x.path, by rw [cell_blk hb1']; rfl, y.path, by rw [cell_blk hb2]; rfl, (compare_spec _ _ w2).mono ?_⟩
  rintro e w6 ⟨rfl, rfl⟩
  refine ⟨_, rfl, rfl, 0, #[.cells (encF x).toArray T_api_File (0, 0), .cells (encF y).toArray T_api_File (0, 0)], ?_⟩
  rw [h2, h1, alloc_eq_grow, alloc_eq_grow, grow_grow]
  rfl
theorem cmp_lt : ∀ a b : List UInt8, Lib.compareBytes a b < 0 ↔ a < b
  | [], [] => by simp [Lib.compareBytes]
  | [], _ :: _ => by simp [Lib.compareBytes]
  | _ :: _, [] => by simp [Lib.compareBytes]
  | a :: ra, b :: rb => by
    rw [Lib.compareBytes, List.cons_lt_cons_iff]
    by_cases h1 : a < b
    · rw [if_pos h1]; exact ⟨fun _ => .inl h1, fun _ => by decide⟩
    · rw [if_neg h1]
      by_cases h2 : b < a
      · rw [if_pos h2]
        refine ⟨fun h => absurd h (by decide), fun h => ?_⟩
        rcases h with h | ⟨h, _⟩
        · exact absurd h h1
        · rw [h] at h2; exact absurd h2 (by rw [UInt8.lt_iff_toNat_lt]; omega)
      · rw [if_neg h2, cmp_lt ra rb]
        have : a = b := UInt8.toNat_inj.1 (by rw [UInt8.lt_iff_toNat_lt] at h1 h2; omega)
        exact ⟨fun h => .inr ⟨this, h⟩, fun h => h.resolve_left h1 |>.2⟩
theorem cmp_zero : ∀ a b : List UInt8, Lib.compareBytes a b = 0 ↔ a = b
  | [], [] => by simp [Lib.compareBytes]
  | [], _ :: _ => by simp [Lib.compareBytes]
  | _ :: _, [] => by simp [Lib.compareBytes]
  | a :: ra, b :: rb => by
    rw [Lib.compareBytes]
    by_cases h1 : a < b
    · rw [if_pos h1]
      refine ⟨fun h => absurd h (by decide), fun h => ?_⟩
      cases h; exact absurd h1 (by rw [UInt8.lt_iff_toNat_lt]; omega)
    · rw [if_neg h1]
      by_cases h2 : b < a
      · rw [if_pos h2]
        refine ⟨fun h => absurd h (by decide), fun h => ?_⟩
        cases h; exact absurd h2 (by rw [UInt8.lt_iff_toNat_lt]; omega)
      · rw [if_neg h2, cmp_zero ra rb]
        have : a = b := UInt8.toNat_inj.1 (by rw [UInt8.lt_iff_toNat_lt] at h1 h2; omega)
        subst this
        simp
theorem lt_tri (a b : List UInt8) : a < b ∨ a = b ∨ b < a := by
  rcases Decidable.em (a < b) with h | h
  · exact .inl h
  · rcases Decidable.em (a = b) with h' | h'
    · exact .inr (.inl h')
    · exact .inr (.inr (Std.lt_of_le_of_ne (Std.not_lt.1 h) fun e => h' e.symm))
theorem ltF (x y : FileE) : ltOf cmpF x y = decide (x.path.data.toList < y.path.data.toList) := decide_eq_decide.2 (cmp_lt _ _)
theorem swoF : SWO (ltOf cmpF) where
  irrefl x := by rw [ltF, decide_eq_false_iff_not]; exact List.lt_irrefl _
  trans x y z h1 h2 := by
    rw [ltF, decide_eq_true_eq] at *
    exact List.lt_trans h1 h2
  ntrans x y z h1 h2 := by
    rw [ltF, decide_eq_false_iff_not] at *
    intro h
    rcases lt_tri x.path.data.toList y.path.data.toList with h3 | h3 | h3
    · exact h1 h3
    · rw [h3] at h; exact h2 h
    · exact h2 (List.lt_trans h3 h)
/-- 'slices.SortFunc' of files by their paths. -/
theorem sort_spec {w : World} {base : Nat} {e : TypeId} {l : Sl} {xs : List FileE} {g : Nat} (h : OwnK encF 2 w base e l xs) (ha : l.a = some ⟨g, 0, none⟩) (hsz : xs.length ≤ 1000000) :
    Calls Tryd.prog 39 #[.slice l.a l.len l.cap, .func (.func F_snap_byPath) #[] #[]] w fun r w' =>
      r = .returned (.tuple #[]) ∧ ∃ ys : List FileE, ys.Perm xs ∧ (ys.Pairwise fun x y => ¬ y.path.data.toList < x.path.data.toList) ∧ OwnK encF 2 w' base e l ys ∧ Fr (At l) w w' := by
  obtain ⟨cur, hg, _⟩ := own_row h ha
  have hc := AnyQ.slices_SortFunc sortLays 2 Tryd.isAgg39 Tryd.sizeOf39 encF (fun _ => rfl) (fun x v hv => by
    simp only [encF, List.mem_cons, List.mem_nil_iff, or_false] at hv
    rcases hv with rfl | rfl <;> rfl) cmpF swoF F_snap_byPath #[] g 0 l.cap xs.toArray w (enters_of (P := Tryd.prog) Tryd.func40 (by kernel_rfl) rfl)
    (fun m os dk _ x y => byPath_spec x y _) (own_holds (fun _ => rfl) (by decide) h ha) (lt_blk hg) (by rw [List.size_toArray]; omega)
  have hl : l.len = xs.length := h.1.symm
  rw [ha, hl]
  rw [List.size_toArray] at hc
  refine hc.mono ?_
  rintro r w' ⟨rfl, d', n, os, ⟨p1, _, p3⟩, p4, rfl⟩
  have p1 : d'.size = xs.length := by simpa using p1
  refine ⟨rfl, d'.toList, ?_, ?_, ?_, ?_⟩
  · have e1 : (d'.extract 0 xs.length).toList = d'.toList := by rw [← p1]; simp
    have e2 : (xs.toArray.extract 0 xs.length).toList = xs := by simp
    rw [e1, e2] at p3
    exact p3
  · rw [List.pairwise_iff_getElem]
    intro i j hi hj hij
    have := p4 i j (Nat.zero_le _) hij (by rw [Array.length_toList] at hj; omega)
    rw [Array.length_toList] at hi hj
    rw [getElem!_pos d' i hi, getElem!_pos d' j hj, ltF, decide_eq_false_iff_not] at this
    simpa using this
  · have := own_sorted (enc := encF) (k := 2) (fun _ => rfl) (by decide) h ha n d'.toList (by rw [Array.length_toList, p1]) os
    simpa using this
  · have := sort_fr (enc := encF) (k := 2) (w := w) (g := g) n d'.toList os
    exact (by simpa using this : Fr (· = g) w (sortWorldK encF 2 w g 0 n d' os)).mono fun q _ e => ⟨_, ha, e⟩
end Go.Proofs.YtmhlmdnhpfhoeaaDoor

/- A slice of the call's own, as the kit's contract of slices.SortFunc wants it, and as it leaves it. No condition. -/
import Derived.Test.YtoagdpjickippaaDoorVcSls
import Derived.Shelf.SlSortCmp.WholeK
set_option linter.unusedVariables false
set_option linter.unusedSectionVars false
namespace Vc
open Go Go.Proofs Go.Sort Go.Lib
variable {α : Type} [Inhabited α] {enc : α → List Value} {k : Nat} {w : World} {base : Nat} {e : TypeId} {l : Sl} {xs : List α} {g : Nat}
theorem own_row (h : OwnK enc k w base e l xs) (ha : l.a = some ⟨g, 0, none⟩) : ∃ cur, w.heap[g]? = some (.cells cur e (0, 0)) ∧ base ≤ g ∧ l.len ≤ l.cap ∧ l.cap ≤ maxLen ∧ cur.size = l.cap * k ∧ cur.toList.take (l.len * k) = xs.flatMap enc := by
  rcases h.2.2 with ⟨hv, _⟩ | ⟨g', cap, cur, hv, hb, hg, hl, hm, hs, ht⟩
  · simp only [Value.slice.injEq] at hv; rw [ha] at hv; cases hv.1
  · simp only [Value.slice.injEq] at hv
    obtain ⟨h1, _, h3⟩ := hv
    rw [ha] at h1
    cases h1
    subst h3
    exact ⟨cur, hg, hb, hl, hm, hs, ht⟩
theorem flatK_get (hk : ∀ x, (enc x).length = k) (h0 : 0 < k) {j : Nat} (hj : j < xs.length * k) : (xs.flatMap enc)[j]? = some ((flatK enc k xs.toArray)[j]!) := by
  have hl := flat_len hk xs
  obtain ⟨v, hv⟩ : ∃ v, (xs.flatMap enc)[j]? = some v := ⟨_, List.getElem?_eq_getElem (by omega)⟩
  obtain ⟨x, h1, h2⟩ := flat_get' hk h0 xs j v hv
  rw [hv, get_flatK enc k xs.toArray j (by simpa using hj)]
  have e1 : xs.toArray[j / k]! = x := by simp [h1]
  rw [e1]
  simp [h2]
theorem own_holds (hk : ∀ x, (enc x).length = k) (h0 : 0 < k) (h : OwnK enc k w base e l xs) (ha : l.a = some ⟨g, 0, none⟩) : HoldsK enc k w g 0 xs.toArray := fun j hj => by
  rw [size_flatK, List.size_toArray] at hj
  obtain ⟨cur, hg, _⟩ := own_row h ha
  have hr := h.reads hk
  rw [ha] at hr
  have := hr.flat hk h0 j _ (flatK_get hk h0 hj)
  rw [add_lit] at this
  exact ⟨this, by simp [World.frozen?, hg]⟩
theorem sort_fr (m : Nat) (ys : List α) (os : Array Obj) : Fr (· = g) w (sortWorldK enc k w g 0 m ys.toArray os) := by
  refine ⟨rfl, rfl, rfl, ?_, fun q hq hne => ?_⟩
  · simp [sortWorldK, grow, putRowK, putRow, mapBlock, Sort.ahead]
  · unfold sortWorldK
    rw [heap_grow_old _ _ (by simpa [putRowK, putRow, mapBlock, Sort.ahead] using hq)]
    simp only [putRowK, putRow, mapBlock, Sort.ahead, Array.getElem?_modify]
    rw [if_neg (fun e => hne e.symm)]
theorem own_sorted (hk : ∀ x, (enc x).length = k) (h0 : 0 < k) (h : OwnK enc k w base e l xs) (ha : l.a = some ⟨g, 0, none⟩) (m : Nat) (ys : List α) (hl : ys.length = xs.length) (os : Array Obj) : OwnK enc k (sortWorldK enc k w g 0 m ys.toArray os) base e l ys := by
  obtain ⟨cur, hg, hb, hc, hm, hs, ht⟩ := own_row h ha
  have hlen := h.1
  have hfl := flat_len hk ys
  have hkk : l.len * k ≤ l.cap * k := Nat.mul_le_mul_right _ hc
  have hgt := lt_blk hg
  refine ⟨by omega, by rw [hfl, hl, hlen], .inr ⟨g, l.cap, putCells id 0 (flatK enc k ys.toArray) cur, by rw [ha], hb, ?_, hc, hm, by simp [putCells, hs], ?_⟩⟩
  · unfold sortWorldK
    rw [heap_grow_old _ _ (by simpa [putRowK, putRow, mapBlock, Sort.ahead] using hgt)]
    simp only [putRowK, putRow, mapBlock, Sort.ahead, Array.getElem?_modify, if_true, hg]
    rfl
  · apply List.ext_getElem?
    intro j
    by_cases hj : j < l.len * k
    · rw [List.getElem?_take, if_pos hj, flatK_get hk h0 (by rw [hl, hlen]; exact hj)]
      simp only [putCells, Array.getElem?_toList, Array.getElem?_mapIdx]
      rw [Array.getElem?_eq_getElem (by omega)]
      simp only [Option.map_some, Nat.zero_le, true_and, Nat.zero_add, size_flatK, List.size_toArray, Nat.sub_zero, id]
      rw [if_pos (by rw [hl, hlen]; exact hj)]
    · rw [List.getElem?_eq_none (by rw [List.length_take]; omega), List.getElem?_eq_none (by rw [hfl, hl, hlen]; omega)]
end Vc

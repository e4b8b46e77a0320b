/- Words in a row, stored; sums of words. No condition. -/
import Derived.Test.YtoagdpjickippaaDoorShaB
import Derived.Laws.CopyRow
set_option linter.unusedVariables false
namespace Go.Proofs.YtoagdpjickippaaDoor
open Go Vc ShaM Go.Proofs

theorem one_uv (l : List W) : ∀ u ∈ uv l, u.oneCell' = true := fun u h => by
  obtain ⟨b, _, rfl⟩ := List.mem_map.1 h; rfl
theorem setRow_fr (X : Nat → Prop) (w : World) (g : Nat) (cs : Array Value) (h : X g) : Fr X w (w.setRow g cs) :=
  ⟨rfl, rfl, rfl, by simp [World.setRow], fun k _ hx => by
    simp only [World.setRow, Array.getElem?_modify]
    rw [if_neg (fun e => hx (by rw [← e]; exact h))]⟩
/-- A whole array stored. -/
theorem store_arr {P : Program} {w : World} {base g n : Nat} {e t : TypeId} {xs ys : List W} (h : Own w base e ⟨some ⟨g, 0, none⟩, n, n⟩ (uv xs)) (hy : ys.length = n) (hi : (P.info? t).map (·.size) = some n) :
    ∃ w', (storeVar t ⟨g, 0, none⟩ (.agg (uv ys).toArray)).run P w = .ok () w' ∧ Own w' base e ⟨some ⟨g, 0, none⟩, n, n⟩ (uv ys) ∧ Fr (· = g) w w' := by
  have hn := h.1
  rcases h.2 with ⟨ha, _⟩ | ⟨g', cur, ha, hb, hg, hl, hm, hs, ht⟩
  · cases ha
  · cases ha
    have hr := run_storeVar_row (P := P) w g e t cur (uv ys).toArray hg (by rw [hi, List.size_toArray, uv_len, hy]) (by simp [hy]; exact hs)
      (by rw [Array.all_eq_true_iff_forall_mem]; intro v hv; exact one_uv ys v (by simpa using hv))
    refine ⟨_, hr, ⟨by rw [uv_len, hy], .inr ⟨g, _, rfl, hb, setRow_heap w g cur _ e (0, 0) hg, hl, hm, by rw [List.size_toArray, uv_len, hy], ?_⟩⟩, setRow_fr _ w g _ rfl⟩
    exact List.take_of_length_le (by simp [hy])
set_option maxRecDepth 100000 in
theorem adds_zip : ∀ (h v : List W), adds h v = List.zipWith (· + ·) h v
  | [], _ => by simp [adds]
  | a :: h, [] => by simp [adds]
  | a :: h, b :: v => by simp [adds, adds_zip h v]
/-- The words while they are added. -/
def mix (h v : List W) (i : Nat) : List W := (adds h v).take i ++ h.drop i
theorem mix_next {h v : List W} {i : Nat} (hl : h.length = v.length) (hi : i < h.length) : (mix h v i).set i (h.getD i 0 + v.getD i 0) = mix h v (i + 1) ∧ (mix h v i).getD i 0 = h.getD i 0 ∧ (mix h v i).length = h.length := by
  have hal : (adds h v).length = h.length := by rw [adds_zip, List.length_zipWith]; omega
  have htl : ((adds h v).take i).length = i := by rw [List.length_take]; omega
  have hx : (adds h v)[i]'(by omega) = h.getD i 0 + v.getD i 0 := by
    simp only [adds_zip, List.getElem_zipWith, List.getD_eq_getElem?_getD, List.getElem?_eq_getElem hi, List.getElem?_eq_getElem (show i < v.length by omega), Option.getD_some]
  refine ⟨?_, ?_, ?_⟩
  · unfold mix
    rw [List.set_append_right _ _ (by omega), htl, Nat.sub_self, List.take_succ_eq_append_getElem (by omega), hx, List.append_assoc, List.drop_eq_getElem_cons hi]
    rfl
  · unfold mix
    rw [List.getD_eq_getElem?_getD, List.getElem?_append_right (by omega), htl, Nat.sub_self, List.getElem?_drop]
    rw [List.getD_eq_getElem?_getD]; rfl
  · unfold mix
    rw [List.length_append, List.length_drop, htl]; omega
end Go.Proofs.YtoagdpjickippaaDoor

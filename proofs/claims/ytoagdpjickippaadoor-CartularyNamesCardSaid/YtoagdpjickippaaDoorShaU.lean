/- Hash1 and Sum1 of the package sha. Conditions: the texts are short enough for a slice to hold (2 to the 40th). -/
import Derived.Test.YtoagdpjickippaaDoorShaF1
set_option linter.unusedVariables false
namespace Go.Proofs.YtoagdpjickippaaDoor
open Go Vc ShaM Go.Proofs

theorem start1_spec (w : World) : Calls Tryd.prog F_sha_start1 #[] w fun e w' => e = .returned (.slice (some ⟨w.heap.size, 0, none⟩) 5 5) ∧ Own w' w.heap.size T_uint32 ⟨some ⟨w.heap.size, 0, none⟩, 5, 5⟩ (uv start1) ∧ Fr (fun _ => False) w w' := by
  refine vc_sha_start1_ok (R := fun v w' => v = .slice (some ⟨w.heap.size, 0, none⟩) 5 5 ∧ Own w' w.heap.size T_uint32 ⟨some ⟨w.heap.size, 0, none⟩, 5, 5⟩ (uv start1) ∧ Fr (fun _ => False) w w') ?_ (fun v w' h => ⟨by rw [h.1], h.2⟩)
  intro w1 hw1
  exact ⟨rfl, ⟨rfl, .inr ⟨w.heap.size, _, rfl, Nat.le_refl _, hw1 ▸ alloc_new _ _, Nat.le_refl _, by simp [maxLen], rfl, rfl⟩⟩, hw1 ▸ Fr.alloc _ _ _⟩
theorem HashAt.zero {w w' : World} {T : TypeId} (f : List ShaM.W → List UInt8 → List ShaM.W) (st : List ShaM.W) (h : w' = w.alloc (.cells #[.slice none 0 0, .string ⟨#[]⟩, .int .u64 0] T)) : HashAt w' w.heap.size w.heap.size ⟨none, 0, 0⟩ T f st [] :=
  ⟨Nat.le_refl _, ⟨⟨#[]⟩, rfl, by rw [h]; exact alloc_new _ _⟩, Nat.zero_le _, (fun y hy => by cases hy), .inl ⟨rfl, rfl⟩⟩
section
variable {w : World} {b lo : Nat} {sl : Sl} {T : TypeId} {t : List UInt8}
theorem since_back {w w1 : World} {sl sl' : Sl} (f : Fr (fun _ => False) w w1) (h : Since w1 sl sl') : Since w sl sl' := fun y hy => by
  rcases h y hy with h | h
  · exact .inl h
  · exact .inr (by have := f.size; omega)
theorem h1write_spec (hh : HashAt w b lo sl T block1 start1 t) (x : ByteArray) (hx : t.length + x.size ≤ 1099511627776) :
    Calls Tryd.prog F_sha_Hash1_Write #[.pointer (some ⟨b, 0, none⟩), .string x] w fun e w' =>
      e = .returned (.tuple #[]) ∧ ∃ sl', HashAt w' b lo sl' T block1 start1 (t ++ x.data.toList) ∧ Fr (fun k => k = b ∨ Vc.At sl k) w w' ∧ Since w sl sl' := by
  refine vc_sha_Hash1_Write_ok (R := fun v w' => v = .tuple #[] ∧ ∃ sl', HashAt w' b lo sl' T block1 start1 (t ++ x.data.toList) ∧ Fr (fun k => k = b ∨ Vc.At sl k) w w' ∧ Since w sl sl') ?_ (fun v w' h => ⟨by rw [h.1], h.2⟩)
  intro w1 d1
  refine ⟨fun _ => True, trivial, (start1_spec w1).mono ?_⟩
  rintro e w4 ⟨rfl, o4, f4⟩
  have f14 : Fr (fun _ => False) w w4 := (Fr.drew _ d1).trans' f4
  refine ⟨⟨_, 5, 5⟩, rfl, trivial, ?_⟩
  refine (hw1_spec (hh.keep f14 (by simp) (by simp)) 5 o4.reads x hx).mono ?_
  rintro e w7 ⟨rfl, sl', h7, _, f7, s7⟩
  exact ⟨rfl, rfl, sl', h7, (f14.mono (by simp)).trans f7 (fun k _ h => h), since_back f14 s7⟩
theorem h1sum_spec (hh : HashAt w b lo sl T block1 start1 t) (hx : t.length + 200 ≤ 1099511627776) :
    Calls Tryd.prog F_sha_Hash1_Sum #[.pointer (some ⟨b, 0, none⟩)] w fun e w' => e = .returned (.string ⟨(digest block1 start1 t).toArray⟩) ∧ Fr (fun _ => False) w w' := by
  refine vc_sha_Hash1_Sum_ok (R := fun v w' => v = .string ⟨(digest block1 start1 t).toArray⟩ ∧ Fr (fun _ => False) w w') ?_ (fun v w' h => ⟨by rw [h.1], h.2⟩)
  intro w1 d1
  refine ⟨fun _ => True, trivial, (start1_spec w1).mono ?_⟩
  rintro e w4 ⟨rfl, o4, f4⟩
  have f14 : Fr (fun _ => False) w w4 := (Fr.drew _ d1).trans' f4
  refine ⟨⟨_, 5, 5⟩, rfl, trivial, ?_⟩
  refine (hs1_spec (hh.keep f14 (by simp) (by simp)) 5 o4.reads hx).mono ?_
  rintro e w7 ⟨rfl, f7⟩
  exact ⟨_, rfl, trivial, rfl, f14.trans' f7⟩
end
theorem sum1_spec (x : ByteArray) (hx : x.size + 200 ≤ 1099511627776) (w : World) : Calls Tryd.prog F_sha_Sum1 #[.string x] w fun e w' => e = .returned (.string ⟨(digest block1 start1 x.data.toList).toArray⟩) ∧ Fr (fun _ => False) w w' := by
  refine vc_sha_Sum1_ok (R := fun v w' => v = .string ⟨(digest block1 start1 x.data.toList).toArray⟩ ∧ Fr (fun _ => False) w w') ?_ (fun v w' h => ⟨by rw [h.1], h.2⟩)
  intro w1 hw1
  have f1 : Fr (fun _ => False) w w1 := hw1 ▸ Fr.alloc _ _ _
  have h1 := HashAt.zero (T := T_sha_Hash1) block1 start1 hw1
  refine (h1write_spec h1 x (by simp; omega)).mono ?_
  rintro e w3 ⟨rfl, sl', h3, f3, _⟩
  refine ⟨rfl, (h1sum_spec h3 (by simp; omega)).mono ?_⟩
  rintro e w5 ⟨rfl, f5⟩
  refine ⟨_, rfl, rfl, (f1.trans f3 (fun k hk h => ?_)).trans' f5⟩
  rcases h with h | ⟨y, hy, _⟩
  · omega
  · cases hy
end Go.Proofs.YtoagdpjickippaaDoor

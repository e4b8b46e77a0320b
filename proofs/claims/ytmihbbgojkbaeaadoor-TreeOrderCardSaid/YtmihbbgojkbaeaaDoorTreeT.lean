/- The law of a folder's order walked. Conditions: the table that folds ASCII letters lies as its initialiser lays it; texts are no longer than memory. -/
import Derived.Test.YtmihbbgojkbaeaaDoorTreeW
set_option linter.unusedVariables false
namespace Go.Proofs.YtmihbbgojkbaeaaDoor
open Go Vc HexM TreeM Go.Proofs

/-- 'TreeOrder'. -/
theorem treeOrder_walk {a : Option Addr} {n c : Nat} {W : World} {xs : List Ent} (hE : Ents W a n xs) (hc : n ≤ c) (x1 x2 : Int) (h2 : (Lit.int .i64 x2).wf = true) (ht : Tab W) : Calls Tryd.prog F_cartularylaw14_TreeOrder #[.slice a n c, .int .i64 x1, .int .i64 x2] W fun e w' => e = .returned (.bool true) ∧ RowKit.Below W.heap.size W w' := by
  refine vc_cartularylaw14_TreeOrder_ok (R := fun v w' => v = .bool true ∧ Fr (fun k => W.heap.size ≤ k) W w') ?_ (fun v w' h => ⟨by rw [h.1], h.2.below (Nat.le_refl _)⟩)
  have up : ∀ {w' : World}, Fr (fun _ => False) W w' → Fr (fun k => W.heap.size ≤ k) W w' := fun h => h.mono fun _ _ h => h.elim
  refine (fewE_spec hE hc).mono ?_
  rintro e w2 ⟨l3, rfl, ho, hf2⟩
  have hE2 := hE.take600 ho
  have hl600 : (xs.take 600).length ≤ 600 := by rw [List.length_take]; omega
  generalize xs.take 600 = ys at ho hE2 hl600
  have hlen := hE2.len
  refine ⟨l3, rfl, (check_spec hE2 (ht.keep hf2 (by simp))).mono ?_⟩
  rintro e w5 ⟨rfl, hf5⟩
  have hf5' := hf2.trans' hf5
  have aw : Calls Tryd.prog F_cartularylaw14_awake #[] w5 fun e w' => ∃ b : Bool, e = .returned (.bool b) ∧ (Value.bool b = .bool true ∧ Fr (fun k => W.heap.size ≤ k) W w') :=
    (awake14_spec w5 (ht.keep hf5' (by simp))).mono fun e w' h => ⟨true, h.1, rfl, up (hf5'.trans' h.2)⟩
  refine ⟨_, rfl, fun hne => (awake14_spec w5 (ht.keep hf5' (by simp))).mono ?_, fun h0 => ⟨fun _ => aw, fun g1 => ⟨fun _ => aw, fun g2 => ⟨fun _ => aw, fun g3 => ?_⟩⟩⟩⟩
  · rintro e w8 ⟨rfl, hf8⟩
    refine ⟨_, rfl, fun _ => (rcheck_spec (hE2.keep (hf5.trans' hf8) (by simp)) ho.cap).mono ?_, fun h => (by cases h)⟩
    rintro e w11 ⟨rfl, hf11⟩
    exact ⟨_, rfl, by rw [hne], up ((hf5'.trans' hf8).trans' hf11)⟩
  have h0 : checkE isGit ys = 0 := by simpa using h0
  have g1 := of_decide_eq_false g1
  have g2 := of_decide_eq_false g2
  have g3 := of_decide_eq_false g3
  clear aw
  obtain ⟨i, rfl⟩ : ∃ i : Nat, x1 = i := ⟨x1.toNat, by omega⟩
  obtain ⟨j, rfl⟩ : ∃ j : Nat, x2 = j := ⟨x2.toNat, by omega⟩
  have hij : i < j := by omega
  have hj : j < ys.length := by omega
  have hx : ys[i]? = some ys[i] := List.getElem?_eq_getElem (by omega)
  have hy : ys[j]? = some ys[j] := List.getElem?_eq_getElem hj
  obtain ⟨x, hxe⟩ : ∃ x, ys[i] = x := ⟨_, rfl⟩
  obtain ⟨y, hye⟩ : ∃ y, ys[j] = y := ⟨_, rfl⟩
  rw [hxe] at hx
  rw [hye] at hy
  clear hxe hye
  refine (fewE_spec (hE2.keep hf5 (by simp)) ho.cap).mono ?_
  rintro e w23 ⟨l24, rfl, ho23, hf23⟩
  rw [List.take_of_length_le hl600] at ho23
  refine ⟨l24, rfl, fun w25 d25 => ⟨fun w' => Fr (fun _ => False) w25 w', .refl _ _, ?_⟩⟩
  have ho25 := ho23.drew d25
  have hl24 := ho25.len
  have hf25 : Fr (fun _ => False) w5 w25 := hf23.trans' (.drew _ d25)
  obtain ⟨ad, had, hst38⟩ := ho25.setAt elE (i := i) (by omega) y
  obtain ⟨w38, hr38, ho38, hf38⟩ := hst38
  obtain ⟨ad', had', w40, hr40, ho40, hf40⟩ := ho38.setAt elE (i := j) (by rw [List.length_set]; exact hj) x
  have had'' : ad' = ad := by rw [had] at had'; exact (Option.some.inj had').symm
  subst had''
  have hload : ∀ {k : Nat} {z : Ent}, ys[k]? = some z → ∀ w', Fr (fun _ => False) w25 w' → (loadVar T_api_Entry (ad'.add (k * 3))).run Tryd.prog w' = .ok (.agg #[.int .i64 z.mode, .string z.name, .string z.id]) w' := fun {k z} hz w' hw' => by
    obtain ⟨b, hb, hl⟩ := ((ho25.reads fun _ => rfl).keep hw' (by simp)).load elE hz
    rw [had] at hb
    cases hb
    exact hl
  refine ⟨⟨by omega, by omega⟩, ad', had, y.mode, y.name, y.id, by rw [Int.toNat_natCast]; exact hload hy, ⟨by omega, by omega⟩, ad', had, x.mode, x.name, x.id, by rw [Int.toNat_natCast]; exact hload hx, ⟨by omega, by omega⟩, ad', had, w38, by rw [Int.toNat_natCast]; exact hr38,
    ⟨by omega, by omega⟩, ad', had, w40, by rw [Int.toNat_natCast]; exact hr40, fun w41 d41 => ⟨fun _ => True, trivial, ?_⟩⟩
  have hcap := ho.cap
  have hwf := h2
  have e1 : IntKind.i64.wrap ((i : Int) + 1) = ((i + 1 : Nat) : Int) := by rw [wrap_i64 (by omega) (by omega)]; omega
  rw [e1, Int.toNat_natCast, Int.toNat_natCast]
  have hb24 : ∀ {q : Nat}, q < w5.heap.size → ¬ At l24 q := fun {q} hq ⟨z, hz, e⟩ => by have := (ho25.blk hz).1; omega
  have hf40' : Fr (fun _ => False) w5 w40 := (hf25.trans hf38 fun q hq h => hb24 hq h).trans hf40 fun q hq h => hb24 hq h
  have hf41 : Fr (fun _ => False) w5 w41 := hf40'.trans' (.drew _ d41)
  have ho41 := ho40.drew d41
  have hE41 := hE2.keep (hf5.trans' hf41) (by simp)
  have hsub0 := hE41.reads.sub (cap := l3.cap) (by omega) 0
  rw [List.drop_zero] at hsub0
  have hEi : Ents w41 (subA l3.a l3.cap 0 3) i (ys.take i) := ⟨by rw [List.length_take]; omega, hsub0.take i, fun z hz => hE2.name z (List.mem_of_mem_take hz), fun z hz => hE2.id z (List.mem_of_mem_take hz)⟩
  refine ⟨⟨by omega, by omega⟩, ⟨by omega, by omega⟩, (fewE_spec hEi (by omega)).mono ?_⟩
  rintro e w44 ⟨l45, rfl, ho45, hf45⟩
  have hli : (ys.take i).length = i := by rw [List.length_take]; omega
  have hld : (ys.drop (i + 1)).length = ys.length - (i + 1) := List.length_drop
  rw [List.take_of_length_le (by omega)] at ho45
  have hsub := (hE41.keep hf45 (by simp)).reads.sub (cap := l3.cap) (by omega) (i + 1)
  obtain ⟨w46, l47, hr46, ho46, hf46⟩ := append_allK elE ho45 (l3.cap - (i + 1)) hsub (by unfold maxLen; omega) (by omega) hf45.size (m := l3.len - (i + 1)) (by omega)
  have hf46' : Fr (fun _ => False) w41 w46 := hf45.trans hf46 fun q hq ⟨z, hz, e⟩ => by have := (ho45.blk hz).1; omega
  have hf46'' := hf41.trans' hf46'
  refine ⟨l45, rfl, trivial, w46, l47, hr46, trivial, ?_⟩
  have ho46' := ho41.keep hf46' (by simp)
  have hmem : ∀ z ∈ (ys.set i y).set j x, z ∈ ys := fun z hz => by
    rcases List.mem_or_eq_of_mem_set hz with hz | rfl
    · rcases List.mem_or_eq_of_mem_set hz with hz | rfl
      · exact hz
      · exact List.mem_of_getElem? hy
    · exact List.mem_of_getElem? hx
  have hmem2 : ∀ z ∈ ys.take i ++ ys.drop (i + 1), z ∈ ys := fun z hz => by
    rcases List.mem_append.1 hz with hz | hz
    · exact List.mem_of_mem_take hz
    · exact List.mem_of_mem_drop hz
  have hEt : Ents w46 l24.a l24.len ((ys.set i y).set j x) := own_ents (m := 0) ho46' (fun z hz => hE2.name z (hmem z hz)) (fun z hz => hE2.id z (hmem z hz))
  have hEl : Ents w46 l47.a l47.len (ys.take i ++ ys.drop (i + 1)) := own_ents (m := 0) ho46 (fun z hz => hE2.name z (hmem2 z hz)) (fun z hz => hE2.id z (hmem2 z hz))
  have htW := hf5'.trans' hf46''
  refine (format_spec hEt (ht.keep htW (by simp))).mono ?_
  rw [check_swap h0 hij hj x y hx hy, if_neg (by decide)]
  rintro e w49 ⟨rfl, hf49⟩
  refine ⟨_, _, rfl, (format_spec (hEl.keep hf49 (by simp)) (ht.keep (htW.trans' hf49) (by simp))).mono ?_⟩
  rw [check_less h0 i]
  rintro e w53 ⟨rfl, hf53⟩
  have htW' := (htW.trans' hf49).trans' hf53
  refine ⟨_, _, rfl, (awake14_spec w53 (ht.keep htW' (by simp))).mono ?_⟩
  rintro e w57 ⟨rfl, hf57⟩
  exact ⟨_, rfl, fun _ => ⟨fun _ => ⟨fun _ => ⟨rfl, up (htW'.trans' hf57)⟩, fun h => (by rw [bs_eq] at h; simp at h)⟩, fun h => (by simp at h)⟩, fun h => (by cases h)⟩
end Go.Proofs.YtmihbbgojkbaeaaDoor

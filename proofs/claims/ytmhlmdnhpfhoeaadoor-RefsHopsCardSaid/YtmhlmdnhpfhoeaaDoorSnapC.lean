/- (*Snap).Under: the paths that begin so. Conditions: as named. -/
import Derived.Test.YtmhlmdnhpfhoeaaDoorSnapB
set_option linter.unusedVariables false
namespace Go.Proofs.YtmhlmdnhpfhoeaaDoor
open Go Vc Go.Proofs

theorem pre_between : ∀ (a b c : List UInt8), ¬ b < a → ¬ c < b → a <+: c → a <+: b
  | [], b, c, _, _, _ => List.nil_prefix
  | x :: a, [], c, h, _, _ => absurd (List.nil_lt_cons x a) h
  | x :: a, y :: b, [], _, _, h => by simp at h
  | x :: a, y :: b, z :: c, h1, h2, h3 => by
    rw [List.cons_prefix_cons] at h3 ⊢
    obtain ⟨rfl, h3⟩ := h3
    rw [List.cons_lt_cons_iff] at h1 h2
    have e1 : ¬ y < x := fun h => h1 (.inl h)
    have e2 : ¬ x < y := fun h => h2 (.inl h)
    have e : x = y := UInt8.toNat_inj.1 (by rw [UInt8.lt_iff_toNat_lt] at e1 e2; omega)
    subst e
    exact ⟨rfl, pre_between a b c (fun h => h1 (.inr ⟨rfl, h⟩)) (fun h => h2 (.inr ⟨rfl, h⟩)) h3⟩
theorem pre_le : ∀ (a c : List UInt8), a <+: c → ¬ c < a
  | [], c, _ => by simp
  | x :: a, [], h => by simp at h
  | x :: a, z :: c, h => by
    rw [List.cons_prefix_cons] at h
    obtain ⟨rfl, h⟩ := h
    rw [List.cons_lt_cons_iff]
    rintro (h1 | ⟨_, h1⟩)
    · rw [UInt8.lt_iff_toNat_lt] at h1; omega
    · exact pre_le a c h h1
def underE (xs : List FileE) (front : ByteArray) : List ByteArray := (xs.filter fun x => begB x.path front).map (·.path)
theorem filter_mid {α : Type} (f : α → Bool) (xs : List α) {i m : Nat} (him : i ≤ m) (h1 : ∀ k x, xs[k]? = some x → k < i → f x = false) (h2 : ∀ k x, xs[k]? = some x → i ≤ k → k < m → f x = true) (h3 : ∀ k x, xs[k]? = some x → m ≤ k → f x = false) : xs.filter f = (xs.take m).drop i := by
  have hx : xs = (xs.take m).take i ++ (xs.take m).drop i ++ xs.drop m := by rw [List.take_append_drop, List.take_append_drop]
  have e1 : ((xs.take m).take i).filter f = [] := by
    rw [List.filter_eq_nil_iff]
    intro x hx
    obtain ⟨k, hk⟩ := List.mem_iff_getElem?.1 hx
    rw [List.getElem?_take] at hk
    split at hk
    · rename_i hki
      rw [List.getElem?_take, if_pos (by omega)] at hk
      rw [h1 k x hk hki]; decide
    · cases hk
  have e2 : ((xs.take m).drop i).filter f = (xs.take m).drop i := by
    rw [List.filter_eq_self]
    intro x hx
    obtain ⟨k, hk⟩ := List.mem_iff_getElem?.1 hx
    rw [List.getElem?_drop, List.getElem?_take] at hk
    split at hk
    · rename_i hki
      exact h2 _ x hk (by omega) hki
    · cases hk
  have e3 : (xs.drop m).filter f = [] := by
    rw [List.filter_eq_nil_iff]
    intro x hx
    obtain ⟨k, hk⟩ := List.mem_iff_getElem?.1 hx
    rw [List.getElem?_drop] at hk
    rw [h3 _ x hk (by omega)]; decide
  conv => lhs; rw [hx]
  rw [List.filter_append, List.filter_append, e1, e2, e3, List.nil_append, List.append_nil]
/-- A folder of files that stands still. -/
structure IsSnap (w : World) (b : Nat) (l : Sl) (xs : List FileE) (size : Int) : Prop where
  files : w.cell? ⟨b, 0, none⟩ = some (.slice l.a l.len l.cap)
  size : w.cell? ⟨b, 1, none⟩ = some (.int .i64 size)
  len : xs.length = l.len
  reads : ReadsK encF 2 w l.a xs
  small : xs.length ≤ 1000000
theorem IsSnap.keep {w w1 : World} {b : Nat} {l : Sl} {xs : List FileE} {size : Int} (h : IsSnap w b l xs size) (hf : Fr (fun _ => False) w w1) : IsSnap w1 b l xs size :=
  ⟨hf.cell h.files (by simp), hf.cell h.size (by simp), h.len, h.reads.keep hf (by simp), h.small⟩
theorem under_spec {w : World} {b : Nat} {l : Sl} {xs : List FileE} {size : Int} (h : IsSnap w b l xs size) (hs : Rising xs) (front : ByteArray) : Calls Tryd.prog F_snap_Snap_Under #[.pointer (some ⟨b, 0, none⟩), .string front] w fun e w' =>
    ∃ o, e = .returned (.slice o.a o.len o.cap) ∧ Vc.Own w' w.heap.size T_string o (strV (underE xs front)) ∧ Fr (fun _ => False) w w' := by
  refine vc_snap_Snap_Under_ok (R := fun v w' => ∃ o : Sl, v = .slice o.a o.len o.cap ∧ Vc.Own w' w.heap.size T_string o (strV (underE xs front)) ∧ Fr (fun _ => False) w w') ?_ (fun v w' ⟨o, h⟩ => ⟨o, by rw [h.1], h.2⟩)
  have hsm := h.small
  have hlen := h.len
  refine ⟨l, h.files, (search_spec h.reads h.len (by omega) hs ⟨front, ⟨#[]⟩⟩).mono ?_⟩
  rintro e w3 ⟨i, hin, rfl, hiff, hf3⟩
  refine ⟨_, _, rfl, fun o j w' => ∃ m : Nat, j = m ∧ i ≤ m ∧ m ≤ xs.length ∧ (∀ k x, xs[k]? = some x → i ≤ k → k < m → begB x.path front = true) ∧ Vc.Own w' w.heap.size T_string o (strV (((xs.take m).drop i).map (·.path))) ∧ Fr (fun _ => False) w w', fun _ j _ => xs.length - j.toNat,
    ⟨i, rfl, Nat.le_refl _, by omega, fun k x _ h1 h2 => by omega, by rw [List.drop_eq_nil_of_le (by rw [List.length_take]; omega)]; exact Vc.Own.nil _ _ _, hf3⟩, ?_⟩
  rintro o j w10 ⟨m, rfl, him, hm, hall, ho, hf⟩
  have hk := h.keep hf
  have e1 : IntKind.i64.wrap ((m : Int) + 1) = ((m + 1 : Nat) : Int) := by rw [wrap_i64 (by omega) (by omega)]; omega
  rw [e1]
  have hlow : ∀ k x, xs[k]? = some x → k < i → begB x.path front = false := fun k x hx hki => by
    have := (hiff k x hx).2 hki
    refine decide_eq_false fun hp => pre_le _ _ hp this
  have fin : (∀ k x, xs[k]? = some x → m ≤ k → begB x.path front = false) → Vc.Own w10 w.heap.size T_string o (strV (underE xs front)) := fun h3 => by
    unfold underE
    rw [filter_mid (fun x => begB x.path front) xs him hlow hall h3]
    exact ho
  refine ⟨l, hk.files, fun hlt => ⟨l, hk.files, ?_⟩, fun hge => ⟨o, rfl, fin fun k x hx hmk => ?_, hf⟩⟩
  · have hlt := of_decide_eq_true hlt
    have hml : m < xs.length := by omega
    have hx : xs[m]? = some xs[m] := List.getElem?_eq_getElem hml
    generalize xs[m] = x at hx
    obtain ⟨ad, had, hc⟩ := hk.reads m x hx
    have hc0 : w10.cell? (ad.add (m * 2)) = some (.string x.path) := by
      have := hc 0 (.string x.path) rfl
      rw [add_add] at this; simpa using this
    refine ⟨⟨by omega, by omega⟩, ad, had, x.path, by rw [Int.toNat_natCast]; exact hc0, (hasPrefix_spec x.path front w10).mono ?_⟩
    rintro e w16 ⟨rfl, hw⟩
    replace hw := hw.symm
    subst hw
    refine ⟨_, rfl, fun hb => ⟨l, hk.files, ⟨by omega, by omega⟩, ad, had, x.path, by rw [Int.toNat_natCast]; exact hc0, fun w21 h21 => ?_⟩, fun hb => ⟨o, rfl, fin fun k y hy hmk => ?_, hf⟩⟩
    · have hol : (((xs.take m).drop i).map (·.path)).length ≤ 1000000 := by rw [List.length_map, List.length_drop, List.length_take]; omega
      obtain ⟨w22, o23, hr22, ho22, hf22, _⟩ := append_one' elString ho (v := .string x.path) rfl (by simp only [strV, List.length_map, maxLen] at hol ⊢; omega) (by simp only [strV, List.length_map] at hol ⊢; omega) hf.size h21
      refine ⟨w22, o23, hr22, ⟨m + 1, rfl, by omega, by omega, fun k y hy h1 h2 => ?_, ?_, hf.trans hf22 fun q hq ⟨z, hz, e⟩ => by have := (ho.blk hz).1; omega⟩, by dsimp only; omega⟩
      · by_cases hkm : k = m
        · subst hkm; rw [hx] at hy; cases hy; exact hb
        · exact hall k y hy h1 (by omega)
      · have : (xs.take (m + 1)).drop i = (xs.take m).drop i ++ [x] := by
          rw [List.take_add_one, hx, Option.toList, List.drop_append_of_le_length (by rw [List.length_take]; omega)]
        rw [this]
        simpa [strV] using ho22
    · by_cases hkm : k = m
      · subst hkm; rw [hx] at hy; cases hy; exact hb
      · refine decide_eq_false fun hp => ?_
        have hge1 : ¬ x.path.data.toList < front.data.toList := fun hl => by have := (hiff m x hx).1 hl; omega
        have hge2 : ¬ y.path.data.toList < x.path.data.toList := by
          have := (List.pairwise_iff_getElem.1 hs) m k hml (List.getElem?_eq_some_iff.1 hy).1 (by omega)
          rw [(List.getElem?_eq_some_iff.1 hx).2, (List.getElem?_eq_some_iff.1 hy).2] at this
          exact this
        have := pre_between _ _ _ hge1 hge2 hp
        rw [begB, decide_eq_false_iff_not] at hb
        exact hb this
  · have hge := of_decide_eq_false hge
    have := (List.getElem?_eq_some_iff.1 hx).1
    omega
end Go.Proofs.YtmhlmdnhpfhoeaaDoor

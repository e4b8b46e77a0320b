/- The front part: (*Snap).Get and (*Snap).List. Conditions: texts are no longer than memory. -/
import Derived.Test.YtmhlmdnhpfhoeaaDoorSnapD
set_option linter.unusedVariables false
namespace Go.Proofs.YtmhlmdnhpfhoeaaDoor
open Go Vc Go.Proofs

theorem cut_sz (s : ByteArray) (c : UInt8) : (cutS s c).1.size + (cutS s c).2.1.size ≤ s.size ∧ ((cutS s c).2.2 = true → (cutS s c).1.size + (cutS s c).2.1.size + 1 = s.size) := by
  unfold cutS
  rcases fnd_cases s c with ⟨h, _⟩ | ⟨i, h, hi, _⟩
  · rw [h, if_pos rfl]
    refine ⟨?_, fun h => by cases h⟩
    show s.size + 0 ≤ s.size
    omega
  · rw [h, if_neg (by omega), Int.toNat_natCast]
    simp only [ByteArray.size_extract]
    exact ⟨by omega, fun _ => by omega⟩
def getE (xs : List FileE) (p : ByteArray) : ByteArray × Int := match xs.find? (fun x => decide (x.path = p)) with
  | some x => (x.data, 0)
  | none => (⟨#[]⟩, 7)
theorem get_spec {w : World} {b : Nat} {l : Sl} {xs : List FileE} {size : Int} (h : IsSnap w b l xs size) (hs : Rising xs) (p : ByteArray) : Calls Tryd.prog F_snap_Snap_Get #[.pointer (some ⟨b, 0, none⟩), .string p] w fun e w' =>
    e = .returned (.tuple #[.string (getE xs p).1, .int .i64 (getE xs p).2]) ∧ Fr (fun _ => False) w w' := by
  refine vc_snap_Snap_Get_ok (R := fun v w' => v = .tuple #[.string (getE xs p).1, .int .i64 (getE xs p).2] ∧ Fr (fun _ => False) w w') ?_ (fun v w' h => ⟨by rw [h.1], h.2⟩)
  have hsm := h.small
  have hlen := h.len
  refine ⟨l, h.files, (search_spec h.reads h.len (by omega) hs ⟨p, ⟨#[]⟩⟩).mono ?_⟩
  rintro e w3 ⟨i, hin, rfl, hiff, hf3⟩
  refine ⟨_, _, rfl, fun hb => ?_, fun hb => ⟨l, (h.keep hf3).files, ?_⟩⟩
  · have hno : xs.find? (fun x => decide (x.path = p)) = none := by
      rw [List.find?_eq_none]
      intro x hx
      rw [decide_eq_true_eq]
      intro he
      obtain ⟨k, hk⟩ := List.mem_iff_getElem?.1 hx
      have hnl : ¬ k < i := fun h => by
        have := (hiff k x hk).2 h
        rw [he] at this; exact List.lt_irrefl _ this
      have hil : i < xs.length := by have := (List.getElem?_eq_some_iff.1 hk).1; omega
      have hy : xs[i]? = some xs[i] := List.getElem?_eq_getElem hil
      generalize xs[i] = y at hy
      rw [hy] at hb
      have hyp : y.path ≠ p := by simpa using hb
      have h1 : ¬ y.path.data.toList < p.data.toList := fun h => by have := (hiff i y hy).1 h; omega
      by_cases hki : k = i
      · subst hki; rw [hy] at hk; cases hk; exact hyp he
      · have h2 := (List.pairwise_iff_getElem.1 hs) i k hil (List.getElem?_eq_some_iff.1 hk).1 (by omega)
        rw [(List.getElem?_eq_some_iff.1 hk).2, (List.getElem?_eq_some_iff.1 hy).2, he] at h2
        rcases lt_tri y.path.data.toList p.data.toList with h3 | h3 | h3
        · exact h1 h3
        · exact hyp (bs_ext h3)
        · exact h2 h3
    unfold getE
    rw [hno]
    exact ⟨rfl, hf3⟩
  · cases hxi : xs[i]? with
    | none => rw [hxi] at hb; simp at hb
    | some x =>
      rw [hxi] at hb
      have hxp : x.path = p := by simpa using hb
      have hil := (List.getElem?_eq_some_iff.1 hxi).1
      obtain ⟨ad, had, hc⟩ := (h.keep hf3).reads i x hxi
      have hc1 : w3.cell? ((ad.add (i * 2)).add 1) = some (.string x.data) := hc 1 (.string x.data) rfl
      refine ⟨⟨by omega, by omega⟩, ad, had, x.data, by rw [Int.toNat_natCast]; exact hc1, ?_, hf3⟩
      have hfd : ∃ y, xs.find? (fun x => decide (x.path = p)) = some y ∧ y.path = p ∧ ∃ k, xs[k]? = some y ∧ k ≤ i := by
        cases hff : xs.find? (fun x => decide (x.path = p)) with
        | none => exact absurd (List.find?_eq_none.1 hff x (List.mem_of_getElem? hxi)) (by simp [hxp])
        | some y =>
          obtain ⟨h1, k, hk, h2, h3⟩ := List.find?_eq_some_iff_getElem.1 hff
          refine ⟨y, rfl, of_decide_eq_true h1, k, by rw [List.getElem?_eq_getElem hk, h2], ?_⟩
          by_cases hki : k ≤ i
          · exact hki
          · have := h3 i (by omega)
            rw [(List.getElem?_eq_some_iff.1 hxi).2] at this
            simp [hxp] at this
      obtain ⟨y, hy1, hy2, k, hk, hki⟩ := hfd
      have hke : k = i := by
        by_cases hlt : k < i
        · have := (hiff k y hk).2 hlt
          rw [hy2] at this; exact absurd this (List.lt_irrefl _)
        · omega
      subst hke
      rw [hxi] at hk; cases hk
      unfold getE
      rw [hy1]
end Go.Proofs.YtmhlmdnhpfhoeaaDoor

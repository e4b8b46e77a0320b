/- The reference's Get. No condition but lengths. -/
import Derived.Test.YtmihbbgojkbaeaaDoorSnapG
set_option linter.unusedVariables false
namespace Go.Proofs.YtmihbbgojkbaeaaDoor
open Go Vc Go.Proofs

theorem rget_spec {w : World} {a : Option Addr} {n c : Nat} {xs : List FileE} (hr : ReadsK encF 2 w a xs) (hn : xs.length = n) (hl : n ≤ 1000000) (p : ByteArray) : Calls Tryd.prog F_cartularyref07_Get #[.slice a n c, .string p] w fun e w' =>
    e = .returned (.tuple #[.string (getE xs p).1, .bool (decide ((getE xs p).2 = 0))]) ∧ Fr (fun _ => False) w w' := by
  refine vc_cartularyref07_Get_ok (R := fun v w' => v = .tuple #[.string (getE xs p).1, .bool (decide ((getE xs p).2 = 0))] ∧ Fr (fun _ => False) w w') ?_ (fun v w' h => ⟨by rw [h.1], h.2⟩)
  refine ⟨fun i w' => ∃ k : Nat, i = k ∧ k ≤ n ∧ (∀ x ∈ xs.take k, x.path ≠ p) ∧ Fr (fun _ => False) w w', fun i _ => n - i.toNat, ⟨0, rfl, Nat.zero_le _, fun x hx => by simp at hx, .refl _ _⟩, ?_⟩
  rintro i w4 ⟨k, rfl, hk, hno, hf⟩
  have e1 : IntKind.i64.wrap ((k : Int) + 1) = ((k + 1 : Nat) : Int) := by rw [wrap_i64 (by omega) (by omega)]; omega
  rw [e1]
  refine ⟨fun hlt => ?_, fun hge => ?_⟩
  · have hlt := of_decide_eq_true hlt
    have hkl : k < xs.length := by omega
    have hx : xs[k]? = some xs[k] := List.getElem?_eq_getElem hkl
    generalize xs[k] = x at hx
    obtain ⟨ad, had, hload⟩ := (hr.keep hf (by simp)).load elF hx
    refine ⟨⟨by omega, by omega⟩, ad, had, x.path, x.data, by rw [Int.toNat_natCast]; exact hload, fun w8 h8 => ?_⟩
    subst h8
    have hfa := hf.trans' (Fr.alloc (fun _ => False) w4 (.cells (encF x).toArray T_api_File))
    refine ⟨_, boxF_run w4 x, x.path, boxF_cell w4 x (.refl (fun _ => False) _) (by simp) rfl, fun he => ⟨x.data, boxF_cell w4 x (.refl (fun _ => False) _) (by simp) (j := 1) rfl, ?_, hfa⟩, fun he => ⟨⟨k + 1, rfl, by omega, fun y hy => ?_, hfa⟩, by dsimp only; omega⟩⟩
    · rw [bs_eq] at he
      have he := of_decide_eq_true he
      have hfd : xs.find? (fun x => decide (x.path = p)) = some x := by
        have hsp : xs = xs.take k ++ (x :: xs.drop (k + 1)) := by
          have := List.drop_eq_getElem_cons hkl
          rw [(List.getElem?_eq_some_iff.1 hx).2] at this
          rw [← this, List.take_append_drop]
        rw [hsp, List.find?_append, List.find?_eq_none.2 (fun y hy => by simpa using hno y hy)]
        simp [he]
      unfold getE
      rw [hfd]; rfl
    · rw [List.take_add_one, hx] at hy
      rcases List.mem_append.1 hy with hy | hy
      · exact hno y hy
      · simp only [Option.toList, List.mem_cons, List.mem_nil_iff, or_false] at hy
        subst hy
        rw [bs_eq] at he
        exact of_decide_eq_false he
  · have hge := of_decide_eq_false hge
    have hk' : k = xs.length := by omega
    rw [hk', List.take_of_length_le (Nat.le_refl _)] at hno
    unfold getE
    rw [List.find?_eq_none.2 (fun y hy => by simpa using hno y hy)]
    exact ⟨rfl, hf⟩
end Go.Proofs.YtmihbbgojkbaeaaDoor

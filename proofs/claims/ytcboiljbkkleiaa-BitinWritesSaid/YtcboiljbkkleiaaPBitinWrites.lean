/- The statement BitinWritesSaid of this seat: for every input the law returns true and its arguments read as they did. No condition. -/
import Derived.Test.YtcboiljbkkleiaaRows
import Derived.Test.YtcboiljbkkleiaaWWrites
import Derived.Test.YtcboiljbkkleiaaVcOpen
import Derived.WalkKit
import Derived.ProofKit
import Derived.OpenShut
import Derived.ShutString
import Derived.ChangeOld
import Derived.Below
namespace Go.Proofs.Ytcboiljbkkleiaa.bitinWrites
open Go.ChangeShapes Go.WideShapes Go.ChangeAt Go.RowKit
open Go.ChangeMaps (open_string shut_string)
set_option linter.unusedVariables false

theorem own : ownKnob Try.prog.godebug = none := by kernel_rfl
theorem laidOut : laidOutB Try.prog = true := by kernel_rfl

set_option maxRecDepth 100000 in
theorem lifted (os : Os) (started : os.Started) (H : Type) (enc : TypeId × Value → H) :
    ReturnsInHanded {} Try.checked os 8 .any (Rows.bitinWritesSpec.pre6 enc Try.prog Try.f8 Rows.bitinWritesRow.domain false) (Rows.bitinWritesSpec.post enc Try.prog Try.f8 false true false false) := by
  refine returnsInHanded_of_change (C := Try.checked) own started (by kernel_rfl) Try.func8
    (ChangeSpec.witness6 (enc := enc) (C := Try.checked) false ⟨#[], #[.slice none 0 0], []⟩ 8 (by kernel_rfl) (by kernel_rfl) (by kernel_rfl) (by kernel_rfl)) ?_
  intro W base args ds gs before hval0 hW hcnd _
  have hval : ∀ (j : Nat) t v, Try.f8.params[j]? = some t → args[j]? = some v → Value.okWide Try.prog W .any base t v := hval0
  have hW' := hW
  obtain ⟨p, q, hA0, hV, rfl, hfz, hnd⟩ := hW
  have hA : DataW.TrodAll enc Try.prog W 0 (fun _ => true) true Try.f8.params.toList args.toList ds p := hA0
  rw [Try.params8] at hA hval
  obtain ⟨v0, vs0, d0, ds0, p0, q0, hargs, rfl, rfl, h0, r0⟩ := trodAll_cons hA
  obtain ⟨rfl, rfl, rfl⟩ := trodAll_nil r0
  obtain rfl : args = #[v0] := by cases args; simp_all
  obtain ⟨rfl, rfl⟩ := trodVars_none hV
  obtain ⟨a0, len0, cap0, rfl⟩ := okWide_slice Try.underlying45 (hval 0 45 v0 rfl rfl)
  have k0 := h0
  have lt0 : ∀ x ∈ p0, x.block < W.heap.size := by obtain ⟨m, hm⟩ := k0; exact DataW.trod_lt m _ _ _ hm
  have w0 : Vc.IsRows 4 (fun vs => ∃ x0 x1 x2 x3, vs = [.int .i64 x0, .int .i64 x1, .int .u32 x2, .string x3] ∧ (Lit.int .i64 x0).wf = true ∧ (Lit.int .i64 x1).wf = true ∧ (Lit.int .u32 x2).wf = true ∧ x3.size ≤ maxLen) W a0 len0 := by
    obtain ⟨fuel, hf⟩ := h0
    refine Vc.open_rows Try.underlying45 Try.underlying49 (by kernel_rfl) (by kernel_rfl) ?_ hf
    intro n cs hcs hall
    match cs, hcs with
    | [c0, c1, c2, c3], _ =>
      obtain ⟨y0, g0⟩ := hall 0 _ c0 rfl rfl
      obtain ⟨x0, e0, _, f0⟩ := DataW.trod_int Try.underlying3 g0
      obtain rfl := (List.cons.inj e0).1
      obtain ⟨y1, g1⟩ := hall 1 _ c1 rfl rfl
      obtain ⟨x1, e1, _, f1⟩ := DataW.trod_int Try.underlying3 g1
      obtain rfl := (List.cons.inj e1).1
      obtain ⟨y2, g2⟩ := hall 2 _ c2 rfl rfl
      obtain ⟨x2, e2, _, f2⟩ := DataW.trod_int Try.underlying26 g2
      obtain rfl := (List.cons.inj e2).1
      obtain ⟨y3, g3⟩ := hall 3 _ c3 rfl rfl
      obtain ⟨x3, e3, _, f3⟩ := DataW.trod_string Try.underlying9 g3
      obtain rfl := (List.cons.inj e3).1
      exact ⟨x0, x1, x2, x3, rfl, f0, f1, f2, f3⟩
  clear hA0 hval0
  refine (writes_walk a0 len0 cap0 W w0).mono fun e W' ⟨he, bel⟩ => ?_
  subst he
  exact ⟨_, rfl, _, _, _, [], _, [], hW', trodAll_mk1 (shut_bool Try.underlying4 _), (trodAll_cons_mk (Below.trod laidOut (by kernel_rfl) (of_decide_eq_true (by kernel_rfl)) k0 bel lt0) trodAll_mk0), rfl, bel.frame _, fun h => by cases h⟩

theorem over : Rows.bitinWritesRow.holds Try.pinned (OpenSpec.ofChange Rows.bitinWritesSpec) :=
  OpenClaim.holds_of_wide 8 Try.f8 rfl rfl rfl rfl rfl rfl rfl ⟨rfl, rfl, rfl, rfl, rfl⟩ rfl rfl rfl rfl rfl (by kernel_rfl) Try.func8 (by kernel_rfl)
    (of_decide_eq_true (by kernel_rfl)) (by unfold Func.isWrapper; first | (rw [if_pos (by decide +kernel)]; kernel_rfl) | (rw [if_neg (by decide +kernel)]; exact ⟨rfl, rfl⟩))
    (fun os started H enc _ => lifted os started H enc)

/-- The statement. -/
theorem proved : Rows.BitinWritesSaid := over
#print axioms proved
end Go.Proofs.Ytcboiljbkkleiaa.bitinWrites

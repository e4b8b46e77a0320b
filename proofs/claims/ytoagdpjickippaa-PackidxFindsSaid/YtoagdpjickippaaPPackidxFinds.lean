/- The statement PackidxFindsSaid of this seat: for every input the law returns true and its arguments read as they did. No condition. -/
import Derived.Test.YtoagdpjickippaaRows
import Derived.Test.YtoagdpjickippaaPkF
import Derived.Test.YtoagdpjickippaaPkZ
import Derived.Test.YtoagdpjickippaaVcOpen
import Derived.WalkKit
import Derived.ProofKit
import Derived.OpenShut
import Derived.ShutString
import Derived.ChangeOld
import Derived.Below
import Derived.SizedLaws
namespace Go.Proofs.Ytoagdpjickippaa.packidxFinds
open Go.ChangeShapes Go.WideShapes Go.ChangeAt Go.RowKit
open Go.ChangeMaps (open_string shut_string)
set_option linter.unusedVariables false

theorem own : ownKnob Try.prog.godebug = none := by kernel_rfl
theorem laidOut : laidOutB Try.prog = true := by kernel_rfl

set_option maxRecDepth 100000 in
theorem lifted (os : Os) (started : os.Started) (H : Type) (enc : TypeId × Value → H) :
    ReturnsInHanded {} Try.checked os 3 .any (Rows.packidxFindsSpec.pre6 enc Try.prog Try.f3 Rows.packidxFindsRow.domain false) (Rows.packidxFindsSpec.post enc Try.prog Try.f3 false true false false) := by
  refine returnsInHanded_of_change_sized (C := Try.checked) own started (by kernel_rfl) Try.func3
    (ChangeSpec.witness6 (enc := enc) (C := Try.checked) false ⟨#[], #[.slice none 0 0, .string ByteArray.empty, .int .i64 0], []⟩ 8 (by kernel_rfl) (by kernel_rfl) (by kernel_rfl) (by kernel_rfl)) ?_
  intro W base args ds gs before hval0 hW hcnd hsz _
  have hval : ∀ (j : Nat) t v, Try.f3.params[j]? = some t → args[j]? = some v → Value.okWide Try.prog W .any base t v := hval0
  have hW' := hW
  obtain ⟨p, q, hA0, hV, rfl, hfz, hnd⟩ := hW
  have hA : DataW.TrodAll enc Try.prog W 0 (fun _ => true) true Try.f3.params.toList args.toList ds p := hA0
  rw [Try.params3] at hA hval
  obtain ⟨v0, vs0, d0, ds0, p0, q0, hargs, rfl, rfl, h0, r0⟩ := trodAll_cons hA
  obtain ⟨v1, vs1, d1, ds1, p1, q1, rfl, rfl, rfl, h1, r1⟩ := trodAll_cons r0
  obtain ⟨v2, vs2, d2, ds2, p2, q2, rfl, rfl, rfl, h2, r2⟩ := trodAll_cons r1
  obtain ⟨rfl, rfl, rfl⟩ := trodAll_nil r2
  obtain rfl : args = #[v0, v1, v2] := by cases args; simp_all
  obtain ⟨rfl, rfl⟩ := trodVars_none hV
  obtain ⟨a0, len0, cap0, rfl⟩ := okWide_slice Try.underlying22 (hval 0 22 v0 rfl rfl)
  have k0 := h0
  have lt0 : ∀ x ∈ p0, x.block < W.heap.size := by obtain ⟨m, hm⟩ := k0; exact DataW.trod_lt m _ _ _ hm
  obtain ⟨w0, c0⟩ : Vc.IsRows 3 (fun vs => ∃ x0 x1 x2, vs = [.string x0, .int .i64 x1, .int .u32 x2] ∧ x0.size ≤ reachBytes ∧ (Lit.int .i64 x1).wf = true ∧ (Lit.int .u32 x2).wf = true) W a0 len0 ∧ len0 ≤ cap0 := by
    obtain ⟨fuel, hf⟩ := h0
    refine Vc.open_rowsW Try.underlying22 Try.underlying32 (by kernel_rfl) (by kernel_rfl) (List.all_eq_true.2 fun q hq => List.all_eq_true.1 hsz q (DataW.weights_mem_each (j := 0) (t := 22) rfl rfl q hq)) ?_ hf
    intro n cs hcs hall
    match cs, hcs with
    | [c0, c1, c2], _ =>
      obtain ⟨y0, g0, k0⟩ := hall 0 _ c0 rfl rfl
      obtain ⟨x0, e0, d0, f0⟩ := DataW.trod_string Try.underlying9 g0
      obtain rfl := (List.cons.inj e0).1
      have f0 : x0.size ≤ reachBytes := by simpa [d0, DataW.weights] using k0
      obtain ⟨y1, g1, k1⟩ := hall 1 _ c1 rfl rfl
      obtain ⟨x1, e1, d1, f1⟩ := DataW.trod_int Try.underlying3 g1
      obtain rfl := (List.cons.inj e1).1
      obtain ⟨y2, g2, k2⟩ := hall 2 _ c2 rfl rfl
      obtain ⟨x2, e2, d2, f2⟩ := DataW.trod_int Try.underlying30 g2
      obtain rfl := (List.cons.inj e2).1
      exact ⟨x0, x1, x2, rfl, f0, f1, f2⟩
  obtain ⟨a1, rfl, rfl, rfl, w1⟩ := open_string Try.underlying9 (hval 1 9 v1 rfl rfl) h1
  have b1 : a1.size ≤ reachBytes := by have := sized_string hsz (j := 1) (t := 9) rfl rfl; simpa using this
  obtain ⟨a2, rfl, rfl, rfl, w2⟩ := open_int Try.underlying3 (hval 2 3 v2 rfl rfl) h2
  clear hA0 hval0
  refine ((rows_of len0 w0).elim fun xs h => finds_walk h.2.1 h.1 c0 (fun x hx => Nat.le_trans (h.2.2.1 x hx) (by decide)) h.2.2.2 a1 (Nat.le_trans b1 (by decide)) a2).mono fun e W' ⟨he, bel⟩ => ?_
  subst he
  exact ⟨_, rfl, _, _, _, [], _, [], hW', trodAll_mk1 (shut_bool Try.underlying4 _), (trodAll_cons_mk (Below.trod laidOut (by kernel_rfl) (of_decide_eq_true (by kernel_rfl)) k0 bel lt0) (trodAll_cons_mk (shut_string Try.underlying9 w1) (trodAll_cons_mk (shut_int Try.underlying3 w2) trodAll_mk0))), rfl, bel.frame _, fun h => by cases h⟩

theorem over : Rows.packidxFindsRow.holds Try.pinned (OpenSpec.ofChange Rows.packidxFindsSpec) :=
  OpenClaim.holds_of_wide 3 Try.f3 rfl rfl rfl rfl rfl rfl rfl ⟨rfl, rfl, rfl, rfl, rfl⟩ rfl rfl rfl rfl rfl (by kernel_rfl) Try.func3 (by kernel_rfl)
    (of_decide_eq_true (by kernel_rfl)) (by unfold Func.isWrapper; first | (rw [if_pos (by decide +kernel)]; kernel_rfl) | (rw [if_neg (by decide +kernel)]; exact ⟨rfl, rfl⟩))
    (fun os started H enc _ => lifted os started H enc)

/-- The statement. -/
theorem proved : Rows.PackidxFindsSaid := over
#print axioms proved
end Go.Proofs.Ytoagdpjickippaa.packidxFinds

/- What the row's condition on the listed tables gives: Itoa's table; the objects that came in, as a list. No condition. -/
import Derived.Test.YtoagdpjickippaaDoorTopW
import Derived.Test.YtoagdpjickippaaDoorRows
import Derived.Test.YtoagdpjickippaaDoorVcOpen
import Derived.Lib.LaidU8
import Derived.ProofKit
import Derived.OpenShut
import Derived.LaidMore
import Derived.Lay
set_option linter.unusedVariables false
namespace Go.Proofs.YtoagdpjickippaaDoor
open Go Vc HexM Go.Proofs Go.ChangeShapes Go.WideShapes Go.ChangeAt Go.RowKit

theorem objs_of {W : World} {a : Option Addr} : ∀ (n : Nat), IsRows 2 (fun vs => ∃ x0 x1, vs = [.int .i64 x0, .string x1] ∧ (Lit.int .i64 x0).wf = true ∧ x1.size ≤ reachBytes) W a n → ∃ xs : List ObE, xs.length = n ∧ ReadsK encO 2 W a xs
  | 0, _ => ⟨[], rfl, .nil _ _⟩
  | n + 1, h => by
    obtain ⟨xs, hE, hR⟩ := objs_of n fun i hi => h i (by omega)
    obtain ⟨ad, vs, had, hl, ⟨x0, x1, rfl, _, _⟩, hc⟩ := h n (by omega)
    refine ⟨xs ++ [(x0, x1)], by rw [List.length_append, hE]; rfl, fun i x hx => ?_⟩
    by_cases hi : i < xs.length
    · rw [List.getElem?_append_left hi] at hx
      exact hR i x hx
    · rw [List.getElem?_append_right (by omega)] at hx
      have hi0 : i - xs.length = 0 := by
        by_cases h : i - xs.length = 0
        · exact h
        · rw [List.getElem?_eq_none (by simp; omega)] at hx; cases hx
      rw [hi0] at hx
      simp only [List.getElem?_cons_zero, Option.some.injEq] at hx
      subst hx
      refine ⟨ad, had, fun j v hv => ?_⟩
      have := hc j v hv
      rw [add_add, show i = n by omega]
      exact this
theorem tab10_reads {W : World} (h : Lib.VarReads Tryd.prog W "internal/strconv.uint64pow10" Rows.laid_internal_strconv_uint64pow10) : Tab10 W := by
  obtain ⟨g, t, cs, fuel, p, hg, ht, hv, hdd⟩ := h
  obtain rfl := Option.some.inj ((show Tryd.prog.globalNamed "internal/strconv.uint64pow10" = some G_strconv_uint64pow10 by kernel_rfl).symm.trans hg)
  have hu : ∀ n, (Tryd.prog.globals[G_strconv_uint64pow10]?).map (·.type) = some n → Tryd.prog.underlying n = some (.array 20 T_uint64) ∧ Tryd.prog.cellsOf n = 20 := fun n hn => by
    obtain rfl := Option.some.inj ((show (Tryd.prog.globals[G_strconv_uint64pow10]?).map (·.type) = some T_20_uint64 by kernel_rfl).symm.trans hn)
    exact ⟨by kernel_rfl, by kernel_rfl⟩
  have := Lib.cells_of_tab (k := .u64) (zs := Lib.pow10Tab) (hu t ht).1 (by kernel_rfl) (by kernel_rfl) (hu t ht).2 hdd
  unfold Tab10 Lib.TabIs
  rw [hv, ← this]
theorem tab10_of {W : World} (h : laidMetH Tryd.prog Rows.cartularyNamesRow.laid W) : Tab10 W := by
  rw [MakeChecks.laidMetH_plain _ _ _ (by kernel_rfl)] at h
  exact tab10_reads (Lib.laidMet.reads h (n := _) (d := Rows.laid_internal_strconv_uint64pow10) (.tail _ (.tail _ (.head _))))
end Go.Proofs.YtoagdpjickippaaDoor

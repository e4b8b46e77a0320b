/- What the rows' condition on the listed tables gives: the table that folds ASCII letters. No condition. -/
import Derived.Test.YtmihbbgojkbaeaaDoorTreeW
import Derived.Test.YtmihbbgojkbaeaaDoorRows
import Derived.Lib.LaidU8
import Derived.ProofKit
import Derived.OpenShut
import Derived.LaidMore
import Derived.Lay
set_option linter.unusedVariables false
namespace Go.Proofs.YtmihbbgojkbaeaaDoor
open Go Vc HexM TreeM Go.Proofs Go.ChangeShapes Go.WideShapes Go.ChangeAt Go.RowKit

theorem fold_cell {W : World} (h : Lib.VarReads Tryd.prog W "unicode.asciiFold" Rows.laid_unicode_asciiFold) (r d : Nat) (hr : r < 128) (hd : (match (Rows.laid_unicode_asciiFold : DataW Unit) with | .agg l => l[r]? | _ => none) = some (.lit (.int .u16 (d : Int)))) : W.cell? ⟨G_unicode_asciiFold, r, none⟩ = some (.int .u16 (d : Int)) := by
  obtain ⟨g, t, cs, fuel, p, hg, ht, hv, hdd⟩ := h
  obtain rfl := Option.some.inj ((show Tryd.prog.globalNamed "unicode.asciiFold" = some G_unicode_asciiFold by kernel_rfl).symm.trans hg)
  obtain ⟨n, hty⟩ : ∃ n, (Tryd.prog.globals[G_unicode_asciiFold]?).map (·.type) = some n := ⟨_, ht⟩
  have hu : ∀ n, (Tryd.prog.globals[G_unicode_asciiFold]?).map (·.type) = some n → Tryd.prog.underlying n = some (.array 128 T_uint16) := fun n hn => by
    obtain rfl := Option.some.inj ((show (Tryd.prog.globals[G_unicode_asciiFold]?).map (·.type) = some T_128_uint16 by kernel_rfl).symm.trans hn)
    kernel_rfl
  obtain ⟨xs, m, _, ex, _, hl, hel⟩ := DataW.trod_array (hu t ht) hdd
  have c5 : Tryd.prog.cellsOf T_uint16 = 1 := by kernel_rfl
  have hE := hel r hr
  rw [c5, Nat.mul_one, List.getElem?_eq_getElem (by omega)] at hE
  obtain ⟨z, e1, e2, _⟩ := DataW.trod_int (P := Tryd.prog) (t := T_uint16) (k := .u16) (by kernel_rfl) hE
  have e3 : (.agg (xs.map (·.1)) : DataW Unit) = Rows.laid_unicode_asciiFold := (congrArg Prod.fst ex).symm
  rw [← e3] at hd
  simp only [List.getElem?_map, List.getElem?_eq_getElem (by omega : r < xs.length), Option.map_some, Option.some.injEq, e2, DataW.lit.injEq, Lit.int.injEq, true_and] at hd
  rw [World.var?_cell hg hv r, ← hd]
  have : cs.toList[r]? = some (.int .u16 z) := by
    have h0 : ((cs.toList.drop r).take 1)[0]? = some (.int .u16 z) := by rw [e1]; rfl
    simpa using h0
  simpa using this
theorem tab_of {W : World} (h : laidMetH Tryd.prog Rows.treeOrderRow.laid W) : Tab W := by
  rw [MakeChecks.laidMetH_plain _ _ _ (by kernel_rfl)] at h
  have hf := Lib.laidMet.reads h (n := _) (d := Rows.laid_unicode_asciiFold) (.tail _ (.head _))
  have h46 := fold_cell hf 46 46 (by decide) rfl
  refine ⟨fun c d hcd => ?_, World.block_lt_of_cell? _ _ h46⟩
  simp only [List.mem_cons, List.mem_nil_iff, or_false, Prod.mk.injEq] at hcd
  rcases hcd with ⟨rfl, rfl⟩ | ⟨rfl, rfl⟩ | ⟨rfl, rfl⟩ | ⟨rfl, rfl⟩ | ⟨rfl, rfl⟩ | ⟨rfl, rfl⟩ | ⟨rfl, rfl⟩
  · exact h46
  · exact fold_cell hf 103 71 (by decide) rfl
  · exact fold_cell hf 71 103 (by decide) rfl
  · exact fold_cell hf 105 73 (by decide) rfl
  · exact fold_cell hf 73 105 (by decide) rfl
  · exact fold_cell hf 116 84 (by decide) rfl
  · exact fold_cell hf 84 116 (by decide) rfl
end Go.Proofs.YtmihbbgojkbaeaaDoor

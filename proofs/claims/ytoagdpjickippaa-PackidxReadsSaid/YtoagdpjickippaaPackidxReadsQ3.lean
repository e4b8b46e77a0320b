/- Texts of this seat in one: made by a program of ours. -/
import Derived.Test.YtoagdpjickippaaPackidxReadsQ0
import Derived.Test.YtoagdpjickippaaPackidxReadsQ1
import Derived.Test.YtoagdpjickippaaPackidxReadsQ2
import Derived.Shelf.SlSortCmp.WholeK
import Derived.Test.YtoagdpjickippaaProg
import Derived.Shelf.SlSortCmp.NoneTotal
import Derived.Deep.Slices
import Derived.Deep.Fields
import Derived.ChangeSame
import Derived.SizedLaws
import Derived.Test.YtoagdpjickippaaRows
import Derived.WalkKit
import Derived.ProofKit
import Derived.OpenShut
import Derived.ShutString
import Derived.ChangeOld
import Derived.Below
/- Names looked for in an index: At, Find, Match. Conditions: the rows rise. -/
set_option linter.unusedVariables false
namespace Go.Proofs.Ytoagdpjickippaa
open Go Vc HexM SumM ShaM Go.Proofs

theorem riseP_lt {xs : List PRow} (h : RiseP xs) {i j : Nat} {x y : PRow} (hx : xs[i]? = some x) (hy : xs[j]? = some y) (hij : i ≤ j) {p : List UInt8} (hp : y.1.data.toList < p) : x.1.data.toList < p := by
  by_cases he : i = j
  · subst he; rw [hx] at hy; cases hy; exact hp
  · have := (List.pairwise_iff_getElem.1 h) i j (List.getElem?_eq_some_iff.1 hx).1 (List.getElem?_eq_some_iff.1 hy).1 (by omega)
    rw [(List.getElem?_eq_some_iff.1 hx).2, (List.getElem?_eq_some_iff.1 hy).2] at this
    exact List.lt_trans this hp
theorem cmpfind_spec (x : PRow) (t : ByteArray) (w : World) : Calls Try.prog F_packidx_Idx_Find_1 #[.agg (encP x).toArray, .string t] w fun e w' => e = .returned (.int .i64 (Lib.compareBytes x.1.data.toList t.data.toList)) ∧ Fr (fun _ => False) w w' := by
  refine vc_packidx_Idx_Find_1_ok (R := fun v w' => v = .int .i64 (Lib.compareBytes x.1.data.toList t.data.toList) ∧ Fr (fun _ => False) w w') ?_ (fun v w' h => ⟨by rw [h.1], h.2⟩)
  intro w1 h1
  have hf1 : Fr (fun _ => False) w w1 := by rw [h1]; exact .alloc _ _ _
  have hb1 : w1.heap[w.heap.size]? = some (.cells (encP x).toArray T_packidx_Row (0, 0)) := by rw [h1]; exact alloc_new _ _
  refine ⟨x.1, by rw [cell_blk hb1]; rfl, (compare_spec _ _ w1).mono ?_⟩
  rintro e w4 ⟨rfl, hw⟩
  replace hw := hw.symm
  subst hw
  exact ⟨_, rfl, rfl, hf1⟩
theorem searchfind_spec {w : World} {a : Option Addr} {n c : Nat} {xs : List PRow} (hr : ReadsK encP 3 w a xs) (hn : xs.length = n) (hl : n ≤ 1000000) (hs : RiseP xs) (t : ByteArray) :
    Calls Try.prog 28 #[.slice a n c, .string t, .func (.func F_packidx_Idx_Find_1) #[] #[]] w fun e w' =>
      ∃ i : Nat, i ≤ n ∧ e = .returned (.tuple #[.int .i64 i, .bool (match xs[i]? with | some x => decide (x.1 = t) | none => false)]) ∧ (∀ k x, xs[k]? = some x → (x.1.data.toList < t.data.toList ↔ k < i)) ∧ Fr (fun _ => False) w w' := by
  refine vc_slices_BinarySearchFunc_find_ok (R := fun v w' => ∃ i : Nat, i ≤ n ∧ v = .tuple #[.int .i64 i, .bool (match xs[i]? with | some x => decide (x.1 = t) | none => false)] ∧ (∀ k x, xs[k]? = some x → (x.1.data.toList < t.data.toList ↔ k < i)) ∧ Fr (fun _ => False) w w') ?_ (fun v w' ⟨i, h0, h, h2⟩ => ⟨i, h0, by rw [h], h2⟩)
  refine ⟨fun i j w' => ∃ p q : Nat, i = p ∧ j = q ∧ p ≤ q ∧ q ≤ n ∧ (∀ k x, xs[k]? = some x → k < p → x.1.data.toList < t.data.toList) ∧ (∀ k x, xs[k]? = some x → q ≤ k → ¬ x.1.data.toList < t.data.toList) ∧ Fr (fun _ => False) w w', fun i j _ => j.toNat - i.toNat,
    ⟨0, n, rfl, rfl, Nat.zero_le _, Nat.le_refl _, fun k x _ h => by omega, fun k x hx h => by have := (List.getElem?_eq_some_iff.1 hx).1; omega, .refl _ _⟩, ?_⟩
  rintro i j w5 ⟨p, q, rfl, rfl, hpq, hqn, hlo, hhi, hf⟩
  refine ⟨fun hlt => ⟨by decide, ?_⟩, fun hge => ?_⟩
  · have hlt := of_decide_eq_true hlt
    have e1 : IntKind.i64.wrap (Int.fdiv (IntKind.u64.wrap (IntKind.i64.wrap ((p : Int) + (q : Int)))) (2 ^ min (Int.toNat 1) 64)) = (((p + q) / 2 : Nat) : Int) := by
      rw [wrap_i64 (x := (p : Int) + (q : Int)) (by omega) (by omega), wrap_u64 (by omega) (by omega), show (2 : Int) ^ min (Int.toNat 1) 64 = 2 by decide, Int.fdiv_eq_ediv_of_nonneg _ (by omega), wrap_i64 (by omega) (by omega)]
      omega
    have hm : (p + q) / 2 < xs.length := by omega
    obtain ⟨m, hme⟩ : ∃ m, (p + q) / 2 = m := ⟨_, rfl⟩
    have e2 : IntKind.i64.wrap ((m : Int) + 1) = ((m + 1 : Nat) : Int) := by rw [wrap_i64 (by omega) (by omega)]; omega
    rw [hme] at e1 hm
    rw [e1, e2]
    have hx : xs[m]? = some xs[m] := List.getElem?_eq_getElem hm
    generalize xs[m] = x at hx
    obtain ⟨ad, had, hld⟩ := (hr.keep hf (by simp)).load elP hx
    refine ⟨⟨by omega, by omega⟩, ad, had, x.1, x.2.1, x.2.2, by rw [Int.toNat_natCast]; exact hld, (cmpfind_spec x t w5).mono ?_⟩
    rintro e w11 ⟨rfl, hf11⟩
    have hf11' := hf.trans' hf11
    refine ⟨_, rfl, fun hc => ⟨⟨m + 1, q, rfl, rfl, by omega, hqn, fun k y hy hk => ?_, hhi, hf11'⟩, by dsimp only; omega⟩, fun hc => ⟨⟨p, m, rfl, rfl, by omega, by omega, hlo, fun k y hy hk hlt' => ?_, hf11'⟩, by dsimp only; omega⟩⟩
    · exact riseP_lt hs hy hx (by omega) ((cmp_lt _ _).1 (of_decide_eq_true hc))
    · exact of_decide_eq_false hc ((cmp_lt _ _).2 (riseP_lt hs hx hy hk hlt'))
  · have hge := of_decide_eq_false hge
    have hpq' : p = q := by omega
    subst hpq'
    have hiff : ∀ k x, xs[k]? = some x → (x.1.data.toList < t.data.toList ↔ k < p) := fun k x hx => ⟨fun h => by
      by_cases hk : k < p
      · exact hk
      · exact absurd h (hhi k x hx (by omega)), hlo k x hx⟩
    refine ⟨fun hlt => ?_, fun hlt => ⟨p, hqn, ?_, hiff, hf⟩⟩
    · have hlt := of_decide_eq_true hlt
      have hm : p < xs.length := by omega
      have hx : xs[p]? = some xs[p] := List.getElem?_eq_getElem hm
      generalize xs[p] = x at hx
      obtain ⟨ad, had, hld⟩ := (hr.keep hf (by simp)).load elP hx
      refine ⟨⟨by omega, by omega⟩, ad, had, x.1, x.2.1, x.2.2, by rw [Int.toNat_natCast]; exact hld, (cmpfind_spec x t w5).mono ?_⟩
      rintro e w18 ⟨rfl, hf18⟩
      refine ⟨_, rfl, p, hqn, ?_, hiff, hf.trans' hf18⟩
      rw [hx]
      have : (Lib.compareBytes x.1.data.toList t.data.toList == 0) = decide (x.1 = t) := by
        rw [Bool.eq_iff_iff, beq_iff_eq, decide_eq_true_eq]
        exact (cmp_zero _ _).trans ⟨fun h => bs_ext h, fun h => by rw [h]⟩
      rw [this]
    · have hlt := of_decide_eq_false hlt
      rw [List.getElem?_eq_none (by omega)]
theorem cmpmatch_spec (x : PRow) (t : ByteArray) (w : World) : Calls Try.prog F_packidx_Idx_Match_1 #[.agg (encP x).toArray, .string t] w fun e w' => e = .returned (.int .i64 (Lib.compareBytes x.1.data.toList t.data.toList)) ∧ Fr (fun _ => False) w w' := by
  refine vc_packidx_Idx_Match_1_ok (R := fun v w' => v = .int .i64 (Lib.compareBytes x.1.data.toList t.data.toList) ∧ Fr (fun _ => False) w w') ?_ (fun v w' h => ⟨by rw [h.1], h.2⟩)
  intro w1 h1
  have hf1 : Fr (fun _ => False) w w1 := by rw [h1]; exact .alloc _ _ _
  have hb1 : w1.heap[w.heap.size]? = some (.cells (encP x).toArray T_packidx_Row (0, 0)) := by rw [h1]; exact alloc_new _ _
  refine ⟨x.1, by rw [cell_blk hb1]; rfl, (compare_spec _ _ w1).mono ?_⟩
  rintro e w4 ⟨rfl, hw⟩
  replace hw := hw.symm
  subst hw
  exact ⟨_, rfl, rfl, hf1⟩
theorem searchmatch_spec {w : World} {a : Option Addr} {n c : Nat} {xs : List PRow} (hr : ReadsK encP 3 w a xs) (hn : xs.length = n) (hl : n ≤ 1000000) (hs : RiseP xs) (t : ByteArray) :
    Calls Try.prog 28 #[.slice a n c, .string t, .func (.func F_packidx_Idx_Match_1) #[] #[]] w fun e w' =>
      ∃ i : Nat, i ≤ n ∧ e = .returned (.tuple #[.int .i64 i, .bool (match xs[i]? with | some x => decide (x.1 = t) | none => false)]) ∧ (∀ k x, xs[k]? = some x → (x.1.data.toList < t.data.toList ↔ k < i)) ∧ Fr (fun _ => False) w w' := by
  refine vc_slices_BinarySearchFunc_match_ok (R := fun v w' => ∃ i : Nat, i ≤ n ∧ v = .tuple #[.int .i64 i, .bool (match xs[i]? with | some x => decide (x.1 = t) | none => false)] ∧ (∀ k x, xs[k]? = some x → (x.1.data.toList < t.data.toList ↔ k < i)) ∧ Fr (fun _ => False) w w') ?_ (fun v w' ⟨i, h0, h, h2⟩ => ⟨i, h0, by rw [h], h2⟩)
  refine ⟨fun i j w' => ∃ p q : Nat, i = p ∧ j = q ∧ p ≤ q ∧ q ≤ n ∧ (∀ k x, xs[k]? = some x → k < p → x.1.data.toList < t.data.toList) ∧ (∀ k x, xs[k]? = some x → q ≤ k → ¬ x.1.data.toList < t.data.toList) ∧ Fr (fun _ => False) w w', fun i j _ => j.toNat - i.toNat,
    ⟨0, n, rfl, rfl, Nat.zero_le _, Nat.le_refl _, fun k x _ h => by omega, fun k x hx h => by have := (List.getElem?_eq_some_iff.1 hx).1; omega, .refl _ _⟩, ?_⟩
  rintro i j w5 ⟨p, q, rfl, rfl, hpq, hqn, hlo, hhi, hf⟩
  refine ⟨fun hlt => ⟨by decide, ?_⟩, fun hge => ?_⟩
  · have hlt := of_decide_eq_true hlt
    have e1 : IntKind.i64.wrap (Int.fdiv (IntKind.u64.wrap (IntKind.i64.wrap ((p : Int) + (q : Int)))) (2 ^ min (Int.toNat 1) 64)) = (((p + q) / 2 : Nat) : Int) := by
      rw [wrap_i64 (x := (p : Int) + (q : Int)) (by omega) (by omega), wrap_u64 (by omega) (by omega), show (2 : Int) ^ min (Int.toNat 1) 64 = 2 by decide, Int.fdiv_eq_ediv_of_nonneg _ (by omega), wrap_i64 (by omega) (by omega)]
      omega
    have hm : (p + q) / 2 < xs.length := by omega
    obtain ⟨m, hme⟩ : ∃ m, (p + q) / 2 = m := ⟨_, rfl⟩
    have e2 : IntKind.i64.wrap ((m : Int) + 1) = ((m + 1 : Nat) : Int) := by rw [wrap_i64 (by omega) (by omega)]; omega
    rw [hme] at e1 hm
    rw [e1, e2]
    have hx : xs[m]? = some xs[m] := List.getElem?_eq_getElem hm
    generalize xs[m] = x at hx
    obtain ⟨ad, had, hld⟩ := (hr.keep hf (by simp)).load elP hx
    refine ⟨⟨by omega, by omega⟩, ad, had, x.1, x.2.1, x.2.2, by rw [Int.toNat_natCast]; exact hld, (cmpmatch_spec x t w5).mono ?_⟩
    rintro e w11 ⟨rfl, hf11⟩
    have hf11' := hf.trans' hf11
    refine ⟨_, rfl, fun hc => ⟨⟨m + 1, q, rfl, rfl, by omega, hqn, fun k y hy hk => ?_, hhi, hf11'⟩, by dsimp only; omega⟩, fun hc => ⟨⟨p, m, rfl, rfl, by omega, by omega, hlo, fun k y hy hk hlt' => ?_, hf11'⟩, by dsimp only; omega⟩⟩
    · exact riseP_lt hs hy hx (by omega) ((cmp_lt _ _).1 (of_decide_eq_true hc))
    · exact of_decide_eq_false hc ((cmp_lt _ _).2 (riseP_lt hs hx hy hk hlt'))
  · have hge := of_decide_eq_false hge
    have hpq' : p = q := by omega
    subst hpq'
    have hiff : ∀ k x, xs[k]? = some x → (x.1.data.toList < t.data.toList ↔ k < p) := fun k x hx => ⟨fun h => by
      by_cases hk : k < p
      · exact hk
      · exact absurd h (hhi k x hx (by omega)), hlo k x hx⟩
    refine ⟨fun hlt => ?_, fun hlt => ⟨p, hqn, ?_, hiff, hf⟩⟩
    · have hlt := of_decide_eq_true hlt
      have hm : p < xs.length := by omega
      have hx : xs[p]? = some xs[p] := List.getElem?_eq_getElem hm
      generalize xs[p] = x at hx
      obtain ⟨ad, had, hld⟩ := (hr.keep hf (by simp)).load elP hx
      refine ⟨⟨by omega, by omega⟩, ad, had, x.1, x.2.1, x.2.2, by rw [Int.toNat_natCast]; exact hld, (cmpmatch_spec x t w5).mono ?_⟩
      rintro e w18 ⟨rfl, hf18⟩
      refine ⟨_, rfl, p, hqn, ?_, hiff, hf.trans' hf18⟩
      rw [hx]
      have : (Lib.compareBytes x.1.data.toList t.data.toList == 0) = decide (x.1 = t) := by
        rw [Bool.eq_iff_iff, beq_iff_eq, decide_eq_true_eq]
        exact (cmp_zero _ _).trans ⟨fun h => bs_ext h, fun h => by rw [h]⟩
      rw [this]
    · have hlt := of_decide_eq_false hlt
      rw [List.getElem?_eq_none (by omega)]
/-- A row in a block of its own. -/
theorem boxP_new (w : World) : w.alloc (.cells #[.string ⟨#[]⟩, .int .i64 0, .int .u32 0] T_packidx_Row) = w.alloc (.cells (encP (⟨#[]⟩, 0, 0)).toArray T_packidx_Row) := rfl
theorem boxP_store {w : World} {g : Nat} {cs : Array Value} (h : w.heap[g]? = some (.cells cs T_packidx_Row (0, 0))) (hc : cs.size = 3) (x : PRow) :
    ∃ w', (storeVar T_packidx_Row ⟨g, 0, none⟩ (.agg #[.string x.1, .int .i64 x.2.1, .int .u32 x.2.2])).run Try.prog w = .ok () w' ∧ w'.heap[g]? = some (.cells (encP x).toArray T_packidx_Row (0, 0)) ∧ Fr (· = g) w w' :=
  ⟨_, run_storeVar_row (P := Try.prog) w g T_packidx_Row T_packidx_Row _ (encP x).toArray h (by kernel_rfl) (by rw [hc]; rfl) (by simp [encP, Value.oneCell']), setRow_heap w g _ (encP x).toArray T_packidx_Row (0, 0) h, setRow_fr (· = g) w g _ rfl⟩
theorem boxP_load {w : World} {g : Nat} {x : PRow} (h : w.heap[g]? = some (.cells (encP x).toArray T_packidx_Row (0, 0))) : (loadVar T_packidx_Row ⟨g, 0, none⟩).run Try.prog w = .ok (.agg #[.string x.1, .int .i64 x.2.1, .int .u32 x.2.2]) w :=
  load_agg (vs := encP x) (agg_of (by kernel_rfl)) (by kernel_rfl) fun k v hv => by rw [add_lit, Nat.zero_add, cell_blk h]; simpa [encP] using hv
def encPv (x : PRow) : Value := .agg #[.string x.1, .int .i64 x.2.1, .int .u32 x.2.2]
section
variable {w : World} {b : Nat} {rows : List PRow} {sum : ByteArray}
theorem len_spec (h : IsIdx w b rows sum) : Calls Try.prog F_packidx_Idx_Len #[.pointer (some ⟨b, 0, none⟩)] w fun e w' => e = .returned (.int .i64 (rows.length : Nat)) ∧ w' = w := by
  refine vc_packidx_Idx_Len_ok (R := fun v w' => v = .int .i64 (rows.length : Nat) ∧ w' = w) ?_ (fun v w' h => ⟨by rw [h.1], h.2⟩)
  obtain ⟨l, F, h1, h2, h3⟩ := h.at_
  exact ⟨l, h1.rowsC, by rw [h3], rfl⟩
theorem sumP_spec (h : IsIdx w b rows sum) : Calls Try.prog F_packidx_Idx_Sum #[.pointer (some ⟨b, 0, none⟩)] w fun e w' => e = .returned (.string sum) ∧ w' = w := by
  refine vc_packidx_Idx_Sum_ok (R := fun v w' => v = .string sum ∧ w' = w) ?_ (fun v w' h => ⟨by rw [h.1], h.2⟩)
  obtain ⟨l, F, h1, h2, h3⟩ := h.at_
  exact ⟨sum, h1.sumC, rfl, rfl⟩
theorem atP_spec (h : IsIdx w b rows sum) (hl : rows.length ≤ 1000000) (i : Int) : Calls Try.prog F_packidx_Idx_At #[.pointer (some ⟨b, 0, none⟩), .int .i64 i] w fun e w' =>
    e = .returned (if 0 ≤ i then (match rows[i.toNat]? with | some x => .tuple #[encPv x, .int .i64 0] | none => .tuple #[encPv (⟨#[]⟩, 0, 0), .int .i64 7]) else .tuple #[encPv (⟨#[]⟩, 0, 0), .int .i64 7]) ∧ Fr (fun _ => False) w w' := by
  refine vc_packidx_Idx_At_ok (R := fun v w' => v = (if 0 ≤ i then (match rows[i.toNat]? with | some x => .tuple #[encPv x, .int .i64 0] | none => .tuple #[encPv (⟨#[]⟩, 0, 0), .int .i64 7]) else .tuple #[encPv (⟨#[]⟩, 0, 0), .int .i64 7]) ∧ Fr (fun _ => False) w w') ?_ (fun v w' h => ⟨by rw [h.1], h.2⟩)
  intro w1 h1
  have hf1 : Fr (fun _ => False) w w1 := by rw [h1]; exact .alloc _ _ _
  have hb1 : w1.heap[w.heap.size]? = some (.cells (encP (⟨#[]⟩, 0, 0)).toArray T_packidx_Row (0, 0)) := by rw [h1]; exact alloc_new _ _
  clear h1
  obtain ⟨l, F, k1, k2, k3⟩ := (h.keep hf1).at_
  have back : ∀ {w2 : World}, Fr (· = w.heap.size) w1 w2 → Fr (fun _ => False) w w2 := fun hf => hf1.trans hf fun q hq e => by omega
  refine ⟨fun hlt => ?_, fun hge => ⟨l, k1.rowsC, fun hbig => ?_, fun hsm => ⟨l, k1.rowsC, ?_⟩⟩⟩
  · have hlt := of_decide_eq_true hlt
    obtain ⟨w2, hst, hb2, hf2⟩ := boxP_store hb1 rfl (⟨#[]⟩, 0, 0)
    exact ⟨w2, hst, _, _, _, boxP_load hb2, by rw [if_neg (by omega)]; rfl, back hf2⟩
  · have hge := of_decide_eq_false hge
    have hbig := of_decide_eq_true hbig
    obtain ⟨w2, hst, hb2, hf2⟩ := boxP_store hb1 rfl (⟨#[]⟩, 0, 0)
    exact ⟨w2, hst, _, _, _, boxP_load hb2, by rw [if_pos (by omega), List.getElem?_eq_none (by omega)]; rfl, back hf2⟩
  · have hge := of_decide_eq_false hge
    have hsm := of_decide_eq_false hsm
    have hi : i.toNat < rows.length := by omega
    have hx : rows[i.toNat]? = some rows[i.toNat] := List.getElem?_eq_getElem hi
    generalize rows[i.toNat] = x at hx
    obtain ⟨ad, had, hld⟩ := k2.load elP hx
    obtain ⟨w2, hst, hb2, hf2⟩ := boxP_store hb1 rfl x
    exact ⟨⟨by omega, by omega⟩, ad, had, x.1, x.2.1, x.2.2, hld, w2, hst, _, _, _, boxP_load hb2, by rw [if_pos (by omega), hx]; rfl, back hf2⟩
/-- What is found under a name. -/
def findP (rows : List PRow) (id : ByteArray) : Option PRow := rows.find? fun x => decide (x.1 = id)
theorem findP_spec (h : IsIdx w b rows sum) (hl : rows.length ≤ 1000000) (hs : RiseP rows) (id : ByteArray) : Calls Try.prog F_packidx_Idx_Find #[.pointer (some ⟨b, 0, none⟩), .string id] w fun e w' =>
    e = .returned (match findP rows id with | some x => .tuple #[encPv x, .int .i64 0] | none => .tuple #[encPv (⟨#[]⟩, 0, 0), .int .i64 7]) ∧ Fr (fun _ => False) w w' := by
  refine vc_packidx_Idx_Find_ok (R := fun v w' => v = (match findP rows id with | some x => .tuple #[encPv x, .int .i64 0] | none => .tuple #[encPv (⟨#[]⟩, 0, 0), .int .i64 7]) ∧ Fr (fun _ => False) w w') ?_ (fun v w' h => ⟨by rw [h.1], h.2⟩)
  intro w1 h1
  have hf1 : Fr (fun _ => False) w w1 := by rw [h1]; exact .alloc _ _ _
  have hb1 : w1.heap[w.heap.size]? = some (.cells (encP (⟨#[]⟩, 0, 0)).toArray T_packidx_Row (0, 0)) := by rw [h1]; exact alloc_new _ _
  clear h1
  obtain ⟨l, F, k1, k2, k3⟩ := (h.keep hf1).at_
  refine ⟨l, k1.rowsC, (searchfind_spec k2 k3 (by omega) hs id).mono ?_⟩
  rintro e w4 ⟨i, hi, rfl, hiff, hf4⟩
  have hb4 := hf4.keep hb1 (by simp)
  have back : ∀ {w2 : World}, Fr (· = w.heap.size) w4 w2 → Fr (fun _ => False) w w2 := fun hf => (hf1.trans' hf4).trans hf fun q hq e => by omega
  refine ⟨_, _, rfl, fun hno => ?_, fun hyes => ⟨l, (k1.keep hf4 (by simp)).rowsC, ?_⟩⟩
  · have hnf : findP rows id = none := by
      unfold findP
      rw [List.find?_eq_none]
      intro x hx
      obtain ⟨k, hk⟩ := List.mem_iff_getElem?.1 hx
      intro he
      have he : x.1 = id := by simpa using he
      have h1 : ¬ k < i := fun hki => by
        have := (hiff k x hk).2 hki
        rw [he] at this; exact List.lt_irrefl _ this
      have hki : k = i := by
        rcases Nat.lt_or_ge i k with h2 | h2
        · exfalso
          have hil : i < rows.length := by have := (List.getElem?_eq_some_iff.1 hk).1; omega
          have h3 : ¬ rows[i].1.data.toList < id.data.toList := fun h4 => by have := (hiff i _ (List.getElem?_eq_getElem hil)).1 h4; omega
          have h5 := (List.pairwise_iff_getElem.1 hs) i k hil (List.getElem?_eq_some_iff.1 hk).1 h2
          rw [(List.getElem?_eq_some_iff.1 hk).2, he] at h5
          exact h3 h5
        · omega
      subst hki
      rw [hk] at hno
      simp [he] at hno
    obtain ⟨w2, hst, hb2, hf2⟩ := boxP_store hb4 rfl (⟨#[]⟩, 0, 0)
    exact ⟨w2, hst, _, _, _, boxP_load hb2, by rw [hnf]; rfl, back hf2⟩
  · cases hx : rows[i]? with
    | none => rw [hx] at hyes; simp at hyes
    | some x =>
      rw [hx] at hyes
      have he : x.1 = id := by simpa using hyes
      have hil := (List.getElem?_eq_some_iff.1 hx).1
      have hf : findP rows id = some x := by
        unfold findP
        have hsp : rows = rows.take i ++ (x :: rows.drop (i + 1)) := by
          have := List.drop_eq_getElem_cons hil
          rw [(List.getElem?_eq_some_iff.1 hx).2] at this
          rw [← this, List.take_append_drop]
        rw [hsp, List.find?_append, List.find?_eq_none.2 (fun y hy => ?_)]
        · simp [he]
        · obtain ⟨k, hk⟩ := List.mem_iff_getElem?.1 hy
          rw [List.getElem?_take] at hk
          split at hk
          · rename_i hki
            have := (hiff k y hk).2 hki
            intro e
            have e : y.1 = id := by simpa using e
            rw [e] at this; exact List.lt_irrefl _ this
          · cases hk
      obtain ⟨ad, had, hld⟩ := (k2.keep hf4 (by simp)).load elP hx
      obtain ⟨w2, hst, hb2, hf2⟩ := boxP_store hb4 rfl x
      exact ⟨⟨by omega, by omega⟩, ad, had, x.1, x.2.1, x.2.2, by rw [Int.toNat_natCast]; exact hld, w2, hst, _, _, _, boxP_load hb2, by rw [hf]; rfl, back hf2⟩
/-- The names that begin so. -/
def matchP (rows : List PRow) (front : ByteArray) : List ByteArray := (rows.filter fun x => begB x.1 front).map (·.1)
theorem matchP_spec (h : IsIdx w b rows sum) (hl : rows.length ≤ 1000000) (hs : RiseP rows) (front : ByteArray) : Calls Try.prog F_packidx_Idx_Match #[.pointer (some ⟨b, 0, none⟩), .string front] w fun e w' =>
    ∃ o, e = .returned (.slice o.a o.len o.cap) ∧ Vc.Own w' w.heap.size T_string o (strV (matchP rows front)) ∧ Fr (fun _ => False) w w' := by
  refine vc_packidx_Idx_Match_ok (R := fun v w' => ∃ o : Sl, v = .slice o.a o.len o.cap ∧ Vc.Own w' w.heap.size T_string o (strV (matchP rows front)) ∧ Fr (fun _ => False) w w') ?_ (fun v w' ⟨o, h⟩ => ⟨o, by rw [h.1], h.2⟩)
  obtain ⟨l, F, k1, k2, k3⟩ := h.at_
  refine ⟨l, k1.rowsC, (searchmatch_spec k2 k3 (by omega) hs front).mono ?_⟩
  rintro e w3 ⟨i, hin, rfl, hiff, hf3⟩
  refine ⟨_, _, rfl, fun o j w' => ∃ m : Nat, j = m ∧ i ≤ m ∧ m ≤ rows.length ∧ (∀ k x, rows[k]? = some x → i ≤ k → k < m → begB x.1 front = true) ∧ Vc.Own w' w.heap.size T_string o (strV (((rows.take m).drop i).map (·.1))) ∧ Fr (fun _ => False) w w', fun _ j _ => rows.length - j.toNat,
    ⟨i, rfl, Nat.le_refl _, by omega, fun k x _ h1 h2 => by omega, by rw [List.drop_eq_nil_of_le (by rw [List.length_take]; omega)]; exact Vc.Own.nil _ _ _, hf3⟩, ?_⟩
  rintro o j w10 ⟨m, rfl, him, hm, hall, ho, hf⟩
  have hk1 := k1.keep hf (by simp)
  have e1 : IntKind.i64.wrap ((m : Int) + 1) = ((m + 1 : Nat) : Int) := by rw [wrap_i64 (by omega) (by omega)]; omega
  rw [e1]
  have hlow : ∀ k x, rows[k]? = some x → k < i → begB x.1 front = false := fun k x hx hki => by
    have := (hiff k x hx).2 hki
    unfold begB
    refine decide_eq_false fun hp => ?_
    exact absurd this (pre_le _ _ hp)
  have fin : (∀ k x, rows[k]? = some x → m ≤ k → begB x.1 front = false) → matchP rows front = ((rows.take m).drop i).map (·.1) := fun hh => by
    unfold matchP
    rw [filter_mid (fun x : PRow => begB x.1 front) rows him hlow hall hh]
  refine ⟨l, hk1.rowsC, fun hlt => ⟨l, hk1.rowsC, ?_⟩, fun hge => ⟨o, rfl, ?_, hf⟩⟩
  · have hlt := of_decide_eq_true hlt
    have hml : m < rows.length := by omega
    have hx : rows[m]? = some rows[m] := List.getElem?_eq_getElem hml
    generalize rows[m] = x at hx
    obtain ⟨ad, had, hc⟩ := (k2.keep hf (by simp)) m x hx
    have hc0 := hc 0 (.string x.1) rfl
    rw [show (ad.add (m * 3)).add 0 = ad.add (m * 3) by rw [add_add]; rfl] at hc0
    refine ⟨⟨by omega, by omega⟩, ad, had, x.1, by rw [Int.toNat_natCast]; exact hc0, (hasPrefix_spec x.1 front w10).mono ?_⟩
    rintro e w16 ⟨rfl, hw⟩
    replace hw := hw.symm
    subst hw
    refine ⟨_, rfl, fun hb => ⟨l, hk1.rowsC, ⟨by omega, by omega⟩, ad, had, x.1, by rw [Int.toNat_natCast]; exact hc0, fun w21 h21 => ?_⟩, fun hb => ⟨o, rfl, ?_, hf⟩⟩
    · obtain ⟨w22, l23, hr22, ho22, hf22⟩ := grow_str x.1 (by rw [List.length_map, List.length_drop, List.length_take]; omega) ho hf h21
      refine ⟨w22, l23, hr22, ⟨m + 1, rfl, by omega, by omega, fun k y hy h1 h2 => ?_, ?_, hf22⟩, by dsimp only; omega⟩
      · by_cases hkm : k < m
        · exact hall k y hy h1 hkm
        · rw [show k = m by omega, hx] at hy
          cases hy; exact hb
      · have htk : rows.take (m + 1) = rows.take m ++ [x] := by rw [List.take_add_one, hx]; rfl
        rw [htk, List.drop_append_of_le_length (by rw [List.length_take]; omega), List.map_append]
        exact ho22
    · rw [fin fun k y hy hmk => ?_]
      · exact ho
      · by_cases hkm : k = m
        · subst hkm; rw [hx] at hy; cases hy; exact hb
        · cases hyb : begB y.1 front with
          | false => rfl
          | true =>
            exfalso
            have h1 : front.data.toList <+: y.1.data.toList := by unfold begB at hyb; exact of_decide_eq_true hyb
            have h2 : ¬ x.1.data.toList < front.data.toList := fun h => by have := (hiff m x hx).1 h; omega
            have h3 := (List.pairwise_iff_getElem.1 hs) m k hml (List.getElem?_eq_some_iff.1 hy).1 (by omega)
            rw [(List.getElem?_eq_some_iff.1 hx).2, (List.getElem?_eq_some_iff.1 hy).2] at h3
            have h4 := pre_between _ _ _ h2 (List.lt_asymm h3) h1
            unfold begB at hb
            rw [decide_eq_true h4] at hb
            cases hb
  · have hge := of_decide_eq_false hge
    have hm' : m = rows.length := by omega
    rw [fin fun k y hy hmk => by have := (List.getElem?_eq_some_iff.1 hy).1; omega]
    exact ho
end
end Go.Proofs.Ytoagdpjickippaa

/- A slice of the call's own, as the kit's contract of slices.SortFunc wants it, and as it leaves it. No condition. -/
set_option linter.unusedVariables false
set_option linter.unusedSectionVars false
namespace Vc
open Go Go.Proofs Go.Sort Go.Lib
variable {α : Type} [Inhabited α] {enc : α → List Value} {k : Nat} {w : World} {base : Nat} {e : TypeId} {l : Sl} {xs : List α} {g : Nat}
theorem own_row (h : OwnK enc k w base e l xs) (ha : l.a = some ⟨g, 0, none⟩) : ∃ cur, w.heap[g]? = some (.cells cur e (0, 0)) ∧ base ≤ g ∧ l.len ≤ l.cap ∧ l.cap ≤ maxLen ∧ cur.size = l.cap * k ∧ cur.toList.take (l.len * k) = xs.flatMap enc := by
  rcases h.2.2 with ⟨hv, _⟩ | ⟨g', cap, cur, hv, hb, hg, hl, hm, hs, ht⟩
  · simp only [Value.slice.injEq] at hv; rw [ha] at hv; cases hv.1
  · simp only [Value.slice.injEq] at hv
    obtain ⟨h1, _, h3⟩ := hv
    rw [ha] at h1
    cases h1
    subst h3
    exact ⟨cur, hg, hb, hl, hm, hs, ht⟩
theorem flatK_get (hk : ∀ x, (enc x).length = k) (h0 : 0 < k) {j : Nat} (hj : j < xs.length * k) : (xs.flatMap enc)[j]? = some ((flatK enc k xs.toArray)[j]!) := by
  have hl := flat_len hk xs
  obtain ⟨v, hv⟩ : ∃ v, (xs.flatMap enc)[j]? = some v := ⟨_, List.getElem?_eq_getElem (by omega)⟩
  obtain ⟨x, h1, h2⟩ := flat_get' hk h0 xs j v hv
  rw [hv, get_flatK enc k xs.toArray j (by simpa using hj)]
  have e1 : xs.toArray[j / k]! = x := by simp [h1]
  rw [e1]
  simp [h2]
theorem own_holds (hk : ∀ x, (enc x).length = k) (h0 : 0 < k) (h : OwnK enc k w base e l xs) (ha : l.a = some ⟨g, 0, none⟩) : HoldsK enc k w g 0 xs.toArray := fun j hj => by
  rw [size_flatK, List.size_toArray] at hj
  obtain ⟨cur, hg, _⟩ := own_row h ha
  have hr := h.reads hk
  rw [ha] at hr
  have := hr.flat hk h0 j _ (flatK_get hk h0 hj)
  rw [add_lit] at this
  exact ⟨this, by simp [World.frozen?, hg]⟩
theorem sort_fr (m : Nat) (ys : List α) (os : Array Obj) : Fr (· = g) w (sortWorldK enc k w g 0 m ys.toArray os) := by
  refine ⟨rfl, rfl, rfl, ?_, fun q hq hne => ?_⟩
  · simp [sortWorldK, grow, putRowK, putRow, mapBlock, Sort.ahead]
  · unfold sortWorldK
    rw [heap_grow_old _ _ (by simpa [putRowK, putRow, mapBlock, Sort.ahead] using hq)]
    simp only [putRowK, putRow, mapBlock, Sort.ahead, Array.getElem?_modify]
    rw [if_neg (fun e => hne e.symm)]
theorem own_sorted (hk : ∀ x, (enc x).length = k) (h0 : 0 < k) (h : OwnK enc k w base e l xs) (ha : l.a = some ⟨g, 0, none⟩) (m : Nat) (ys : List α) (hl : ys.length = xs.length) (os : Array Obj) : OwnK enc k (sortWorldK enc k w g 0 m ys.toArray os) base e l ys := by
  obtain ⟨cur, hg, hb, hc, hm, hs, ht⟩ := own_row h ha
  have hlen := h.1
  have hfl := flat_len hk ys
  have hkk : l.len * k ≤ l.cap * k := Nat.mul_le_mul_right _ hc
  have hgt := lt_blk hg
  refine ⟨by omega, by rw [hfl, hl, hlen], .inr ⟨g, l.cap, putCells id 0 (flatK enc k ys.toArray) cur, by rw [ha], hb, ?_, hc, hm, by simp [putCells, hs], ?_⟩⟩
  · unfold sortWorldK
    rw [heap_grow_old _ _ (by simpa [putRowK, putRow, mapBlock, Sort.ahead] using hgt)]
    simp only [putRowK, putRow, mapBlock, Sort.ahead, Array.getElem?_modify, if_true, hg]
    rfl
  · apply List.ext_getElem?
    intro j
    by_cases hj : j < l.len * k
    · rw [List.getElem?_take, if_pos hj, flatK_get hk h0 (by rw [hl, hlen]; exact hj)]
      simp only [putCells, Array.getElem?_toList, Array.getElem?_mapIdx]
      rw [Array.getElem?_eq_getElem (by omega)]
      simp only [Option.map_some, Nat.zero_le, true_and, Nat.zero_add, size_flatK, List.size_toArray, Nat.sub_zero, id]
      rw [if_pos (by rw [hl, hlen]; exact hj)]
    · rw [List.getElem?_eq_none (by rw [List.length_take]; omega), List.getElem?_eq_none (by rw [hfl, hl, hlen]; omega)]
end Vc

/- The kit's structure over slices.SortFunc at structs, at this seat (written by a program of the author's, laysort.py, with the kit's lay-plain). No condition. -/
namespace Go.Proofs.Ytoagdpjickippaa
open Go Go.Shelf Go.Proofs
def sortLays_ren : Go.Shelf.Ren := ⟨fun | 6 => 18 | 15 => 43 | 14 => 42 | 28 => 64 | 29 => 65 | 20 => 56 | 21 => 57 | 22 => 58 | 23 => 59 | 24 => 60 | 25 => 61 | 26 => 62 | 27 => 63 | 46 => 71 | 47 => 72 | 48 => 73 | 49 => 74 | 50 => 75 | 57 => 78 | n => n, fun | 22 => 22 | 24 => 32 | 25 => 52 | 3 => 3 | 39 => 75 | 0 => 0 | 53 => 30 | 55 => 58 | 4 => 4 | 46 => 89 | 45 => 88 | 50 => 65 | 5 => 5 | 9 => 9 | 66 => 101 | 70 => 105 | 76 => 111 | 77 => 112 | n => n, fun | n => n⟩
theorem sortLays : Go.Proofs.SlLaysF0.n6 Try.prog sortLays_ren := {
  mixed := by kernel_rfl
  f6 := ⟨Try.f18.name, by decide, Try.func18.trans (congrArg some (by kernel_rfl))⟩
  f14 := ⟨Try.f42.name, by decide, Try.func42.trans (congrArg some (by kernel_rfl))⟩
  f15 := Try.func43.trans (congrArg some (by kernel_rfl))
  f20 := ⟨Try.f56.name, by decide, Try.func56.trans (congrArg some (by kernel_rfl))⟩
  f21 := ⟨Try.f57.name, by decide, Try.func57.trans (congrArg some (by kernel_rfl))⟩
  f22 := ⟨Try.f58.name, by decide, Try.func58.trans (congrArg some (by kernel_rfl))⟩
  f23 := ⟨Try.f59.name, by decide, Try.func59.trans (congrArg some (by kernel_rfl))⟩
  f24 := ⟨Try.f60.name, by decide, Try.func60.trans (congrArg some (by kernel_rfl))⟩
  f25 := ⟨Try.f61.name, by decide, Try.func61.trans (congrArg some (by kernel_rfl))⟩
  f26 := ⟨Try.f62.name, by decide, Try.func62.trans (congrArg some (by kernel_rfl))⟩
  f27 := ⟨Try.f63.name, by decide, Try.func63.trans (congrArg some (by kernel_rfl))⟩
  f28 := Try.func64.trans (congrArg some (by kernel_rfl))
  f29 := Try.func65.trans (congrArg some (by kernel_rfl))
  f46 := ⟨Try.f71.name, by decide, Try.func71.trans (congrArg some (by kernel_rfl))⟩
  f47 := Try.func72.trans (congrArg some (by kernel_rfl))
  f48 := Try.func73.trans (congrArg some (by kernel_rfl))
  f49 := ⟨Try.f74.name, by decide, Try.func74.trans (congrArg some (by kernel_rfl))⟩
  f50 := ⟨Try.f75.name, by decide, Try.func75.trans (congrArg some (by kernel_rfl))⟩
  f57 := ⟨Try.f78.name, by decide, Try.func78.trans (congrArg some (by kernel_rfl))⟩
  t0 := Try.underlying0
  a0 := Try.isAgg0
  z0 := Try.sizeOf0
  v0 := Try.zeroValue0
  t3 := Try.underlying3
  a3 := Try.isAgg3
  z3 := Try.sizeOf3
  v3 := Try.zeroValue3
  t4 := Try.underlying4
  a4 := Try.isAgg4
  z4 := Try.sizeOf4
  v4 := Try.zeroValue4
  t5 := Try.underlying5
  a5 := Try.isAgg5
  z5 := Try.sizeOf5
  v5 := Try.zeroValue5
  t9 := Try.underlying9
  a9 := Try.isAgg9
  z9 := Try.sizeOf9
  v9 := Try.zeroValue9
  t22 := Try.underlying22
  a22 := Try.isAgg22
  z22 := Try.sizeOf22
  v22 := Try.zeroValue22
  t25 := Try.underlying52
  a25 := Try.isAgg52
  z25 := Try.sizeOf52
  v25 := Try.zeroValue52
  t39 := Try.underlying75
  a39 := Try.isAgg75
  z39 := Try.sizeOf75
  v39 := Try.zeroValue75
  t45 := Try.underlying88
  a45 := Try.isAgg88
  z45 := Try.sizeOf88
  v45 := Try.zeroValue88
  t46 := Try.underlying89
  a46 := Try.isAgg89
  z46 := Try.sizeOf89
  v46 := Try.zeroValue89
  t50 := Try.underlying65
  a50 := Try.isAgg65
  z50 := Try.sizeOf65
  v50 := Try.zeroValue65
  t53 := Try.underlying30
  a53 := Try.isAgg30
  z53 := Try.sizeOf30
  v53 := Try.zeroValue30
  t55 := Try.underlying58
  a55 := Try.isAgg58
  z55 := Try.sizeOf58
  v55 := Try.zeroValue58
  t66 := Try.underlying101
  a66 := Try.isAgg101
  z66 := Try.sizeOf101
  v66 := Try.zeroValue101
  t70 := Try.underlying105
  a70 := Try.isAgg105
  z70 := Try.sizeOf105
  v70 := Try.zeroValue105
  t76 := Try.underlying111
  a76 := Try.isAgg111
  z76 := Try.sizeOf111
  v76 := Try.zeroValue111
  t77 := Try.underlying112
  a77 := Try.isAgg112
  z77 := Try.sizeOf112
  v77 := Try.zeroValue112 }
end Go.Proofs.Ytoagdpjickippaa

/- Formulas of 3 Go functions of this seat (written by a program of the author's, vcgen.py), and that each is enough for the call. No condition. -/
set_option linter.unusedVariables false
namespace Go.Proofs.Ytoagdpjickippaa
open Go Vc Go.Proofs
set_option maxRecDepth 100000
/-- sums.digit -/
def vc_sums_digit (x0 : Int) (w : World) (R : Value → World → Prop) : Prop :=
  ∃ I1 : Bool → World → Prop, ((((decide (x0 ≥ 48) = true →
      I1 (decide (x0 ≤ 57)) w)) ∧
    (decide (x0 ≥ 48) = false →
      I1 false w)) ∧
   ∀ b2 : Bool,
   ∀ w3 : World,
   (I1 b2 w3 →
     (((b2 = true →
        R (Value.int IntKind.i64 (IntKind.wrap IntKind.i64 (IntKind.wrap IntKind.u8 (x0 - 48)))) w3)) ∧
      (b2 = false →
        (((decide (x0 ≥ 97) = true →
           (((decide (x0 ≤ 102) = true →
              R (Value.int IntKind.i64 (IntKind.wrap IntKind.i64 (IntKind.wrap IntKind.i64 (IntKind.wrap IntKind.u8 (x0 - 97)) + 10))) w3)) ∧
            (decide (x0 ≤ 102) = false →
              R (Value.int IntKind.i64 (-1)) w3)))) ∧
         (decide (x0 ≥ 97) = false →
           R (Value.int IntKind.i64 (-1)) w3))))))
theorem vc_sums_digit_ok {x0 : Int} {w : World} {R : Value → World → Prop} {R' : Ending → World → Prop} (h : vc_sums_digit x0 w R) (hR : ∀ v w', R v w' → R' (.returned v) w') :
    Calls Try.prog 45 #[.int .u8 x0] w R' :=
  calls_of_body (vs := [(.int .u8 x0, false)]) (ty := ty) (ann := ⟨[(2, [(3, .bool)])], [], [], []⟩) (c := Try.f45.body.getD .skip) (by kernel_rfl) Try.func45 (by kernel_rfl) (by kernel_rfl) (Eq.mp (by kernel_rfl) h) hR
/-- sums.Unhex -/
def vc_sums_Unhex (x0 : ByteArray) (w : World) (R : Value → World → Prop) : Prop :=
  ∃ I1 : Sl → Int → World → Prop, ∃ I2 : Sl → Int → World → Nat, (I1 (Sl.mk none 0 0) 0 w ∧
   ∀ l3 : Sl,
   ∀ n4 : Int,
   ∀ w5 : World,
   (I1 l3 n4 w5 →
     (((decide (IntKind.wrap IntKind.i64 (n4 + 1) < (↑(ByteArray.size x0) : Int)) = true →
        ∀ w6 : World,
        (Drew w5 w6 →
          ∃ I7 : World → Prop, (I7 w6 ∧
           ((0 ≤ n4 ∧
             n4 < (↑(ByteArray.size x0) : Int)) ∧
            ((0 ≤ IntKind.wrap IntKind.i64 (n4 + 1) ∧
              IntKind.wrap IntKind.i64 (n4 + 1) < (↑(ByteArray.size x0) : Int)) ∧
             Calls Try.prog (45 : Nat) (Array.mk [Value.int IntKind.u8 (byteAt x0 n4)]) (w6) (fun e8 w9 =>
               ∃ n10 : Int, (e8 = Ending.returned (Value.int IntKind.i64 n10) ∧
                (I7 w9 ∧
                 Calls Try.prog (45 : Nat) (Array.mk [Value.int IntKind.u8 (byteAt x0 (IntKind.wrap IntKind.i64 (n4 + 1)))]) (w9) (fun e11 w12 =>
                   ∃ n13 : Int, (e11 = Ending.returned (Value.int IntKind.i64 n13) ∧
                    (I7 w12 ∧
                     (((decide (n10 < 0) = true →
                        R (Value.tuple (Array.mk [Value.string (ByteArray.mk (Array.mk [])), Value.bool false])) w12)) ∧
                      (decide (n10 < 0) = false →
                        (((decide (n13 < 0) = true →
                           R (Value.tuple (Array.mk [Value.string (ByteArray.mk (Array.mk [])), Value.bool false])) w12)) ∧
                         (decide (n13 < 0) = false →
                           ((0 : Int) ≤ (4 : Int) ∧
                            ∀ w14 : World,
                            (w14 = World.alloc w12 (Obj.cells (Array.mk [Value.int IntKind.u8 (IntKind.wrap IntKind.u8 (IntKind.wrap IntKind.i64 (↑(BitVec.toNat (BitVec.ofInt 64 (IntKind.wrap IntKind.i64 (n10 * 2 ^ min (Int.toNat 4) 64)) ||| BitVec.ofInt 64 n13)) : Int)))]) 5) →
                              ∃ w15 : World, ∃ l16 : Sl, (Sem.run Try.prog (Builtin.append_ (Array.mk [68, 68]) 68 (Array.mk [Value.slice l3.1 l3.2 l3.3, Value.slice (some (Addr.mk (Array.size (World.heap w12)) 0 none)) 1 1])) w14 = Result.ok (Value.slice l16.1 l16.2 l16.3) w15 ∧
                               (I1 (Sl.mk l16.1 l16.2 l16.3) (IntKind.wrap IntKind.i64 (n4 + 2)) w15 ∧
                                I2 (Sl.mk l16.1 l16.2 l16.3) (IntKind.wrap IntKind.i64 (n4 + 2)) w15 < I2 l3 n4 w5)))))))))))))))))))) ∧
      (decide (IntKind.wrap IntKind.i64 (n4 + 1) < (↑(ByteArray.size x0) : Int)) = false →
        ((2 : Int) ≠ (0 : Int) ∧
         ((((Int.tmod (↑(ByteArray.size x0) : Int) 2 != 0) = true →
            R (Value.tuple (Array.mk [Value.string (ByteArray.mk (Array.mk [])), Value.bool false])) w5)) ∧
          ((Int.tmod (↑(ByteArray.size x0) : Int) 2 != 0) = false →
            ∃ w17 : World, ∃ s18 : ByteArray, (Sem.run Try.prog (convert 68 9 (Value.slice l3.1 l3.2 l3.3)) w5 = Result.ok (Value.string s18) w17 ∧
             R (Value.tuple (Array.mk [Value.string s18, Value.bool true])) w17))))))))
theorem vc_sums_Unhex_ok {x0 : ByteArray} {w : World} {R : Value → World → Prop} {R' : Ending → World → Prop} (h : vc_sums_Unhex x0 w R) (hR : ∀ v w', R v w' → R' (.returned v) w') :
    Calls Try.prog 22 #[.string x0] w R' :=
  calls_of_body (vs := [(.string x0, false)]) (ty := ty) (ann := ⟨[], [(3, [(4, .slice), (5, .int .i64)])], [(5, .held [(0, true), (1, true), (2, true), (4, true), (5, true), (6, true), (7, true), (3, false), (8, false), (9, true), (10, true)])], []⟩) (c := Try.f22.body.getD .skip) (by kernel_rfl) Try.func22 (by kernel_rfl) (by kernel_rfl) (Eq.mp (by kernel_rfl) h) hR
/-- sums.Id -/
def vc_sums_Id (x0 : ByteArray) (w : World) (R : Value → World → Prop) : Prop :=
  Calls Try.prog (22 : Nat) (Array.mk [Value.string x0]) (w) (fun e1 w2 =>
    ∃ s3 : ByteArray, ∃ b4 : Bool, (e1 = Ending.returned (Value.tuple (Array.mk [Value.string s3, Value.bool b4])) ∧
     (((b4 = true →
        R (Value.bool ((↑(ByteArray.size x0) : Int) == 40)) w2)) ∧
      (b4 = false →
        R (Value.bool false) w2))))
theorem vc_sums_Id_ok {x0 : ByteArray} {w : World} {R : Value → World → Prop} {R' : Ending → World → Prop} (h : vc_sums_Id x0 w R) (hR : ∀ v w', R v w' → R' (.returned v) w') :
    Calls Try.prog 21 #[.string x0] w R' :=
  calls_of_body (vs := [(.string x0, false)]) (ty := ty) (ann := ⟨[], [], [], []⟩) (c := Try.f21.body.getD .skip) (by kernel_rfl) Try.func21 (by kernel_rfl) (by kernel_rfl) (Eq.mp (by kernel_rfl) h) hR
end Go.Proofs.Ytoagdpjickippaa

/- Unhex and Id. Conditions: as named. -/
set_option linter.unusedVariables false
namespace Go.Proofs.Ytoagdpjickippaa
open Go Vc HexM Go.Proofs

theorem digit_spec (c : Nat) (hc : c < 256) (w : World) : Calls Try.prog F_sums_digit #[.int .u8 (c : Int)] w fun e w' => e = .returned (.int .i64 (match dg c with | some n => (n : Int) | none => -1)) ∧ w' = w := by
  refine vc_sums_digit_ok (R := fun v w' => v = .int .i64 (match dg c with | some n => (n : Int) | none => -1) ∧ w' = w) ?_ (fun v w' h => ⟨by rw [h.1], h.2⟩)
  refine ⟨fun b w' => b = decide (48 ≤ c ∧ c ≤ 57) ∧ w' = w, ⟨fun h => ⟨?_, rfl⟩, fun h => ⟨?_, rfl⟩⟩, ?_⟩
  · have h := of_decide_eq_true h
    exact decide_eq_decide.2 ⟨fun _ => ⟨by omega, by omega⟩, fun _ => by omega⟩
  · have h := of_decide_eq_false h
    rw [decide_eq_false (by omega)]
  · rintro b w3 ⟨rfl, rfl⟩
    unfold dg
    refine ⟨fun h => ?_, fun h => ⟨fun h2 => ⟨fun h3 => ?_, fun h3 => ?_⟩, fun h2 => ?_⟩⟩
    · have h := of_decide_eq_true h
      rw [if_pos h, wrap_u8 (by omega) (by omega), wrap_i64 (by omega) (by omega)]
      exact ⟨by congr 1; simp only; omega, rfl⟩
    · have h := of_decide_eq_false h
      have h2 := of_decide_eq_true h2
      have h3 := of_decide_eq_true h3
      rw [if_neg h, if_pos (by omega), wrap_u8 (by omega) (by omega), wrap_i64 (x := (c : Int) - 97) (by omega) (by omega), wrap_i64 (by omega) (by omega)]
      exact ⟨by congr 1; simp only; omega, rfl⟩
    · have h := of_decide_eq_false h
      have h3 := of_decide_eq_false h3
      rw [if_neg h, if_neg (by omega)]
      exact ⟨rfl, rfl⟩
    · have h := of_decide_eq_false h
      have h2 := of_decide_eq_false h2
      rw [if_neg h, if_neg (by omega)]
      exact ⟨rfl, rfl⟩
def unhexS (s : ByteArray) : ByteArray := match unhexL s.data.toList with | some l => ⟨l.toArray⟩ | none => ⟨#[]⟩
/-- 'Unhex'. -/
theorem unhex_spec (s : ByteArray) (hs : s.size ≤ 140737488355328) (w : World) : Calls Try.prog F_sums_Unhex #[.string s] w fun e w' => e = .returned (.tuple #[.string (unhexS s), .bool (unhexL s.data.toList).isSome]) ∧ Fr (fun _ => False) w w' := by
  refine vc_sums_Unhex_ok (R := fun v w' => v = .tuple #[.string (unhexS s), .bool (unhexL s.data.toList).isSome] ∧ Fr (fun _ => False) w w') ?_ (fun v w' h => ⟨by rw [h.1], h.2⟩)
  have hbad : ∀ {w' : World} {k : Nat}, k < s.size → dg (byt s k) = none → Fr (fun _ => False) w w' → (Value.tuple #[.string ⟨#[]⟩, .bool false] = .tuple #[.string (unhexS s), .bool (unhexL s.data.toList).isSome] ∧ Fr (fun _ => False) w w') := fun {w' k} hk hd hf => by
    have := unhexL_bad k s.data.toList _ (bs_get hk) (by rw [toNat_of _ (byt_lt _ _)]; exact hd)
    unfold unhexS
    rw [this]
    exact ⟨rfl, hf⟩
  refine ⟨fun l n w' => ∃ k r, n = ((2 * k : Nat) : Int) ∧ 2 * k ≤ s.size ∧ unhexL (s.data.toList.take (2 * k)) = some r ∧ Own w' w.heap.size T_uint8 l (byteV r) ∧ Fr (fun _ => False) w w', fun _ n _ => s.size - n.toNat, ⟨0, [], rfl, Nat.zero_le _, rfl, .nil _ _ _, .refl _ _⟩, ?_⟩
  rintro l3 n w5 ⟨k, r, rfl, hk, hr, ho, hf⟩
  have e1 : IntKind.i64.wrap (((2 * k : Nat) : Int) + 1) = ((2 * k + 1 : Nat) : Int) := by rw [wrap_i64 (by omega) (by omega)]; omega
  have e2 : IntKind.i64.wrap (((2 * k : Nat) : Int) + 2) = ((2 * (k + 1) : Nat) : Int) := by rw [wrap_i64 (by omega) (by omega)]; omega
  rw [e1, e2]
  have hrl : r.length = k := by
    have := unhexL_len _ _ hr
    rw [List.length_take, bs_len] at this; omega
  refine ⟨fun hlt w6 d6 => ?_, fun hge => ?_⟩
  · have hlt := of_decide_eq_true hlt
    rw [byteAt_nat, byteAt_nat]
    have hf6 : Fr (fun _ => False) w w6 := hf.trans' (.drew _ d6)
    refine ⟨fun _ => True, trivial, ⟨by omega, by omega⟩, ⟨by omega, by omega⟩, (digit_spec _ (byt_lt _ _) w6).mono ?_⟩
    rintro e w9 ⟨rfl, hw⟩
    replace hw := hw.symm
    subst hw
    refine ⟨_, rfl, trivial, (digit_spec _ (byt_lt _ _) w6).mono ?_⟩
    rintro e w12 ⟨rfl, hw⟩
    replace hw := hw.symm
    subst hw
    refine ⟨_, rfl, trivial, fun h => ?_, fun h => ⟨fun h2 => ?_, fun h2 => ⟨by decide, fun w14 h14 => ?_⟩⟩⟩
    · have h := of_decide_eq_true h
      cases hd : dg (byt s (2 * k)) with
      | none => exact hbad (k := 2 * k) (by omega) hd hf6
      | some x => rw [hd] at h; simp only at h; omega
    · have h2 := of_decide_eq_true h2
      cases hd : dg (byt s (2 * k + 1)) with
      | none => exact hbad (k := 2 * k + 1) (by omega) hd hf6
      | some x => rw [hd] at h2; simp only at h2; omega
    · have h := of_decide_eq_false h
      have h2 := of_decide_eq_false h2
      cases hd : dg (byt s (2 * k)) with
      | none => rw [hd] at h; simp at h
      | some x =>
        cases hd2 : dg (byt s (2 * k + 1)) with
        | none => rw [hd2] at h2; simp at h2
        | some y =>
          have hx1 := dg_lt hd
          have hy1 := dg_lt hd2
          have hor : 2 ^ 4 * x ||| y = 2 ^ 4 * x + y := (Nat.two_pow_add_eq_or_of_lt hy1 _).symm
          have ev : IntKind.u8.wrap (IntKind.i64.wrap (((BitVec.ofInt 64 (IntKind.i64.wrap ((x : Int) * 2 ^ min (Int.toNat 4) 64)) ||| BitVec.ofInt 64 (y : Int)).toNat : Nat) : Int)) = ((16 * x + y : Nat) : Int) := by
            rw [show (x : Int) * 2 ^ min (Int.toNat 4) 64 = ((2 ^ 4 * x : Nat) : Int) by rw [show (2 : Int) ^ min (Int.toNat 4) 64 = ((2 ^ 4 : Nat) : Int) from rfl, ← Int.natCast_mul, Nat.mul_comm], wrap_i64 (x := ((2 ^ 4 * x : Nat) : Int)) (by omega) (by omega), or_nat 64 _ _ (by omega) (by omega), hor, wrap_i64 (by omega) (by omega), wrap_u8 (by omega) (by omega)]
          rw [hd, hd2] at h14
          simp only at h14
          rw [ev] at h14
          obtain ⟨w15, l16, hr15, ho15, hf15, _⟩ := append_one' elByteH (ho.drew d6) (v := .int .u8 ((16 * x + y : Nat) : Int)) rfl (by rw [bv_len, hrl]; unfold maxLen; omega) (by rw [bv_len, hrl]; omega) hf6.size h14
          have ht := unhexL_take k s.data.toList r hr (by rw [bs_len]; omega) _ _ (bs_get (by omega)) (bs_get (by omega))
          rw [toNat_of _ (byt_lt _ _), toNat_of _ (byt_lt _ _), hd, hd2] at ht
          refine ⟨w15, l16, hr15, ⟨k + 1, _, rfl, by omega, ht, ?_, ?_⟩, by dsimp only; omega⟩
          · rw [← bv_snoc _ _ (by omega)]; exact ho15
          · exact hf6.trans hf15 fun q hq ⟨y, hy, e⟩ => by
              have := (ho.blk hy).1; omega
  · have hge := of_decide_eq_false hge
    have hm : Int.tmod (s.size : Int) 2 = ((s.size % 2 : Nat) : Int) := by rw [show (2 : Int) = ((2 : Nat) : Int) from rfl, Int.ofNat_tmod]
    rw [hm]
    refine ⟨by decide, fun h => ?_, fun h => ?_⟩
    · have h : ((s.size % 2 : Nat) : Int) ≠ 0 := by simpa using h
      have := unhexL_iff s.data.toList
      rw [bs_len, show (s.size % 2 == 0) = false by rw [beq_eq_false_iff_ne]; omega, Bool.and_false] at this
      have hn : unhexL s.data.toList = none := by simpa using this
      unfold unhexS
      rw [hn]
      exact ⟨rfl, hf⟩
    · have h : ((s.size % 2 : Nat) : Int) = 0 := by simpa using h
      have hks : 2 * k = s.size := by omega
      rw [hks, bs_all] at hr
      refine ⟨_, _, bytes_str (e := T_uint8) (by kernel_rfl) (by kernel_rfl) (by kernel_rfl) l3.cap ho.reads (by rw [ho.len, bv_len]), ?_, hf⟩
      unfold unhexS
      rw [hr]; rfl
/-- 'Id'. -/
theorem id_spec (s : ByteArray) (hs : s.size ≤ 140737488355328) (w : World) : Calls Try.prog F_sums_Id #[.string s] w fun e w' => e = .returned (.bool (isId s.data.toList)) ∧ Fr (fun _ => False) w w' := by
  refine vc_sums_Id_ok (R := fun v w' => v = .bool (isId s.data.toList) ∧ Fr (fun _ => False) w w') ?_ (fun v w' h => ⟨by rw [h.1], h.2⟩)
  refine (unhex_spec s hs w).mono ?_
  rintro e w2 ⟨rfl, hf⟩
  refine ⟨_, _, rfl, fun h => ⟨?_, hf⟩, fun h => ⟨?_, hf⟩⟩
  · unfold isId
    rw [h, Bool.true_and, bs_len]
    congr 1
    rw [Bool.eq_iff_iff, beq_iff_eq, beq_iff_eq]; omega
  · unfold isId; rw [h]; rfl
end Go.Proofs.Ytoagdpjickippaa

/- Formulas of 3 Go functions of this seat (written by a program of the author's, vcgen.py), and that each is enough for the call. No condition. -/
set_option linter.unusedVariables false
namespace Go.Proofs.Ytoagdpjickippaa
open Go Vc Go.Proofs
set_option maxRecDepth 100000
/-- packidx.Build -/
def vc_packidx_Build (x0a : Option Addr) (x0n : Nat) (x0c : Nat) (x1 : ByteArray) (x2 : Int) (w : World) (R : Value → World → Prop) : Prop :=
  (((decide ((↑x0n : Int) > 1000) = true →
     R (Value.tuple (Array.mk [Value.string (ByteArray.mk (Array.mk [])), Value.int IntKind.i64 2])) w)) ∧
   (decide ((↑x0n : Int) > 1000) = false →
     Calls Try.prog (17 : Nat) (Array.mk [Value.slice x0a x0n x0c]) (w) (fun e1 w2 =>
       ∃ l3 : Sl, (e1 = Ending.returned (Value.slice l3.1 l3.2 l3.3) ∧
        Calls Try.prog (18 : Nat) (Array.mk [Value.slice l3.1 l3.2 l3.3, Value.func (Fn.func 19) (Array.mk []) (Array.mk [])]) (w2) (fun e4 w5 =>
          (e4 = Ending.returned (Value.tuple (Array.mk [])) ∧
           ∃ I6 : Int → World → Prop, ∃ I7 : Int → World → Nat, (I6 0 w5 ∧
            ∀ n8 : Int,
            ∀ w9 : World,
            (I6 n8 w9 →
              (((decide (n8 < (↑l3.2 : Int)) = true →
                 ((0 ≤ n8 ∧
                   n8 < (↑l3.2 : Int)) ∧
                  ∃ a10 : Addr, (l3.1 = some a10 ∧
                   ∃ s11 : ByteArray, ∃ n12 : Int, ∃ n13 : Int, (Sem.run Try.prog (loadVar 32 (Addr.add a10 (Int.toNat n8 * 3))) w9 = Result.ok (Value.agg (Array.mk [Value.string s11, Value.int IntKind.i64 n12, Value.int IntKind.u32 n13])) w9 ∧
                    ∀ w14 : World,
                    (w14 = World.alloc w9 (Obj.cells (Array.mk [Value.string (ByteArray.mk (Array.mk [])), Value.int IntKind.i64 0, Value.int IntKind.u32 0]) 32) →
                      ∃ w15 : World, (Sem.run Try.prog (storeVar 32 (Addr.mk (Array.size (World.heap w9)) 0 none) (Value.agg (Array.mk [Value.string s11, Value.int IntKind.i64 n12, Value.int IntKind.u32 n13]))) w14 = Result.ok PUnit.unit w15 ∧
                       ∀ w16 : World,
                       (Drew w15 w16 →
                         ∃ I17 : World → Prop, (I17 w16 ∧
                          ∃ s18 : ByteArray, ((∀ w19 : World,
                           (I17 w19 →
                             World.cell? w19 (Addr.mk (Array.size (World.heap w9)) 0 none) = some (Value.string s18))) ∧
                           Calls Try.prog (21 : Nat) (Array.mk [Value.string s18]) (w16) (fun e20 w21 =>
                             ∃ b22 : Bool, (e20 = Ending.returned (Value.bool b22) ∧
                              (I17 w21 ∧
                               ((((!b22) = true →
                                  R (Value.tuple (Array.mk [Value.string (ByteArray.mk (Array.mk [])), Value.int IntKind.i64 4])) w21)) ∧
                                ((!b22) = false →
                                  (((decide (n8 > 0) = true →
                                     ((0 ≤ IntKind.wrap IntKind.i64 (n8 - 1) ∧
                                       IntKind.wrap IntKind.i64 (n8 - 1) < (↑l3.2 : Int)) ∧
                                      ∃ a23 : Addr, (l3.1 = some a23 ∧
                                       ∃ s24 : ByteArray, ((∀ w25 : World,
                                        (I17 w25 →
                                          World.cell? w25 (Addr.add a23 (Int.toNat (IntKind.wrap IntKind.i64 (n8 - 1)) * 3)) = some (Value.string s24))) ∧
                                        ∃ s26 : ByteArray, ((∀ w27 : World,
                                         (I17 w27 →
                                           World.cell? w27 (Addr.mk (Array.size (World.heap w9)) 0 none) = some (Value.string s26))) ∧
                                         ((((ByteArray.toList s24 == ByteArray.toList s26) = true →
                                            R (Value.tuple (Array.mk [Value.string (ByteArray.mk (Array.mk [])), Value.int IntKind.i64 4])) w21)) ∧
                                          ((ByteArray.toList s24 == ByteArray.toList s26) = false →
                                            ∃ n28 : Int, ((∀ w29 : World,
                                             (I17 w29 →
                                               World.cell? w29 (Addr.mk (Array.size (World.heap w9)) 1 none) = some (Value.int IntKind.i64 n28))) ∧
                                             (((decide (n28 < 0) = true →
                                                R (Value.tuple (Array.mk [Value.string (ByteArray.mk (Array.mk [])), Value.int IntKind.i64 4])) w21)) ∧
                                              (decide (n28 < 0) = false →
                                                ∃ n30 : Int, ((∀ w31 : World,
                                                 (I17 w31 →
                                                   World.cell? w31 (Addr.mk (Array.size (World.heap w9)) 1 none) = some (Value.int IntKind.i64 n30))) ∧
                                                 (((decide (n30 > 1099511627776) = true →
                                                    R (Value.tuple (Array.mk [Value.string (ByteArray.mk (Array.mk [])), Value.int IntKind.i64 4])) w21)) ∧
                                                  (decide (n30 > 1099511627776) = false →
                                                    (I6 (IntKind.wrap IntKind.i64 (n8 + 1)) w21 ∧
                                                     I7 (IntKind.wrap IntKind.i64 (n8 + 1)) w21 < I7 n8 w9))))))))))))))) ∧
                                   (decide (n8 > 0) = false →
                                     ∃ n32 : Int, ((∀ w33 : World,
                                      (I17 w33 →
                                        World.cell? w33 (Addr.mk (Array.size (World.heap w9)) 1 none) = some (Value.int IntKind.i64 n32))) ∧
                                      (((decide (n32 < 0) = true →
                                         R (Value.tuple (Array.mk [Value.string (ByteArray.mk (Array.mk [])), Value.int IntKind.i64 4])) w21)) ∧
                                       (decide (n32 < 0) = false →
                                         ∃ n34 : Int, ((∀ w35 : World,
                                          (I17 w35 →
                                            World.cell? w35 (Addr.mk (Array.size (World.heap w9)) 1 none) = some (Value.int IntKind.i64 n34))) ∧
                                          (((decide (n34 > 1099511627776) = true →
                                             R (Value.tuple (Array.mk [Value.string (ByteArray.mk (Array.mk [])), Value.int IntKind.i64 4])) w21)) ∧
                                           (decide (n34 > 1099511627776) = false →
                                             (I6 (IntKind.wrap IntKind.i64 (n8 + 1)) w21 ∧
                                              I7 (IntKind.wrap IntKind.i64 (n8 + 1)) w21 < I7 n8 w9)))))))))))))))))))))))) ∧
               (decide (n8 < (↑l3.2 : Int)) = false →
                 Calls Try.prog (22 : Nat) (Array.mk [Value.string x1]) (w9) (fun e36 w37 =>
                   ∃ s38 : ByteArray, ∃ b39 : Bool, (e36 = Ending.returned (Value.tuple (Array.mk [Value.string s38, Value.bool b39])) ∧
                    ((((!b39) = true →
                       R (Value.tuple (Array.mk [Value.string (ByteArray.mk (Array.mk [])), Value.int IntKind.i64 4])) w37)) ∧
                     ((!b39) = false →
                       (((((↑(ByteArray.size s38) : Int) != 20) = true →
                          R (Value.tuple (Array.mk [Value.string (ByteArray.mk (Array.mk [])), Value.int IntKind.i64 4])) w37)) ∧
                        (((↑(ByteArray.size s38) : Int) != 20) = false →
                          ∀ w40 : World,
                          (w40 = World.alloc w37 (Obj.cells (Array.mk [Value.int IntKind.i64 0, Value.int IntKind.i64 0, Value.int IntKind.i64 0, Value.int IntKind.i64 0, Value.int IntKind.i64 0, Value.int IntKind.i64 0, Value.int IntKind.i64 0, Value.int IntKind.i64 0, Value.int IntKind.i64 0, Value.int IntKind.i64 0, Value.int IntKind.i64 0, Value.int IntKind.i64 0, Value.int IntKind.i64 0, Value.int IntKind.i64 0, Value.int IntKind.i64 0, Value.int IntKind.i64 0, Value.int IntKind.i64 0, Value.int IntKind.i64 0, Value.int IntKind.i64 0, Value.int IntKind.i64 0, Value.int IntKind.i64 0, Value.int IntKind.i64 0, Value.int IntKind.i64 0, Value.int IntKind.i64 0, Value.int IntKind.i64 0, Value.int IntKind.i64 0, Value.int IntKind.i64 0, Value.int IntKind.i64 0, Value.int IntKind.i64 0, Value.int IntKind.i64 0, Value.int IntKind.i64 0, Value.int IntKind.i64 0, Value.int IntKind.i64 0, Value.int IntKind.i64 0, Value.int IntKind.i64 0, Value.int IntKind.i64 0, Value.int IntKind.i64 0, Value.int IntKind.i64 0, Value.int IntKind.i64 0, Value.int IntKind.i64 0, Value.int IntKind.i64 0, Value.int IntKind.i64 0, Value.int IntKind.i64 0, Value.int IntKind.i64 0, Value.int IntKind.i64 0, Value.int IntKind.i64 0, Value.int IntKind.i64 0, Value.int IntKind.i64 0, Value.int IntKind.i64 0, Value.int IntKind.i64 0, Value.int IntKind.i64 0, Value.int IntKind.i64 0, Value.int IntKind.i64 0, Value.int IntKind.i64 0, Value.int IntKind.i64 0, Value.int IntKind.i64 0, Value.int IntKind.i64 0, Value.int IntKind.i64 0, Value.int IntKind.i64 0, Value.int IntKind.i64 0, Value.int IntKind.i64 0, Value.int IntKind.i64 0, Value.int IntKind.i64 0, Value.int IntKind.i64 0, Value.int IntKind.i64 0, Value.int IntKind.i64 0, Value.int IntKind.i64 0, Value.int IntKind.i64 0, Value.int IntKind.i64 0, Value.int IntKind.i64 0, Value.int IntKind.i64 0, Value.int IntKind.i64 0, Value.int IntKind.i64 0, Value.int IntKind.i64 0, Value.int IntKind.i64 0, Value.int IntKind.i64 0, Value.int IntKind.i64 0, Value.int IntKind.i64 0, Value.int IntKind.i64 0, Value.int IntKind.i64 0, Value.int IntKind.i64 0, Value.int IntKind.i64 0, Value.int IntKind.i64 0, Value.int IntKind.i64 0, Value.int IntKind.i64 0, Value.int IntKind.i64 0, Value.int IntKind.i64 0, Value.int IntKind.i64 0, Value.int IntKind.i64 0, Value.int IntKind.i64 0, Value.int IntKind.i64 0, Value.int IntKind.i64 0, Value.int IntKind.i64 0, Value.int IntKind.i64 0, Value.int IntKind.i64 0, Value.int IntKind.i64 0, Value.int IntKind.i64 0, Value.int IntKind.i64 0, Value.int IntKind.i64 0, Value.int IntKind.i64 0, Value.int IntKind.i64 0, Value.int IntKind.i64 0, Value.int IntKind.i64 0, Value.int IntKind.i64 0, Value.int IntKind.i64 0, Value.int IntKind.i64 0, Value.int IntKind.i64 0, Value.int IntKind.i64 0, Value.int IntKind.i64 0, Value.int IntKind.i64 0, Value.int IntKind.i64 0, Value.int IntKind.i64 0, Value.int IntKind.i64 0, Value.int IntKind.i64 0, Value.int IntKind.i64 0, Value.int IntKind.i64 0, Value.int IntKind.i64 0, Value.int IntKind.i64 0, Value.int IntKind.i64 0, Value.int IntKind.i64 0, Value.int IntKind.i64 0, Value.int IntKind.i64 0, Value.int IntKind.i64 0, Value.int IntKind.i64 0, Value.int IntKind.i64 0, Value.int IntKind.i64 0, Value.int IntKind.i64 0, Value.int IntKind.i64 0, Value.int IntKind.i64 0, Value.int IntKind.i64 0, Value.int IntKind.i64 0, Value.int IntKind.i64 0, Value.int IntKind.i64 0, Value.int IntKind.i64 0, Value.int IntKind.i64 0, Value.int IntKind.i64 0, Value.int IntKind.i64 0, Value.int IntKind.i64 0, Value.int IntKind.i64 0, Value.int IntKind.i64 0, Value.int IntKind.i64 0, Value.int IntKind.i64 0, Value.int IntKind.i64 0, Value.int IntKind.i64 0, Value.int IntKind.i64 0, Value.int IntKind.i64 0, Value.int IntKind.i64 0, Value.int IntKind.i64 0, Value.int IntKind.i64 0, Value.int IntKind.i64 0, Value.int IntKind.i64 0, Value.int IntKind.i64 0, Value.int IntKind.i64 0, Value.int IntKind.i64 0, Value.int IntKind.i64 0, Value.int IntKind.i64 0, Value.int IntKind.i64 0, Value.int IntKind.i64 0, Value.int IntKind.i64 0, Value.int IntKind.i64 0, Value.int IntKind.i64 0, Value.int IntKind.i64 0, Value.int IntKind.i64 0, Value.int IntKind.i64 0, Value.int IntKind.i64 0, Value.int IntKind.i64 0, Value.int IntKind.i64 0, Value.int IntKind.i64 0, Value.int IntKind.i64 0, Value.int IntKind.i64 0, Value.int IntKind.i64 0, Value.int IntKind.i64 0, Value.int IntKind.i64 0, Value.int IntKind.i64 0, Value.int IntKind.i64 0, Value.int IntKind.i64 0, Value.int IntKind.i64 0, Value.int IntKind.i64 0, Value.int IntKind.i64 0, Value.int IntKind.i64 0, Value.int IntKind.i64 0, Value.int IntKind.i64 0, Value.int IntKind.i64 0, Value.int IntKind.i64 0, Value.int IntKind.i64 0, Value.int IntKind.i64 0, Value.int IntKind.i64 0, Value.int IntKind.i64 0, Value.int IntKind.i64 0, Value.int IntKind.i64 0, Value.int IntKind.i64 0, Value.int IntKind.i64 0, Value.int IntKind.i64 0, Value.int IntKind.i64 0, Value.int IntKind.i64 0, Value.int IntKind.i64 0, Value.int IntKind.i64 0, Value.int IntKind.i64 0, Value.int IntKind.i64 0, Value.int IntKind.i64 0, Value.int IntKind.i64 0, Value.int IntKind.i64 0, Value.int IntKind.i64 0, Value.int IntKind.i64 0, Value.int IntKind.i64 0, Value.int IntKind.i64 0, Value.int IntKind.i64 0, Value.int IntKind.i64 0, Value.int IntKind.i64 0, Value.int IntKind.i64 0, Value.int IntKind.i64 0, Value.int IntKind.i64 0, Value.int IntKind.i64 0, Value.int IntKind.i64 0, Value.int IntKind.i64 0, Value.int IntKind.i64 0, Value.int IntKind.i64 0, Value.int IntKind.i64 0, Value.int IntKind.i64 0, Value.int IntKind.i64 0, Value.int IntKind.i64 0, Value.int IntKind.i64 0, Value.int IntKind.i64 0, Value.int IntKind.i64 0, Value.int IntKind.i64 0, Value.int IntKind.i64 0, Value.int IntKind.i64 0, Value.int IntKind.i64 0, Value.int IntKind.i64 0, Value.int IntKind.i64 0, Value.int IntKind.i64 0, Value.int IntKind.i64 0, Value.int IntKind.i64 0, Value.int IntKind.i64 0, Value.int IntKind.i64 0, Value.int IntKind.i64 0, Value.int IntKind.i64 0, Value.int IntKind.i64 0, Value.int IntKind.i64 0, Value.int IntKind.i64 0, Value.int IntKind.i64 0, Value.int IntKind.i64 0, Value.int IntKind.i64 0, Value.int IntKind.i64 0, Value.int IntKind.i64 0, Value.int IntKind.i64 0, Value.int IntKind.i64 0, Value.int IntKind.i64 0, Value.int IntKind.i64 0, Value.int IntKind.i64 0, Value.int IntKind.i64 0, Value.int IntKind.i64 0, Value.int IntKind.i64 0, Value.int IntKind.i64 0, Value.int IntKind.i64 0, Value.int IntKind.i64 0]) 56) →
                            ∃ I41 : ByteArray → ByteArray → ByteArray → ByteArray → Int → World → Prop, ∃ I42 : ByteArray → ByteArray → ByteArray → ByteArray → Int → World → Nat, (I41 (ByteArray.mk (Array.mk [])) (ByteArray.mk (Array.mk [])) (ByteArray.mk (Array.mk [])) (ByteArray.mk (Array.mk [])) 0 w40 ∧
                             ∀ s43 : ByteArray,
                             ∀ s44 : ByteArray,
                             ∀ s45 : ByteArray,
                             ∀ s46 : ByteArray,
                             ∀ n47 : Int,
                             ∀ w48 : World,
                             (I41 s43 s44 s45 s46 n47 w48 →
                               (((decide (n47 < (↑l3.2 : Int)) = true →
                                  ((0 ≤ n47 ∧
                                    n47 < (↑l3.2 : Int)) ∧
                                   ∃ a49 : Addr, (l3.1 = some a49 ∧
                                    ∃ s50 : ByteArray, ∃ n51 : Int, ∃ n52 : Int, (Sem.run Try.prog (loadVar 32 (Addr.add a49 (Int.toNat n47 * 3))) w48 = Result.ok (Value.agg (Array.mk [Value.string s50, Value.int IntKind.i64 n51, Value.int IntKind.u32 n52])) w48 ∧
                                     ∀ w53 : World,
                                     (w53 = World.alloc w48 (Obj.cells (Array.mk [Value.string (ByteArray.mk (Array.mk [])), Value.int IntKind.i64 0, Value.int IntKind.u32 0]) 32) →
                                       ∃ w54 : World, (Sem.run Try.prog (storeVar 32 (Addr.mk (Array.size (World.heap w48)) 0 none) (Value.agg (Array.mk [Value.string s50, Value.int IntKind.i64 n51, Value.int IntKind.u32 n52]))) w53 = Result.ok PUnit.unit w54 ∧
                                        ∃ s55 : ByteArray, (World.cell? w54 (Addr.mk (Array.size (World.heap w48)) 0 none) = some (Value.string s55) ∧
                                         Calls Try.prog (22 : Nat) (Array.mk [Value.string s55]) (w54) (fun e56 w57 =>
                                           ∃ s58 : ByteArray, ∃ b59 : Bool, (e56 = Ending.returned (Value.tuple (Array.mk [Value.string s58, Value.bool b59])) ∧
                                            (((0 : Int) ≤ (0 : Int) ∧
                                              0 < (↑(ByteArray.size s58) : Int)) ∧
                                             ∃ I60 : Int → World → Prop, ∃ I61 : Int → World → Nat, (I60 (IntKind.wrap IntKind.i64 (byteAt s58 0)) w57 ∧
                                              ∀ n62 : Int,
                                              ∀ w63 : World,
                                              (I60 n62 w63 →
                                                (((decide (n62 < 256) = true →
                                                   ((0 ≤ n62 ∧
                                                     n62 < (↑256 : Int)) ∧
                                                    ∃ n64 : Int, (World.cell? w63 (Addr.add (Addr.mk (Array.size (World.heap w37)) 0 none) (Int.toNat n62 * 1)) = some (Value.int IntKind.i64 n64) ∧
                                                     ((0 ≤ n62 ∧
                                                       n62 < (↑256 : Int)) ∧
                                                      (Wr w63 (Addr.add (Addr.mk (Array.size (World.heap w37)) 0 none) (Int.toNat n62 * 1)) ∧
                                                       ∀ w65 : World,
                                                       (w65 = World.setCell w63 (Addr.add (Addr.mk (Array.size (World.heap w37)) 0 none) (Int.toNat n62 * 1)) (Value.int IntKind.i64 (IntKind.wrap IntKind.i64 (n64 + 1))) →
                                                         (I60 (IntKind.wrap IntKind.i64 (n62 + 1)) w65 ∧
                                                          I61 (IntKind.wrap IntKind.i64 (n62 + 1)) w65 < I61 n62 w63)))))))) ∧
                                                 (decide (n62 < 256) = false →
                                                   (ByteArray.size s43 + ByteArray.size s58 ≤ 9223372036854775807 ∧
                                                    ∃ n66 : Int, (World.cell? w63 (Addr.mk (Array.size (World.heap w48)) 2 none) = some (Value.int IntKind.u32 n66) ∧
                                                     Calls Try.prog (23 : Nat) (Array.mk [Value.int IntKind.u64 (IntKind.wrap IntKind.u64 n66), Value.int IntKind.i64 4]) (w63) (fun e67 w68 =>
                                                       ∃ s69 : ByteArray, (e67 = Ending.returned (Value.string s69) ∧
                                                        (ByteArray.size s44 + ByteArray.size s69 ≤ 9223372036854775807 ∧
                                                         ∃ I70 : Bool → World → Prop, ((∃ n71 : Int, (World.cell? w68 (Addr.mk (Array.size (World.heap w48)) 1 none) = some (Value.int IntKind.i64 n71) ∧
                                                           (((decide (n71 ≥ x2) = true →
                                                              I70 true w68)) ∧
                                                            (decide (n71 ≥ x2) = false →
                                                              ∃ n72 : Int, (World.cell? w68 (Addr.mk (Array.size (World.heap w48)) 1 none) = some (Value.int IntKind.i64 n72) ∧
                                                               I70 (decide (n72 ≥ 2147483648)) w68))))) ∧
                                                          ∀ b73 : Bool,
                                                          ∀ w74 : World,
                                                          (I70 b73 w74 →
                                                            (((b73 = true →
                                                               ((8 : Int) ≠ (0 : Int) ∧
                                                                Calls Try.prog (23 : Nat) (Array.mk [Value.int IntKind.u64 (IntKind.wrap IntKind.u64 (IntKind.wrap IntKind.i64 (2147483648 + IntKind.wrap IntKind.i64 (Int.tdiv (↑(ByteArray.size s46) : Int) 8)))), Value.int IntKind.i64 4]) (w74) (fun e75 w76 =>
                                                                  ∃ s77 : ByteArray, (e75 = Ending.returned (Value.string s77) ∧
                                                                   (ByteArray.size s45 + ByteArray.size s77 ≤ 9223372036854775807 ∧
                                                                    ∃ n78 : Int, (World.cell? w76 (Addr.mk (Array.size (World.heap w48)) 1 none) = some (Value.int IntKind.i64 n78) ∧
                                                                     Calls Try.prog (23 : Nat) (Array.mk [Value.int IntKind.u64 (IntKind.wrap IntKind.u64 n78), Value.int IntKind.i64 8]) (w76) (fun e79 w80 =>
                                                                       ∃ s81 : ByteArray, (e79 = Ending.returned (Value.string s81) ∧
                                                                        (ByteArray.size s46 + ByteArray.size s81 ≤ 9223372036854775807 ∧
                                                                         (I41 (s43 ++ s58) (s44 ++ s69) (s45 ++ s77) (s46 ++ s81) (IntKind.wrap IntKind.i64 (n47 + 1)) w80 ∧
                                                                          I42 (s43 ++ s58) (s44 ++ s69) (s45 ++ s77) (s46 ++ s81) (IntKind.wrap IntKind.i64 (n47 + 1)) w80 < I42 s43 s44 s45 s46 n47 w48))))))))))) ∧
                                                             (b73 = false →
                                                               ∃ n82 : Int, (World.cell? w74 (Addr.mk (Array.size (World.heap w48)) 1 none) = some (Value.int IntKind.i64 n82) ∧
                                                                Calls Try.prog (23 : Nat) (Array.mk [Value.int IntKind.u64 (IntKind.wrap IntKind.u64 n82), Value.int IntKind.i64 4]) (w74) (fun e83 w84 =>
                                                                  ∃ s85 : ByteArray, (e83 = Ending.returned (Value.string s85) ∧
                                                                   (ByteArray.size s45 + ByteArray.size s85 ≤ 9223372036854775807 ∧
                                                                    (I41 (s43 ++ s58) (s44 ++ s69) (s45 ++ s85) s46 (IntKind.wrap IntKind.i64 (n47 + 1)) w84 ∧
                                                                     I42 (s43 ++ s58) (s44 ++ s69) (s45 ++ s85) s46 (IntKind.wrap IntKind.i64 (n47 + 1)) w84 < I42 s43 s44 s45 s46 n47 w48))))))))))))))))))))))))))))) ∧
                                (decide (n47 < (↑l3.2 : Int)) = false →
                                  ∃ v86 : Value, (Sem.run Try.prog (loadVar 56 (Addr.mk (Array.size (World.heap w37)) 0 none)) w48 = Result.ok v86 w48 ∧
                                   ∃ I87 : ByteArray → Int → World → Prop, ∃ I88 : ByteArray → Int → World → Nat, (I87 (ByteArray.mk (Array.mk [255, 116, 79, 99, 0, 0, 0, 2])) 0 w48 ∧
                                    ∀ s89 : ByteArray,
                                    ∀ n90 : Int,
                                    ∀ w91 : World,
                                    (I87 s89 n90 w91 →
                                      (((decide (n90 < 256) = true →
                                         ∃ w92 : World, ∃ n93 : Int, (Sem.run Try.prog (Instr.index 56 v86 (Value.int IntKind.i64 n90)) w91 = Result.ok (Value.int IntKind.i64 n93) w92 ∧
                                          Calls Try.prog (23 : Nat) (Array.mk [Value.int IntKind.u64 (IntKind.wrap IntKind.u64 n93), Value.int IntKind.i64 4]) (w92) (fun e94 w95 =>
                                            ∃ s96 : ByteArray, (e94 = Ending.returned (Value.string s96) ∧
                                             (ByteArray.size s89 + ByteArray.size s96 ≤ 9223372036854775807 ∧
                                              (I87 (s89 ++ s96) (IntKind.wrap IntKind.i64 (n90 + 1)) w95 ∧
                                               I88 (s89 ++ s96) (IntKind.wrap IntKind.i64 (n90 + 1)) w95 < I88 s89 n90 w91))))))) ∧
                                       (decide (n90 < 256) = false →
                                         (ByteArray.size s43 + ByteArray.size s44 ≤ 9223372036854775807 ∧
                                          (ByteArray.size (s43 ++ s44) + ByteArray.size s45 ≤ 9223372036854775807 ∧
                                           (ByteArray.size (s43 ++ s44 ++ s45) + ByteArray.size s46 ≤ 9223372036854775807 ∧
                                            (ByteArray.size (s43 ++ s44 ++ s45 ++ s46) + ByteArray.size s38 ≤ 9223372036854775807 ∧
                                             (ByteArray.size s89 + ByteArray.size (s43 ++ s44 ++ s45 ++ s46 ++ s38) ≤ 9223372036854775807 ∧
                                              Calls Try.prog (24 : Nat) (Array.mk [Value.string (s89 ++ (s43 ++ s44 ++ s45 ++ s46 ++ s38))]) (w91) (fun e97 w98 =>
                                                ∃ s99 : ByteArray, (e97 = Ending.returned (Value.string s99) ∧
                                                 (ByteArray.size (s89 ++ (s43 ++ s44 ++ s45 ++ s46 ++ s38)) + ByteArray.size s99 ≤ 9223372036854775807 ∧
                                                  R (Value.tuple (Array.mk [Value.string (s89 ++ (s43 ++ s44 ++ s45 ++ s46 ++ s38) ++ s99), Value.int IntKind.i64 0])) w98))))))))))))))))))))))))))))))))))
theorem vc_packidx_Build_ok {x0a : Option Addr} {x0n : Nat} {x0c : Nat} {x1 : ByteArray} {x2 : Int} {w : World} {R : Value → World → Prop} {R' : Ending → World → Prop} (h : vc_packidx_Build x0a x0n x0c x1 x2 w R) (hR : ∀ v w', R v w' → R' (.returned v) w') :
    Calls Try.prog 6 #[.slice x0a x0n x0c, .string x1, .int .i64 x2] w R' :=
  calls_of_body (vs := [(.slice x0a x0n x0c, false), (.string x1, false), (.int .i64 x2, false)]) (ty := ty) (ann := ⟨[(27, [(123, .bool)])], [(6, [(35, .int .i64)]), (17, [(14, .str), (15, .str), (16, .str), (17, .str), (84, .int .i64)]), (21, [(22, .int .i64)]), (33, [(23, .str), (146, .int .i64)])], [(8, .held [(0, true), (1, true), (2, false), (3, true), (4, true), (5, true), (6, true), (7, true), (8, true), (9, true), (10, true), (11, true), (12, true), (13, true), (14, true), (15, true), (16, true), (17, true), (18, true), (19, true), (20, true), (21, true), (22, true), (23, true), (24, true), (25, true), (26, true), (27, true), (28, true)])], []⟩) (c := Try.f6.body.getD .skip) (by kernel_rfl) Try.func6 (by kernel_rfl) (by kernel_rfl) (Eq.mp (by kernel_rfl) h) hR
/-- packidx.Build$1 -/
def vc_packidx_Build_1 (x0_0 : ByteArray) (x0_1 : Int) (x0_2 : Int) (x1_0 : ByteArray) (x1_1 : Int) (x1_2 : Int) (w : World) (R : Value → World → Prop) : Prop :=
  ∀ w1 : World,
  (w1 = World.alloc w (Obj.cells (Array.mk [Value.string x0_0, Value.int IntKind.i64 x0_1, Value.int IntKind.u32 x0_2]) 32) →
    ∀ w2 : World,
    (w2 = World.alloc w1 (Obj.cells (Array.mk [Value.string x1_0, Value.int IntKind.i64 x1_1, Value.int IntKind.u32 x1_2]) 32) →
      ∃ s3 : ByteArray, (World.cell? w2 (Addr.mk (Array.size (World.heap w)) 0 none) = some (Value.string s3) ∧
       ∃ s4 : ByteArray, (World.cell? w2 (Addr.mk (Array.size (World.heap w1)) 0 none) = some (Value.string s4) ∧
        Calls Try.prog (20 : Nat) (Array.mk [Value.string s3, Value.string s4]) (w2) (fun e5 w6 =>
          ∃ n7 : Int, (e5 = Ending.returned (Value.int IntKind.i64 n7) ∧
           R (Value.int IntKind.i64 n7) w6))))))
theorem vc_packidx_Build_1_ok {x0_0 : ByteArray} {x0_1 : Int} {x0_2 : Int} {x1_0 : ByteArray} {x1_1 : Int} {x1_2 : Int} {w : World} {R : Value → World → Prop} {R' : Ending → World → Prop} (h : vc_packidx_Build_1 x0_0 x0_1 x0_2 x1_0 x1_1 x1_2 w R) (hR : ∀ v w', R v w' → R' (.returned v) w') :
    Calls Try.prog 19 #[.agg #[.string x0_0, .int .i64 x0_1, .int .u32 x0_2], .agg #[.string x1_0, .int .i64 x1_1, .int .u32 x1_2]] w R' :=
  calls_of_body (vs := [(.agg #[.string x0_0, .int .i64 x0_1, .int .u32 x0_2], false), (.agg #[.string x1_0, .int .i64 x1_1, .int .u32 x1_2], false)]) (ty := ty) (ann := ⟨[], [], [], []⟩) (c := Try.f19.body.getD .skip) (by kernel_rfl) Try.func19 (by kernel_rfl) (by kernel_rfl) (Eq.mp (by kernel_rfl) h) hR
/-- slices.Clone[[]packidx.Row,packidx.Row] -/
def vc_slices_Clone (x0a : Option Addr) (x0n : Nat) (x0c : Nat) (w : World) (R : Value → World → Prop) : Prop :=
  (((Option.isNone x0a = true →
     R (Value.slice none 0 0) w)) ∧
   (Option.isNone x0a = false →
     ∀ w1 : World,
     (w1 = World.alloc w (Obj.cells (Array.mk []) 32) →
       ∃ w2 : World, ∃ l3 : Sl, (Sem.run Try.prog (Builtin.append_ (Array.mk [22, 22]) 22 (Array.mk [Value.slice (some (Addr.mk (Array.size (World.heap w)) 0 none)) 0 0, Value.slice x0a x0n x0c])) w1 = Result.ok (Value.slice l3.1 l3.2 l3.3) w2 ∧
        R (Value.slice l3.1 l3.2 l3.3) w2))))
theorem vc_slices_Clone_ok {x0a : Option Addr} {x0n : Nat} {x0c : Nat} {w : World} {R : Value → World → Prop} {R' : Ending → World → Prop} (h : vc_slices_Clone x0a x0n x0c w R) (hR : ∀ v w', R v w' → R' (.returned v) w') :
    Calls Try.prog 17 #[.slice x0a x0n x0c] w R' :=
  calls_of_body (vs := [(.slice x0a x0n x0c, false)]) (ty := ty) (ann := ⟨[], [], [], []⟩) (c := Try.f17.body.getD .skip) (by kernel_rfl) Try.func17 (by kernel_rfl) (by kernel_rfl) (Eq.mp (by kernel_rfl) h) hR
end Go.Proofs.Ytoagdpjickippaa

/- packidx.Build: what rows have as bytes. Conditions: the names are no longer than memory. -/
set_option linter.unusedVariables false
namespace PkM
open SumM
theorem nearV_snoc (far : Int) : ∀ (k : Nat) (l : List Rw) (r : Rw), nearV far k (l ++ [r]) = nearV far k l ++ [if isFar far r = true then 2147483648 + k + (l.filter (isFar far)).length else r.2.1]
  | k, [], r => by
    show (if isFar far r = true then (2147483648 + k) :: nearV far (k + 1) [] else r.2.1 :: nearV far k []) = [] ++ [if isFar far r = true then 2147483648 + k + (([] : List Rw).filter (isFar far)).length else r.2.1]
    by_cases h : isFar far r = true
    · rw [if_pos h, if_pos h]; rfl
    · rw [if_neg h, if_neg h]; rfl
  | k, x :: l, r => by
    rw [List.cons_append, nearV, nearV]
    by_cases hx : isFar far x = true
    · rw [if_pos hx, if_pos hx, nearV_snoc far (k + 1) l r, List.filter_cons_of_pos hx, List.length_cons, show 2147483648 + (k + 1) + (l.filter (isFar far)).length = 2147483648 + k + ((l.filter (isFar far)).length + 1) by omega]; rfl
    · rw [if_neg hx, if_neg hx, nearV_snoc far k l r, List.filter_cons_of_neg hx]; rfl
theorem cnt_snoc (l : List Rw) (r : Rw) (c : Nat) : cnt (l ++ [r]) c = if hd0 r.1 ≤ c then cnt l c + 1 else cnt l c := by
  unfold cnt
  rw [List.filter_append, List.length_append]
  by_cases h : hd0 r.1 ≤ c
  · rw [if_pos h, List.filter_cons_of_pos (by simpa using h)]; rfl
  · rw [if_neg h, List.filter_cons_of_neg (by simpa using h)]; rfl
end PkM
namespace Go.Proofs.Ytoagdpjickippaa
open Go Vc HexM SumM ShaM Go.Proofs Go.Sort

theorem bs_cat (A B : List UInt8) : (⟨A.toArray⟩ : ByteArray) ++ ⟨B.toArray⟩ = ⟨(A ++ B).toArray⟩ := bs_ext (by rw [bs_app, bs_mk, bs_mk, bs_mk])
def cmpP (x y : PRow) : Int := Lib.compareBytes x.1.data.toList y.1.data.toList
theorem ltP (x y : PRow) : ltOf cmpP x y = decide (x.1.data.toList < y.1.data.toList) := decide_eq_decide.2 (cmp_lt _ _)
theorem swoP : SWO (ltOf cmpP) where
  irrefl x := by rw [ltP, decide_eq_false_iff_not]; exact List.lt_irrefl _
  trans x y z h1 h2 := by
    rw [ltP, decide_eq_true_eq] at *
    exact List.lt_trans h1 h2
  ntrans x y z h1 h2 := by
    rw [ltP, decide_eq_false_iff_not] at *
    intro h
    rcases lt_tri x.1.data.toList y.1.data.toList with h3 | h3 | h3
    · exact h1 h3
    · rw [h3] at h; exact h2 h
    · exact h2 (List.lt_trans h3 h)
theorem byId_spec (x y : PRow) (w : World) : Calls Try.prog F_packidx_Build_1 #[.agg (encP x).toArray, .agg (encP y).toArray] w fun e w' => e = .returned (.int .i64 (cmpP x y)) ∧ ∃ q os', w' = grow (w.drewN q) os' := by
  refine vc_packidx_Build_1_ok (R := fun v w' => v = .int .i64 (cmpP x y) ∧ ∃ q os', w' = grow (w.drewN q) os') ?_ (fun v w' h => ⟨by rw [h.1], h.2⟩)
  intro w1 h1 w2 h2
  have hb1 : w1.heap[w.heap.size]? = some (.cells (encP x).toArray T_packidx_Row (0, 0)) := by rw [h1]; exact alloc_new _ _
  have hb2 : w2.heap[w1.heap.size]? = some (.cells (encP y).toArray T_packidx_Row (0, 0)) := by rw [h2]; exact alloc_new _ _
  have hb1' : w2.heap[w.heap.size]? = some (.cells (encP x).toArray T_packidx_Row (0, 0)) := by rw [h2]; exact (Fr.alloc (fun _ => False) _ _).keep hb1 (by simp)
  refine ⟨x.1, by rw [cell_blk hb1']; rfl, y.1, by rw [cell_blk hb2]; rfl, (compare_spec _ _ w2).mono ?_⟩
  rintro e w6 ⟨rfl, rfl⟩
  refine ⟨_, rfl, rfl, 0, #[.cells (encP x).toArray T_packidx_Row (0, 0), .cells (encP y).toArray T_packidx_Row (0, 0)], ?_⟩
  rw [h2, h1, alloc_eq_grow, alloc_eq_grow, grow_grow]
  rfl
instance : Inhabited PRow := ⟨⟨#[]⟩, 0, 0⟩
/-- 'slices.SortFunc' of rows by their names. -/
theorem sortP_spec {w : World} {base : Nat} {e : TypeId} {l : Sl} {xs : List PRow} (h : OwnK encP 3 w base e l xs) (hsz : xs.length ≤ 1000000) :
    Calls Try.prog 18 #[.slice l.a l.len l.cap, .func (.func F_packidx_Build_1) #[] #[]] w fun r w' =>
      r = .returned (.tuple #[]) ∧ ∃ ys : List PRow, ys.Perm xs ∧ NearP ys ∧ OwnK encP 3 w' base e l ys ∧ Fr (At l) w w' := by
  have hlen := h.1
  cases ha : l.a with
  | none =>
    have hl0 : l.len = 0 ∧ l.cap = 0 := by
      rcases h.2.2 with ⟨hv, _⟩ | ⟨g, cap, cur, hv, _⟩
      · simp only [Value.slice.injEq] at hv; exact ⟨hv.2.1, hv.2.2⟩
      · simp only [Value.slice.injEq] at hv; rw [ha] at hv; cases hv.1
    have hx : xs = [] := List.length_eq_zero_iff.1 (by omega)
    subst hx
    rw [hl0.1, hl0.2]
    refine (AnyF.slices_SortFunc_none sortLays none 0 _ w).mono ?_
    rintro r w' ⟨rfl, rfl⟩
    exact ⟨rfl, [], List.Perm.refl _, List.Pairwise.nil, h, .refl _ _⟩
  | some ad =>
    obtain ⟨g, rfl⟩ : ∃ g, ad = ⟨g, 0, none⟩ := by
      rcases h.2.2 with ⟨hv, _⟩ | ⟨g, cap, cur, hv, _⟩
      · simp only [Value.slice.injEq] at hv; rw [ha] at hv; cases hv.1
      · simp only [Value.slice.injEq] at hv; rw [ha] at hv; exact ⟨g, Option.some.inj hv.1⟩
    obtain ⟨cur, hg, _⟩ := own_row h ha
    have hc := AnyQ.slices_SortFunc sortLays 3 Try.isAgg32 Try.sizeOf32 encP (fun _ => rfl) (fun x v hv => by
      simp only [encP, List.mem_cons, List.mem_nil_iff, or_false] at hv
      rcases hv with rfl | rfl | rfl <;> rfl) cmpP swoP F_packidx_Build_1 #[] g 0 l.cap xs.toArray w (enters_of (P := Try.prog) Try.func19 (by kernel_rfl) rfl)
      (fun m os dk _ x y => byId_spec x y _) (own_holds (fun _ => rfl) (by decide) h ha) (lt_blk hg) (by rw [List.size_toArray]; omega)
    have hl : l.len = xs.length := h.1.symm
    rw [hl]
    rw [List.size_toArray] at hc
    refine hc.mono ?_
    rintro r w' ⟨rfl, d', n, os, ⟨p1, _, p3⟩, p4, rfl⟩
    have p1 : d'.size = xs.length := by simpa using p1
    refine ⟨rfl, d'.toList, ?_, ?_, ?_, ?_⟩
    · have e1 : (d'.extract 0 xs.length).toList = d'.toList := by rw [← p1]; simp
      have e2 : (xs.toArray.extract 0 xs.length).toList = xs := by simp
      rw [e1, e2] at p3
      exact p3
    · unfold NearP
      rw [List.pairwise_iff_getElem]
      intro i j hi hj hij
      have := p4 i j (Nat.zero_le _) hij (by rw [Array.length_toList] at hj; omega)
      rw [Array.length_toList] at hi hj
      rw [getElem!_pos d' i hi, getElem!_pos d' j hj, ltP, decide_eq_false_iff_not] at this
      simpa using this
    · have := own_sorted (enc := encP) (k := 3) (fun _ => rfl) (by decide) h ha n d'.toList (by rw [Array.length_toList, p1]) os
      simpa using this
    · have := sort_fr (enc := encP) (k := 3) (w := w) (g := g) n d'.toList os
      exact (by simpa using this : Fr (· = g) w (sortWorldK encP 3 w g 0 n d' os)).mono fun q _ e => ⟨_, ha, e⟩
theorem cloneP_spec {w : World} {a : Option Addr} {n c : Nat} {xs : List PRow} (hr : ReadsK encP 3 w a xs) (hn : xs.length = n) (hl : n ≤ 1000000) : Calls Try.prog F_slices_Clone #[.slice a n c] w fun e w' =>
    ∃ l, e = .returned (.slice l.a l.len l.cap) ∧ OwnK encP 3 w' w.heap.size T_packidx_Row l xs ∧ Fr (fun _ => False) w w' := by
  refine vc_slices_Clone_ok (R := fun v w' => ∃ l : Sl, v = .slice l.a l.len l.cap ∧ OwnK encP 3 w' w.heap.size T_packidx_Row l xs ∧ Fr (fun _ => False) w w') ?_ (fun v w' ⟨l, h⟩ => ⟨l, by rw [h.1], h.2⟩)
  refine ⟨fun ha => ?_, fun ha w1 h1 => ?_⟩
  · have ha : a = none := by simpa using ha
    have hx : xs = [] := by
      cases xs with
      | nil => rfl
      | cons x r =>
        obtain ⟨ad, h, _⟩ := hr 0 x rfl
        rw [ha] at h; cases h
    subst hx
    exact ⟨⟨none, 0, 0⟩, rfl, .nil _ _ _, .refl _ _⟩
  · have hf1 : Fr (fun _ => False) w w1 := by rw [h1]; exact .alloc _ _ _
    have ho1 : OwnK encP 3 w1 w.heap.size T_packidx_Row ⟨some ⟨w.heap.size, 0, none⟩, 0, 0⟩ [] := by rw [h1]; exact .empty w _
    obtain ⟨w2, l3, hr2, ho2, hf2⟩ := append_allK elP ho1 c (hr.keep hf1 (by simp)) (by simp [maxLen]; omega) (by simp; omega) hf1.size hn
    exact ⟨w2, l3, hr2, l3, rfl, ho2, hf1.trans hf2 fun q hq ⟨y, hy, e⟩ => by cases hy; simp only at e; omega⟩
theorem boxP_run (w : World) (x : PRow) : (storeVar T_packidx_Row ⟨w.heap.size, 0, none⟩ (.agg #[.string x.1, .int .i64 x.2.1, .int .u32 x.2.2])).run Try.prog (w.alloc (.cells #[.string ⟨#[]⟩, .int .i64 0, .int .u32 0] T_packidx_Row)) = .ok () (w.alloc (.cells (encP x).toArray T_packidx_Row)) :=
  run_storeVar_new w T_packidx_Row _ _ (by kernel_rfl) rfl (by simp [Value.oneCell'])
theorem boxP_cell (w : World) (x : PRow) {w' : World} {X : Nat → Prop} (hf : Fr X (w.alloc (.cells (encP x).toArray T_packidx_Row)) w') (hx : ¬ X w.heap.size) {j : Nat} {v : Value} (hv : (encP x)[j]? = some v) : w'.cell? ⟨w.heap.size, j, none⟩ = some v :=
  hf.cell (by rw [cell_blk (alloc_new w _)]; simpa using hv) hx
/-- How many names are below a first byte. -/
def CntAt (w : World) (b : Nat) (F : Nat → Nat) : Prop := ∃ cs : Array Value, w.heap[b]? = some (.cells cs T_256_int (0, 0)) ∧ cs.size = 256 ∧ ∀ c, c < 256 → cs[c]? = some (.int .i64 (F c : Nat))
theorem CntAt.keep {w w1 : World} {b : Nat} {F : Nat → Nat} (h : CntAt w b F) {X : Nat → Prop} (hf : Fr X w w1) (hx : ¬ X b) : CntAt w1 b F := by
  obtain ⟨cs, h1, h2⟩ := h
  exact ⟨cs, hf.keep h1 hx, h2⟩
theorem CntAt.at {w : World} {b : Nat} {F : Nat → Nat} (h : CntAt w b F) {c : Nat} (hc : c < 256) : w.cell? ⟨b, c, none⟩ = some (.int .i64 (F c : Nat)) ∧ Wr w ⟨b, c, none⟩ := by
  obtain ⟨cs, h1, h2, h3⟩ := h
  exact ⟨by rw [cell_blk h1]; exact h3 c hc, wr_blk h1 (by omega)⟩
theorem CntAt.set {w : World} {b : Nat} {F G : Nat → Nat} (h : CntAt w b F) {c v : Nat} (hc : c < 256) (hG : ∀ k, k < 256 → G k = if k = c then v else F k) : CntAt (w.setCell ⟨b, c, none⟩ (.int .i64 (v : Nat))) b G := by
  obtain ⟨cs, h1, h2, h3⟩ := h
  refine ⟨_, set_blk h1 _ _, by simpa using h2, fun k hk => ?_⟩
  rw [Array.getElem?_setIfInBounds, hG k hk]
  by_cases hkc : k = c
  · rw [if_pos hkc.symm, if_pos (by omega), if_pos hkc]
  · rw [if_neg (fun e => hkc e.symm), if_neg hkc]; exact h3 k hk
theorem CntAt.load {w : World} {b : Nat} {F : Nat → Nat} (h : CntAt w b F) : (loadVar T_256_int ⟨b, 0, none⟩).run Try.prog w = .ok (.agg ((List.range 256).map fun c => .int .i64 (F c : Nat)).toArray) w := by
  refine load_agg (vs := (List.range 256).map fun c => Value.int .i64 (F c : Nat)) (agg_of (by kernel_rfl)) (by rw [List.length_map, List.length_range]; kernel_rfl) fun k v hv => ?_
  rw [add_lit, Nat.zero_add]
  rw [List.getElem?_map] at hv
  by_cases hk : k < 256
  · rw [List.getElem?_range hk, Option.map_some, Option.some.injEq] at hv
    rw [← hv]; exact (h.at hk).1
  · rw [List.getElem?_eq_none (by rw [List.length_range]; omega)] at hv; cases hv
theorem id_unhex (s : ByteArray) : isId s.data.toList = ((unhexL s.data.toList).isSome && decide ((unhexS s).size = 20)) := by
  unfold isId unhexS
  cases h : unhexL s.data.toList with
  | none => rfl
  | some r =>
    have := unhexL_len _ _ h
    show (true && (s.data.toList.length == 40)) = (true && decide ((⟨r.toArray⟩ : ByteArray).size = 20))
    rw [Bool.true_and, Bool.true_and, bs_mksize, Bool.eq_iff_iff, beq_iff_eq, decide_eq_true_eq]; omega
theorem unhexS_raw {s : ByteArray} (h : isId s.data.toList = true) : unhexS s = ⟨(rawB s).toArray⟩ ∧ (unhexS s).size = 20 ∧ (unhexL s.data.toList).isSome = true := by
  obtain ⟨h1, h2, h3⟩ := rawB_id h
  have : unhexS s = ⟨(rawB s).toArray⟩ := by unfold unhexS; rw [h1]
  exact ⟨this, by rw [this, bs_mksize, h2], by rw [h1]; rfl⟩
theorem digest_len (t : List UInt8) : (sha1D t).length = 20 := dig1_len t
end Go.Proofs.Ytoagdpjickippaa

/- Formulas of 1 Go functions of this seat (written by a program of the author's, vcgen.py), and that each is enough for the call. No condition. -/
set_option linter.unusedVariables false
namespace Go.Proofs.Ytoagdpjickippaa
open Go Vc Go.Proofs
set_option maxRecDepth 100000
/-- cartularyref07.Begins -/
def vc_cartularyref07_Begins (x0 : ByteArray) (x1 : ByteArray) (w : World) (R : Value → World → Prop) : Prop :=
  (((decide ((↑(ByteArray.size x0) : Int) ≥ (↑(ByteArray.size x1) : Int)) = true →
     ((0 ≤ (↑(ByteArray.size x1) : Int) ∧
       (↑(ByteArray.size x1) : Int) ≤ (↑(ByteArray.size x0) : Int)) ∧
      R (Value.bool (ByteArray.toList (ByteArray.extract x0 0 (Int.toNat (↑(ByteArray.size x1) : Int))) == ByteArray.toList x1)) w))) ∧
   (decide ((↑(ByteArray.size x0) : Int) ≥ (↑(ByteArray.size x1) : Int)) = false →
     R (Value.bool false) w))
theorem vc_cartularyref07_Begins_ok {x0 : ByteArray} {x1 : ByteArray} {w : World} {R : Value → World → Prop} {R' : Ending → World → Prop} (h : vc_cartularyref07_Begins x0 x1 w R) (hR : ∀ v w', R v w' → R' (.returned v) w') :
    Calls Try.prog 37 #[.string x0, .string x1] w R' :=
  calls_of_body (vs := [(.string x0, false), (.string x1, false)]) (ty := ty) (ann := ⟨[], [], [], []⟩) (c := Try.f37.body.getD .skip) (by kernel_rfl) Try.func37 (by kernel_rfl) (by kernel_rfl) (Eq.mp (by kernel_rfl) h) hR
end Go.Proofs.Ytoagdpjickippaa

/- The reference's Begins. No condition. -/
set_option linter.unusedVariables false
namespace Go.Proofs.Ytoagdpjickippaa
open Go Vc Go.Proofs

theorem begins_spec (s t : ByteArray) (w : World) : Calls Try.prog F_cartularyref07_Begins #[.string s, .string t] w fun e w' => e = .returned (.bool (begB s t)) ∧ w' = w := by
  refine vc_cartularyref07_Begins_ok (R := fun v w' => v = .bool (begB s t) ∧ w' = w) ?_ (fun v w' h => ⟨by rw [h.1], h.2⟩)
  refine ⟨fun h => ⟨⟨by omega, by have := of_decide_eq_true h; omega⟩, ?_, rfl⟩, fun h => ⟨?_, rfl⟩⟩
  · have h := of_decide_eq_true h
    rw [Int.toNat_natCast, begB_cut (by omega)]
  · rw [begB_short (by have := of_decide_eq_false h; omega)]
end Go.Proofs.Ytoagdpjickippaa

/- Formulas of 1 Go functions of this seat (written by a program of the author's, vcgen.py), and that each is enough for the call. No condition. -/
set_option linter.unusedVariables false
namespace Go.Proofs.Ytoagdpjickippaa
open Go Vc Go.Proofs
set_option maxRecDepth 100000
/-- cartularyref07.Same -/
def vc_cartularyref07_Same (x0a : Option Addr) (x0n : Nat) (x0c : Nat) (x1a : Option Addr) (x1n : Nat) (x1c : Nat) (w : World) (R : Value → World → Prop) : Prop :=
  (((((↑x0n : Int) != (↑x1n : Int)) = true →
     R (Value.bool false) w)) ∧
   (((↑x0n : Int) != (↑x1n : Int)) = false →
     ∃ I1 : Int → World → Prop, ∃ I2 : Int → World → Nat, (I1 0 w ∧
      ∀ n3 : Int,
      ∀ w4 : World,
      (I1 n3 w4 →
        (((decide (n3 < (↑x0n : Int)) = true →
           ((0 ≤ n3 ∧
             n3 < (↑x0n : Int)) ∧
            ∃ a5 : Addr, (x0a = some a5 ∧
             ∃ s6 : ByteArray, (World.cell? w4 (Addr.add a5 (Int.toNat n3 * 1)) = some (Value.string s6) ∧
              ((0 ≤ n3 ∧
                n3 < (↑x1n : Int)) ∧
               ∃ a7 : Addr, (x1a = some a7 ∧
                ∃ s8 : ByteArray, (World.cell? w4 (Addr.add a7 (Int.toNat n3 * 1)) = some (Value.string s8) ∧
                 ∀ w9 : World,
                 (Drew w4 w9 →
                   ((((!ByteArray.toList s6 == ByteArray.toList s8) = true →
                      R (Value.bool false) w9)) ∧
                    ((!ByteArray.toList s6 == ByteArray.toList s8) = false →
                      (I1 (IntKind.wrap IntKind.i64 (n3 + 1)) w9 ∧
                       I2 (IntKind.wrap IntKind.i64 (n3 + 1)) w9 < I2 n3 w4)))))))))))) ∧
         (decide (n3 < (↑x0n : Int)) = false →
           R (Value.bool true) w4))))))
theorem vc_cartularyref07_Same_ok {x0a : Option Addr} {x0n : Nat} {x0c : Nat} {x1a : Option Addr} {x1n : Nat} {x1c : Nat} {w : World} {R : Value → World → Prop} {R' : Ending → World → Prop} (h : vc_cartularyref07_Same x0a x0n x0c x1a x1n x1c w R) (hR : ∀ v w', R v w' → R' (.returned v) w') :
    Calls Try.prog 38 #[.slice x0a x0n x0c, .slice x1a x1n x1c] w R' :=
  calls_of_body (vs := [(.slice x0a x0n x0c, false), (.slice x1a x1n x1c, false)]) (ty := ty) (ann := ⟨[], [(4, [(13, .int .i64)])], [(6, .quiet)], []⟩) (c := Try.f38.body.getD .skip) (by kernel_rfl) Try.func38 (by kernel_rfl) (by kernel_rfl) (Eq.mp (by kernel_rfl) h) hR
end Go.Proofs.Ytoagdpjickippaa

/- The reference's Same. No condition. -/
set_option linter.unusedVariables false
namespace Go.Proofs.Ytoagdpjickippaa
open Go Vc Go.Proofs

theorem same07_spec {w : World} {a b : Option Addr} {n m c d : Nat} {xs ys : List ByteArray} (hx : Reads w a (strV xs)) (hy : Reads w b (strV ys)) (hn : xs.length = n) (hm : ys.length = m) (hl : n ≤ 1000000) : Calls Try.prog F_cartularyref07_Same #[.slice a n c, .slice b m d] w fun e w' => (∃ r : Bool, e = .returned (.bool r) ∧ (r = true ↔ xs = ys)) ∧ Drew w w' := by
  refine vc_cartularyref07_Same_ok (R := fun v w' => (∃ r : Bool, v = .bool r ∧ (r = true ↔ xs = ys)) ∧ Drew w w') ?_ (fun v w' ⟨⟨r, h1, h2⟩, h3⟩ => ⟨⟨r, by rw [h1], h2⟩, h3⟩)
  refine ⟨fun h => ⟨⟨false, rfl, fun h => (by cases h), fun e => ?_⟩, .refl _⟩, fun h => ?_⟩
  · rw [← hn, ← hm, e] at h; simp at h
  have hnm : n = m := by
    have : ((n : Int) != (m : Int)) = false := h
    have : (n : Int) = m := by simpa using this
    omega
  refine ⟨fun i w' => ∃ k : Nat, i = k ∧ k ≤ n ∧ xs.take k = ys.take k ∧ Drew w w', fun i _ => n - i.toNat, ⟨0, rfl, Nat.zero_le _, rfl, .refl _⟩, ?_⟩
  rintro i w4 ⟨k, rfl, hk, heq, d4⟩
  have e1 : IntKind.i64.wrap ((k : Int) + 1) = ((k + 1 : Nat) : Int) := by rw [wrap_i64 (by omega) (by omega)]; omega
  rw [e1]
  refine ⟨fun hlt => ?_, fun hge => ⟨⟨true, rfl, fun _ => ?_, fun _ => rfl⟩, d4⟩⟩
  · have hlt := of_decide_eq_true hlt
    have h1 : xs[k]? = some xs[k] := List.getElem?_eq_getElem (by omega)
    have h2 : ys[k]? = some ys[k] := List.getElem?_eq_getElem (by omega)
    generalize xs[k] = x at h1
    generalize ys[k] = y at h2
    have fd : Fr (fun _ => False) w w4 := .drew _ d4
    obtain ⟨ad, had, hc⟩ := hx k (.string x) (by simp [strV, h1])
    obtain ⟨bd, hbd, hc'⟩ := hy k (.string y) (by simp [strV, h2])
    refine ⟨⟨by omega, by omega⟩, ad, had, x, by rw [Int.toNat_natCast, Nat.mul_one]; exact fd.cell hc (by simp), ⟨by omega, by omega⟩, bd, hbd, y, by rw [Int.toNat_natCast, Nat.mul_one]; exact fd.cell hc' (by simp), fun w9 d9 => ⟨fun h => ⟨⟨false, rfl, fun h => (by cases h), fun e => ?_⟩, d4.trans d9⟩, fun h => ⟨⟨k + 1, rfl, by omega, ?_, d4.trans d9⟩, by dsimp only; omega⟩⟩⟩
    · rw [e, h2] at h1
      cases h1
      rw [bs_eq] at h; simp at h
    · rw [bs_eq] at h
      have h : x = y := by simpa using h
      rw [List.take_add_one, List.take_add_one, heq, h1, h2, h]
  · have hge := of_decide_eq_false hge
    have hk' : k = n := by omega
    rw [hk', List.take_of_length_le (by omega), List.take_of_length_le (by omega)] at heq
    exact heq
end Go.Proofs.Ytoagdpjickippaa

/- Formulas of 2 Go functions of this seat (written by a program of the author's, vcgen.py), and that each is enough for the call. No condition. -/
set_option linter.unusedVariables false
namespace Go.Proofs.Ytoagdpjickippaa
open Go Vc Go.Proofs
set_option maxRecDepth 100000
/-- cartularylaw12.is -/
def vc_cartularylaw12_is (x0 : Nat) (x1a : Option Addr) (x1n : Nat) (x1c : Nat) (x2 : ByteArray) (x3 : ByteArray) (w : World) (R : Value → World → Prop) : Prop :=
  (((Option.isNone (some (Addr.mk x0 0 none)) = true →
     R (Value.bool false) w)) ∧
   (Option.isNone (some (Addr.mk x0 0 none)) = false →
     Calls Try.prog (25 : Nat) (Array.mk [Value.pointer (some (Addr.mk x0 0 none))]) (w) (fun e1 w2 =>
       ∃ n3 : Int, (e1 = Ending.returned (Value.int IntKind.i64 n3) ∧
        ((((n3 != (↑x1n : Int)) = true →
           R (Value.bool false) w2)) ∧
         ((n3 != (↑x1n : Int)) = false →
           Calls Try.prog (35 : Nat) (Array.mk [Value.pointer (some (Addr.mk x0 0 none))]) (w2) (fun e4 w5 =>
             ∃ s6 : ByteArray, (e4 = Ending.returned (Value.string s6) ∧
              ((((!ByteArray.toList s6 == ByteArray.toList x2) = true →
                 R (Value.bool false) w5)) ∧
               ((!ByteArray.toList s6 == ByteArray.toList x2) = false →
                 ∀ w7 : World,
                 (w7 = World.alloc w5 (Obj.cells (Array.mk []) 9) →
                   ∀ w8 : World,
                   (w8 = World.alloc w7 (Obj.cells (Array.mk [Value.string (ByteArray.mk (Array.mk [])), Value.int IntKind.i64 0, Value.int IntKind.u32 0]) 44) →
                     ∃ w9 : World, (Sem.run Try.prog (storeVar 44 (Addr.mk (Array.size (World.heap w7)) 0 none) (Value.agg (Array.mk [Value.string (ByteArray.mk (Array.mk [])), Value.int IntKind.i64 0, Value.int IntKind.u32 0]))) w8 = Result.ok PUnit.unit w9 ∧
                      ∃ I10 : Sl → Int → World → Prop, ∃ I11 : Sl → Int → World → Nat, (I10 (Sl.mk (some (Addr.mk (Array.size (World.heap w5)) 0 none)) 0 0) 0 w9 ∧
                       ∀ l12 : Sl,
                       ∀ n13 : Int,
                       ∀ w14 : World,
                       (I10 l12 n13 w14 →
                         (((decide (n13 < (↑x1n : Int)) = true →
                            ((0 ≤ n13 ∧
                              n13 < (↑x1n : Int)) ∧
                             ∃ a15 : Addr, (x1a = some a15 ∧
                              ∃ s16 : ByteArray, ∃ n17 : Int, ∃ n18 : Int, (Sem.run Try.prog (loadVar 44 (Addr.add a15 (Int.toNat n13 * 3))) w14 = Result.ok (Value.agg (Array.mk [Value.string s16, Value.int IntKind.i64 n17, Value.int IntKind.u32 n18])) w14 ∧
                               ∀ w19 : World,
                               (w19 = World.alloc w14 (Obj.cells (Array.mk [Value.string (ByteArray.mk (Array.mk [])), Value.int IntKind.i64 0, Value.int IntKind.u32 0]) 44) →
                                 ∃ w20 : World, (Sem.run Try.prog (storeVar 44 (Addr.mk (Array.size (World.heap w14)) 0 none) (Value.agg (Array.mk [Value.string s16, Value.int IntKind.i64 n17, Value.int IntKind.u32 n18]))) w19 = Result.ok PUnit.unit w20 ∧
                                  Calls Try.prog (36 : Nat) (Array.mk [Value.pointer (some (Addr.mk x0 0 none)), Value.int IntKind.i64 n13]) (w20) (fun e21 w22 =>
                                    ∃ s23 : ByteArray, ∃ n24 : Int, ∃ n25 : Int, ∃ n26 : Int, (e21 = Ending.returned (Value.tuple (Array.mk [Value.agg (Array.mk [Value.string s23, Value.int IntKind.i64 n24, Value.int IntKind.u32 n25]), Value.int IntKind.i64 n26])) ∧
                                     ∀ w27 : World,
                                     (w27 = World.alloc w22 (Obj.cells (Array.mk [Value.string (ByteArray.mk (Array.mk [])), Value.int IntKind.i64 0, Value.int IntKind.u32 0]) 32) →
                                       ∃ w28 : World, (Sem.run Try.prog (storeVar 32 (Addr.mk (Array.size (World.heap w22)) 0 none) (Value.agg (Array.mk [Value.string s23, Value.int IntKind.i64 n24, Value.int IntKind.u32 n25]))) w27 = Result.ok PUnit.unit w28 ∧
                                        ((((n26 != 0) = true →
                                           R (Value.bool false) w28)) ∧
                                         ((n26 != 0) = false →
                                           ∃ s29 : ByteArray, ∃ n30 : Int, ∃ n31 : Int, (Sem.run Try.prog (loadVar 32 (Addr.mk (Array.size (World.heap w22)) 0 none)) w28 = Result.ok (Value.agg (Array.mk [Value.string s29, Value.int IntKind.i64 n30, Value.int IntKind.u32 n31])) w28 ∧
                                            ∃ s32 : ByteArray, ∃ n33 : Int, ∃ n34 : Int, (Sem.run Try.prog (loadVar 44 (Addr.mk (Array.size (World.heap w14)) 0 none)) w28 = Result.ok (Value.agg (Array.mk [Value.string s32, Value.int IntKind.i64 n33, Value.int IntKind.u32 n34])) w28 ∧
                                             ((((!(ByteArray.toList s29 == ByteArray.toList s32 && (n30 == n33 && n31 == n34))) = true →
                                                R (Value.bool false) w28)) ∧
                                              ((!(ByteArray.toList s29 == ByteArray.toList s32 && (n30 == n33 && n31 == n34))) = false →
                                                ∃ s35 : ByteArray, (World.cell? w28 (Addr.mk (Array.size (World.heap w14)) 0 none) = some (Value.string s35) ∧
                                                 Calls Try.prog (37 : Nat) (Array.mk [Value.string s35, Value.string x3]) (w28) (fun e36 w37 =>
                                                   ∃ b38 : Bool, (e36 = Ending.returned (Value.bool b38) ∧
                                                    (((b38 = true →
                                                       ∃ s39 : ByteArray, (World.cell? w37 (Addr.mk (Array.size (World.heap w14)) 0 none) = some (Value.string s39) ∧
                                                        ∀ w40 : World,
                                                        (w40 = World.alloc w37 (Obj.cells (Array.mk [Value.string s39]) 9) →
                                                          ∃ w41 : World, ∃ l42 : Sl, (Sem.run Try.prog (Builtin.append_ (Array.mk [35, 35]) 35 (Array.mk [Value.slice l12.1 l12.2 l12.3, Value.slice (some (Addr.mk (Array.size (World.heap w37)) 0 none)) 1 1])) w40 = Result.ok (Value.slice l42.1 l42.2 l42.3) w41 ∧
                                                           ∃ s43 : ByteArray, (World.cell? w41 (Addr.mk (Array.size (World.heap w14)) 0 none) = some (Value.string s43) ∧
                                                            ((((ByteArray.toList s43 == ByteArray.toList x3) = true →
                                                               ∃ s44 : ByteArray, ∃ n45 : Int, ∃ n46 : Int, (Sem.run Try.prog (loadVar 44 (Addr.mk (Array.size (World.heap w14)) 0 none)) w41 = Result.ok (Value.agg (Array.mk [Value.string s44, Value.int IntKind.i64 n45, Value.int IntKind.u32 n46])) w41 ∧
                                                                ∃ w47 : World, (Sem.run Try.prog (storeVar 44 (Addr.mk (Array.size (World.heap w7)) 0 none) (Value.agg (Array.mk [Value.string s44, Value.int IntKind.i64 n45, Value.int IntKind.u32 n46]))) w41 = Result.ok PUnit.unit w47 ∧
                                                                 (I10 (Sl.mk l42.1 l42.2 l42.3) (IntKind.wrap IntKind.i64 (n13 + 1)) w47 ∧
                                                                  I11 (Sl.mk l42.1 l42.2 l42.3) (IntKind.wrap IntKind.i64 (n13 + 1)) w47 < I11 l12 n13 w14))))) ∧
                                                             ((ByteArray.toList s43 == ByteArray.toList x3) = false →
                                                               (I10 (Sl.mk l42.1 l42.2 l42.3) (IntKind.wrap IntKind.i64 (n13 + 1)) w41 ∧
                                                                I11 (Sl.mk l42.1 l42.2 l42.3) (IntKind.wrap IntKind.i64 (n13 + 1)) w41 < I11 l12 n13 w14))))))))) ∧
                                                     (b38 = false →
                                                       ∃ s48 : ByteArray, (World.cell? w37 (Addr.mk (Array.size (World.heap w14)) 0 none) = some (Value.string s48) ∧
                                                        ((((ByteArray.toList s48 == ByteArray.toList x3) = true →
                                                           ∃ s49 : ByteArray, ∃ n50 : Int, ∃ n51 : Int, (Sem.run Try.prog (loadVar 44 (Addr.mk (Array.size (World.heap w14)) 0 none)) w37 = Result.ok (Value.agg (Array.mk [Value.string s49, Value.int IntKind.i64 n50, Value.int IntKind.u32 n51])) w37 ∧
                                                            ∃ w52 : World, (Sem.run Try.prog (storeVar 44 (Addr.mk (Array.size (World.heap w7)) 0 none) (Value.agg (Array.mk [Value.string s49, Value.int IntKind.i64 n50, Value.int IntKind.u32 n51]))) w37 = Result.ok PUnit.unit w52 ∧
                                                             (I10 (Sl.mk l12.1 l12.2 l12.3) (IntKind.wrap IntKind.i64 (n13 + 1)) w52 ∧
                                                              I11 (Sl.mk l12.1 l12.2 l12.3) (IntKind.wrap IntKind.i64 (n13 + 1)) w52 < I11 l12 n13 w14))))) ∧
                                                         ((ByteArray.toList s48 == ByteArray.toList x3) = false →
                                                           (I10 (Sl.mk l12.1 l12.2 l12.3) (IntKind.wrap IntKind.i64 (n13 + 1)) w37 ∧
                                                            I11 (Sl.mk l12.1 l12.2 l12.3) (IntKind.wrap IntKind.i64 (n13 + 1)) w37 < I11 l12 n13 w14)))))))))))))))))))))))))) ∧
                          (decide (n13 < (↑x1n : Int)) = false →
                            Calls Try.prog (9 : Nat) (Array.mk [Value.pointer (some (Addr.mk x0 0 none)), Value.string x3]) (w14) (fun e53 w54 =>
                              ∃ s55 : ByteArray, ∃ n56 : Int, ∃ n57 : Int, ∃ n58 : Int, (e53 = Ending.returned (Value.tuple (Array.mk [Value.agg (Array.mk [Value.string s55, Value.int IntKind.i64 n56, Value.int IntKind.u32 n57]), Value.int IntKind.i64 n58])) ∧
                               ∀ w59 : World,
                               (w59 = World.alloc w54 (Obj.cells (Array.mk [Value.string (ByteArray.mk (Array.mk [])), Value.int IntKind.i64 0, Value.int IntKind.u32 0]) 32) →
                                 ∃ w60 : World, (Sem.run Try.prog (storeVar 32 (Addr.mk (Array.size (World.heap w54)) 0 none) (Value.agg (Array.mk [Value.string s55, Value.int IntKind.i64 n56, Value.int IntKind.u32 n57]))) w59 = Result.ok PUnit.unit w60 ∧
                                  Calls Try.prog (36 : Nat) (Array.mk [Value.pointer (some (Addr.mk x0 0 none)), Value.int IntKind.i64 (-1)]) (w60) (fun e61 w62 =>
                                    ∃ s63 : ByteArray, ∃ n64 : Int, ∃ n65 : Int, ∃ n66 : Int, (e61 = Ending.returned (Value.tuple (Array.mk [Value.agg (Array.mk [Value.string s63, Value.int IntKind.i64 n64, Value.int IntKind.u32 n65]), Value.int IntKind.i64 n66])) ∧
                                     ∀ w67 : World,
                                     (w67 = World.alloc w62 (Obj.cells (Array.mk [Value.string (ByteArray.mk (Array.mk [])), Value.int IntKind.i64 0, Value.int IntKind.u32 0]) 32) →
                                       ∃ w68 : World, (Sem.run Try.prog (storeVar 32 (Addr.mk (Array.size (World.heap w62)) 0 none) (Value.agg (Array.mk [Value.string s63, Value.int IntKind.i64 n64, Value.int IntKind.u32 n65]))) w67 = Result.ok PUnit.unit w68 ∧
                                        Calls Try.prog (36 : Nat) (Array.mk [Value.pointer (some (Addr.mk x0 0 none)), Value.int IntKind.i64 (↑x1n : Int)]) (w68) (fun e69 w70 =>
                                          ∃ s71 : ByteArray, ∃ n72 : Int, ∃ n73 : Int, ∃ n74 : Int, (e69 = Ending.returned (Value.tuple (Array.mk [Value.agg (Array.mk [Value.string s71, Value.int IntKind.i64 n72, Value.int IntKind.u32 n73]), Value.int IntKind.i64 n74])) ∧
                                           ∀ w75 : World,
                                           (w75 = World.alloc w70 (Obj.cells (Array.mk [Value.string (ByteArray.mk (Array.mk [])), Value.int IntKind.i64 0, Value.int IntKind.u32 0]) 32) →
                                             ∃ w76 : World, (Sem.run Try.prog (storeVar 32 (Addr.mk (Array.size (World.heap w70)) 0 none) (Value.agg (Array.mk [Value.string s71, Value.int IntKind.i64 n72, Value.int IntKind.u32 n73]))) w75 = Result.ok PUnit.unit w76 ∧
                                              ∃ s77 : ByteArray, ∃ n78 : Int, ∃ n79 : Int, (Sem.run Try.prog (loadVar 32 (Addr.mk (Array.size (World.heap w54)) 0 none)) w76 = Result.ok (Value.agg (Array.mk [Value.string s77, Value.int IntKind.i64 n78, Value.int IntKind.u32 n79])) w76 ∧
                                               ∃ s80 : ByteArray, ∃ n81 : Int, ∃ n82 : Int, (Sem.run Try.prog (loadVar 44 (Addr.mk (Array.size (World.heap w7)) 0 none)) w76 = Result.ok (Value.agg (Array.mk [Value.string s80, Value.int IntKind.i64 n81, Value.int IntKind.u32 n82])) w76 ∧
                                                ((((ByteArray.toList s77 == ByteArray.toList s80 && (n78 == n81 && n79 == n82)) = true →
                                                   ∃ s83 : ByteArray, (World.cell? w76 (Addr.mk (Array.size (World.heap w7)) 0 none) = some (Value.string s83) ∧
                                                    (((((n58 == 0) == !ByteArray.toList s83 == ByteArray.toList (ByteArray.mk (Array.mk []))) = true →
                                                       ((((n58 == 0) = true →
                                                          ((((n66 == 7) = true →
                                                             ((((n74 == 7) = true →
                                                                Calls Try.prog (10 : Nat) (Array.mk [Value.pointer (some (Addr.mk x0 0 none)), Value.string x3]) (w76) (fun e84 w85 =>
                                                                  ∃ l86 : Sl, (e84 = Ending.returned (Value.slice l86.1 l86.2 l86.3) ∧
                                                                   Calls Try.prog (38 : Nat) (Array.mk [Value.slice l86.1 l86.2 l86.3, Value.slice l12.1 l12.2 l12.3]) (w85) (fun e87 w88 =>
                                                                     ∃ b89 : Bool, (e87 = Ending.returned (Value.bool b89) ∧
                                                                      R (Value.bool b89) w88)))))) ∧
                                                              ((n74 == 7) = false →
                                                                R (Value.bool false) w76)))) ∧
                                                           ((n66 == 7) = false →
                                                             R (Value.bool false) w76)))) ∧
                                                        ((n58 == 0) = false →
                                                          ((((n58 == 7) = true →
                                                             ((((n66 == 7) = true →
                                                                ((((n74 == 7) = true →
                                                                   Calls Try.prog (10 : Nat) (Array.mk [Value.pointer (some (Addr.mk x0 0 none)), Value.string x3]) (w76) (fun e90 w91 =>
                                                                     ∃ l92 : Sl, (e90 = Ending.returned (Value.slice l92.1 l92.2 l92.3) ∧
                                                                      Calls Try.prog (38 : Nat) (Array.mk [Value.slice l92.1 l92.2 l92.3, Value.slice l12.1 l12.2 l12.3]) (w91) (fun e93 w94 =>
                                                                        ∃ b95 : Bool, (e93 = Ending.returned (Value.bool b95) ∧
                                                                         R (Value.bool b95) w94)))))) ∧
                                                                 ((n74 == 7) = false →
                                                                   R (Value.bool false) w76)))) ∧
                                                              ((n66 == 7) = false →
                                                                R (Value.bool false) w76)))) ∧
                                                           ((n58 == 7) = false →
                                                             R (Value.bool false) w76)))))) ∧
                                                     (((n58 == 0) == !ByteArray.toList s83 == ByteArray.toList (ByteArray.mk (Array.mk []))) = false →
                                                       R (Value.bool false) w76))))) ∧
                                                 ((ByteArray.toList s77 == ByteArray.toList s80 && (n78 == n81 && n79 == n82)) = false →
                                                   R (Value.bool false) w76)))))))))))))))))))))))))))))))))
theorem vc_cartularylaw12_is_ok {x0 : Nat} {x1a : Option Addr} {x1n : Nat} {x1c : Nat} {x2 : ByteArray} {x3 : ByteArray} {w : World} {R : Value → World → Prop} {R' : Ending → World → Prop} (h : vc_cartularylaw12_is x0 x1a x1n x1c x2 x3 w R) (hR : ∀ v w', R v w' → R' (.returned v) w') :
    Calls Try.prog 13 #[.pointer (some ⟨x0, 0, none⟩), .slice x1a x1n x1c, .string x2, .string x3] w R' :=
  calls_of_body (vs := [(.pointer (some ⟨x0, 0, none⟩), true), (.slice x1a x1n x1c, false), (.string x2, false), (.string x3, false)]) (ty := ty) (ann := ⟨[], [(6, [(9, .slice), (40, .int .i64)])], [], []⟩) (c := Try.f13.body.getD .skip) (by kernel_rfl) Try.func13 (by kernel_rfl) (by kernel_rfl) (Eq.mp (by kernel_rfl) h) hR
/-- cartularylaw12.PackidxReads -/
def vc_cartularylaw12_PackidxReads (x0 : ByteArray) (x1 : ByteArray) (w : World) (R : Value → World → Prop) : Prop :=
  Calls Try.prog (11 : Nat) (Array.mk [Value.string x0, Value.int IntKind.i64 1600]) (w) (fun e1 w2 =>
    ∃ s3 : ByteArray, (e1 = Ending.returned (Value.string s3) ∧
     Calls Try.prog (8 : Nat) (Array.mk [Value.string s3]) (w2) (fun e4 w5 =>
       ∃ p6 : Option Addr, ∃ n7 : Int, (e4 = Ending.returned (Value.tuple (Array.mk [Value.pointer p6, Value.int IntKind.i64 n7])) ∧
        Calls Try.prog (12 : Nat) (Array.mk [Value.string s3]) (w5) (fun e8 w9 =>
          ∃ l10 : Sl, ∃ s11 : ByteArray, ∃ n12 : Int, (e8 = Ending.returned (Value.tuple (Array.mk [Value.slice l10.1 l10.2 l10.3, Value.string s11, Value.int IntKind.i64 n12])) ∧
           Calls Try.prog (7 : Nat) (Array.mk []) (w9) (fun e13 w14 =>
             ∃ b15 : Bool, (e13 = Ending.returned (Value.bool b15) ∧
              ((((!b15) = true →
                 R (Value.bool false) w14)) ∧
               ((!b15) = false →
                 ((((n7 != n12) = true →
                    R (Value.bool false) w14)) ∧
                  ((n7 != n12) = false →
                    ((((n12 != 0) = true →
                       R (Value.bool (Option.isNone p6)) w14)) ∧
                     ((n12 != 0) = false →
                       Calls Try.prog (13 : Nat) (Array.mk [Value.pointer p6, Value.slice l10.1 l10.2 l10.3, Value.string s11, Value.string x1]) (w14) (fun e16 w17 =>
                         ∃ b18 : Bool, (e16 = Ending.returned (Value.bool b18) ∧
                          R (Value.bool b18) w17))))))))))))))))
theorem vc_cartularylaw12_PackidxReads_ok {x0 : ByteArray} {x1 : ByteArray} {w : World} {R : Value → World → Prop} {R' : Ending → World → Prop} (h : vc_cartularylaw12_PackidxReads x0 x1 w R) (hR : ∀ v w', R v w' → R' (.returned v) w') :
    Calls Try.prog 4 #[.string x0, .string x1] w R' :=
  calls_of_body (vs := [(.string x0, false), (.string x1, false)]) (ty := ty) (ann := ⟨[], [], [], []⟩) (c := Try.f4.body.getD .skip) (by kernel_rfl) Try.func4 (by kernel_rfl) (by kernel_rfl) (Eq.mp (by kernel_rfl) h) hR
end Go.Proofs.Ytoagdpjickippaa

/- Has an index just these rows and this sum? Conditions: the rows rise, at most a thousand, and bear names. -/
set_option linter.unusedVariables false
namespace Go.Proofs.Ytoagdpjickippaa
open Go Vc HexM SumM ShaM Go.Proofs

theorem boxR_run (w : World) (x : PRow) : (storeVar T_cartularyref12_Row ⟨w.heap.size, 0, none⟩ (.agg #[.string x.1, .int .i64 x.2.1, .int .u32 x.2.2])).run Try.prog (w.alloc (.cells #[.string ⟨#[]⟩, .int .i64 0, .int .u32 0] T_cartularyref12_Row)) = .ok () (w.alloc (.cells (encP x).toArray T_cartularyref12_Row)) :=
  run_storeVar_new w T_cartularyref12_Row _ _ (by kernel_rfl) rfl (by simp [Value.oneCell'])
theorem boxR_store {w : World} {g : Nat} {cs : Array Value} (h : w.heap[g]? = some (.cells cs T_cartularyref12_Row (0, 0))) (hc : cs.size = 3) (x : PRow) :
    ∃ w', (storeVar T_cartularyref12_Row ⟨g, 0, none⟩ (.agg #[.string x.1, .int .i64 x.2.1, .int .u32 x.2.2])).run Try.prog w = .ok () w' ∧ w'.heap[g]? = some (.cells (encP x).toArray T_cartularyref12_Row (0, 0)) ∧ Fr (· = g) w w' :=
  ⟨_, run_storeVar_row (P := Try.prog) w g T_cartularyref12_Row T_cartularyref12_Row _ (encP x).toArray h (by kernel_rfl) (by rw [hc]; rfl) (by simp [encP, Value.oneCell']), setRow_heap w g _ (encP x).toArray T_cartularyref12_Row (0, 0) h, setRow_fr (· = g) w g _ rfl⟩
theorem boxR_load {w : World} {g : Nat} {x : PRow} (h : w.heap[g]? = some (.cells (encP x).toArray T_cartularyref12_Row (0, 0))) : (loadVar T_cartularyref12_Row ⟨g, 0, none⟩).run Try.prog w = .ok (.agg #[.string x.1, .int .i64 x.2.1, .int .u32 x.2.2]) w :=
  load_agg (vs := encP x) (agg_of (by kernel_rfl)) (by kernel_rfl) fun k v hv => by rw [add_lit, Nat.zero_add, cell_blk h]; simpa [encP] using hv
theorem box_name {w : World} {g : Nat} {x : PRow} {t : TypeId} (h : w.heap[g]? = some (.cells (encP x).toArray t (0, 0))) : w.cell? ⟨g, 0, none⟩ = some (.string x.1) := by rw [cell_blk h]; rfl
def fnd (xs : List PRow) (id : ByteArray) : PRow := (findP xs id).getD (⟨#[]⟩, 0, 0)
theorem fnd_hit {xs : List PRow} {x : PRow} {id : ByteArray} (h : x.1 = id) (hd : ∀ y ∈ xs, y.1 ≠ x.1) : fnd (xs ++ [x]) id = x := by
  unfold fnd findP
  rw [List.find?_append, List.find?_eq_none.2 fun y hy => by simpa [h] using hd y hy]
  simp [h]
theorem fnd_miss {xs : List PRow} {x : PRow} {id : ByteArray} (h : x.1 ≠ id) : fnd (xs ++ [x]) id = fnd xs id := by
  unfold fnd findP
  rw [List.find?_append]
  simp [h]
theorem match_snoc (xs : List PRow) (x : PRow) (id : ByteArray) : matchP (xs ++ [x]) id = if begB x.1 id = true then matchP xs id ++ [x.1] else matchP xs id := by
  unfold matchP
  rw [List.filter_append, List.map_append]
  split <;> simp_all
theorem is_spec {w : World} {b : Nat} {rows : List PRow} {sum : ByteArray} {a : Option Addr} {n c : Nat} (hI : IsIdx w b rows sum) (hr : ReadsK encP 3 w a rows) (hn : rows.length = n) (hl : n ≤ 1000) (hs : RiseP rows) (hne : ∀ r ∈ rows, r.1 ≠ ⟨#[]⟩) (id : ByteArray) :
    Calls Try.prog F_cartularylaw12_is #[.pointer (some ⟨b, 0, none⟩), .slice a n c, .string sum, .string id] w fun e w' => e = .returned (.bool true) ∧ Fr (fun _ => False) w w' := by
  refine vc_cartularylaw12_is_ok (R := fun v w' => v = .bool true ∧ Fr (fun _ => False) w w') ?_ (fun v w' h => ⟨by rw [h.1], h.2⟩)
  refine ⟨fun h => (by cases h), fun _ => (len_spec hI).mono ?_⟩
  rintro e w2 ⟨rfl, hw⟩
  replace hw := hw.symm
  subst hw
  refine ⟨_, rfl, fun h => by rw [hn] at h; simp at h, fun _ => (sumP_spec hI).mono ?_⟩
  rintro e w2 ⟨rfl, hw⟩
  replace hw := hw.symm
  subst hw
  refine ⟨_, rfl, fun h => (by rw [beq_self_eq_true] at h; cases h), fun _ w7 h7 w8 h8 => ?_⟩
  have hf7 : Fr (fun _ => False) w w7 := by rw [h7]; exact .alloc _ _ _
  have ho7 : Vc.Own w7 w.heap.size T_string ⟨some ⟨w.heap.size, 0, none⟩, 0, 0⟩ (strV []) := by rw [h7]; exact own_lit w T_string
  have hs7 : w7.heap.size = w.heap.size + 1 := by rw [h7]; exact Array.size_push _
  clear h7
  subst h8
  refine ⟨_, boxR_run w7 (⟨#[]⟩, 0, 0), ?_⟩
  have hfb : Fr (fun _ => False) w7 (w7.alloc (.cells (encP (⟨#[]⟩, 0, 0)).toArray T_cartularyref12_Row)) := .alloc _ _ _
  have hb9 : (w7.alloc (.cells (encP (⟨#[]⟩, 0, 0)).toArray T_cartularyref12_Row)).heap[w7.heap.size]? = some (.cells (encP (⟨#[]⟩, 0, 0)).toArray T_cartularyref12_Row (0, 0)) := alloc_new _ _
  generalize w7.alloc (.cells (encP (⟨#[]⟩, 0, 0)).toArray T_cartularyref12_Row) = w9 at hfb hb9 ⊢
  obtain ⟨g0, hg0⟩ : ∃ g, w7.heap.size = g := ⟨_, rfl⟩
  rw [hg0] at hb9 hs7 ⊢
  have hf9 := hf7.trans' hfb
  have ho9 := ho7.keep hfb (by simp)
  clear ho7 hfb
  refine ⟨fun l i w' => ∃ k : Nat, i = k ∧ k ≤ n ∧ Vc.Own w' w.heap.size T_string l (strV (matchP (rows.take k) id)) ∧ (∀ y, l.a = some y → y.block ≠ g0) ∧
      w'.heap[g0]? = some (.cells (encP (fnd (rows.take k) id)).toArray T_cartularyref12_Row (0, 0)) ∧ Fr (fun _ => False) w w', fun _ i _ => n - i.toNat,
    ⟨0, rfl, Nat.zero_le _, ho9, fun y hy => by cases hy; simp only; omega, hb9, hf9⟩, ?_⟩
  clear ho9 hb9 hf9 hf7
  rintro l i w14 ⟨k, rfl, hk, ho14, hna, hg14, hf14⟩
  refine ⟨fun hlt => ?_, fun hge => ?_⟩
  · have hlt := of_decide_eq_true hlt
    have hkl : k < rows.length := by omega
    have hx : rows[k]? = some rows[k] := List.getElem?_eq_getElem hkl
    generalize rows[k] = x at hx
    have e1 : IntKind.i64.wrap ((k : Int) + 1) = ((k + 1 : Nat) : Int) := by rw [wrap_i64 (by omega) (by omega)]; omega
    rw [e1]
    have htk : rows.take (k + 1) = rows.take k ++ [x] := by rw [List.take_add_one, hx]; rfl
    have hdist : ∀ y ∈ rows.take k, y.1 ≠ x.1 := fun y hy e => by
      obtain ⟨j, hj⟩ := List.mem_iff_getElem?.1 hy
      have hjk : j < k := by
        have := (List.getElem?_eq_some_iff.1 hj).1
        rw [List.length_take] at this; omega
      rw [List.getElem?_take_of_lt hjk] at hj
      obtain ⟨hjl, hje⟩ := List.getElem?_eq_some_iff.1 hj
      obtain ⟨hkl2, hke⟩ := List.getElem?_eq_some_iff.1 hx
      have := (List.pairwise_iff_getElem.1 (rise_dist hs)) j k hjl hkl2 hjk
      rw [hje, hke] at this
      exact this e
    obtain ⟨ad, had, hld⟩ := (hr.keep hf14 (by simp)).load elRP hx
    refine ⟨⟨by omega, by omega⟩, ad, had, x.1, x.2.1, x.2.2, by rw [Int.toNat_natCast]; exact hld, fun w19 h19 => ?_⟩
    subst h19
    refine ⟨_, boxR_run w14 x, ?_⟩
    have hfa : Fr (fun _ => False) w14 (w14.alloc (.cells (encP x).toArray T_cartularyref12_Row)) := .alloc _ _ _
    have hb20 : (w14.alloc (.cells (encP x).toArray T_cartularyref12_Row)).heap[w14.heap.size]? = some (.cells (encP x).toArray T_cartularyref12_Row (0, 0)) := alloc_new _ _
    generalize w14.alloc (.cells (encP x).toArray T_cartularyref12_Row) = w20 at hfa hb20 ⊢
    refine (atP_spec (hI.keep (hf14.trans' hfa)) (by omega) (k : Int)).mono ?_
    rintro e w22 ⟨rfl, hf22⟩
    rw [if_pos (by omega), Int.toNat_natCast, hx]
    refine ⟨x.1, x.2.1, x.2.2, 0, rfl, fun w27 h27 => ?_⟩
    subst h27
    refine ⟨_, boxP_run w22 x, fun h => (by cases h), fun _ => ?_⟩
    have hfc : Fr (fun _ => False) w22 (w22.alloc (.cells (encP x).toArray T_packidx_Row)) := .alloc _ _ _
    have hb28 : (w22.alloc (.cells (encP x).toArray T_packidx_Row)).heap[w22.heap.size]? = some (.cells (encP x).toArray T_packidx_Row (0, 0)) := alloc_new _ _
    generalize w22.alloc (.cells (encP x).toArray T_packidx_Row) = w28 at hfc hb28 ⊢
    have hf28' := (hfa.trans' hf22).trans' hfc
    have hb28' := (hf22.trans' hfc).keep hb20 (by simp)
    refine ⟨_, _, _, boxP_load hb28, _, _, _, boxR_load hb28', fun h => ?_, fun _ => ⟨x.1, box_name hb28', (begins_spec x.1 id w28).mono ?_⟩⟩
    · rw [beq_self_eq_true, beq_self_eq_true, beq_self_eq_true] at h; cases h
    rintro e w37 ⟨rfl, hw⟩
    replace hw := hw.symm
    subst hw
    have ho28 := ho14.keep hf28' (by simp)
    have hg28 := hf28'.keep hg14 (by simp)
    have hF28 := hf14.trans' hf28'
    have hml : (strV (matchP (rows.take k) id)).length ≤ k := by
      simp only [strV, List.length_map, matchP]
      refine Nat.le_trans (List.length_filter_le _ _) ?_
      rw [List.length_take]; omega
    have hlt14 := hf28'.size
    have hg0lt : g0 < w14.heap.size := lt_blk hg14
    refine ⟨_, rfl, fun hbt => ⟨x.1, box_name hb28', fun w40 h40 => ?_⟩, fun hbf => ⟨x.1, box_name hb28', ?_⟩⟩
    · obtain ⟨w41, l42, hr41, ho41, hf41, hsi⟩ := append_one' elString ho28 (v := .string x.1) rfl (by simp only [maxLen]; omega) (by omega) hF28.size h40
      have hb41 := hf41.keep hb28' fun ⟨y, hy, e⟩ => by have := (ho14.blk hy).2; omega
      have hg41 := hf41.keep hg28 fun ⟨y, hy, e⟩ => hna y hy e.symm
      have hmt : strV (matchP (rows.take (k + 1)) id) = strV (matchP (rows.take k) id) ++ [.string x.1] := by rw [htk, match_snoc, if_pos hbt]; simp [strV]
      have hF41 : Fr (fun _ => False) w w41 := hF28.trans hf41 fun q hq ⟨y, hy, e⟩ => by have := (ho14.blk hy).1; omega
      have hna42 : ∀ y, l42.a = some y → y.block ≠ g0 := fun y hy e => by
        rcases hsi y hy with ⟨z, hz, hzb⟩ | hnew
        · exact hna z hz (hzb.trans e)
        · omega
      refine ⟨w41, l42, hr41, x.1, box_name hb41, fun he => ⟨_, _, _, boxR_load hb41, ?_⟩, fun he => ⟨⟨k + 1, rfl, by omega, by rw [hmt]; exact ho41, hna42, ?_, hF41⟩, by dsimp only; omega⟩⟩
      · rw [bs_eq] at he
        have he := of_decide_eq_true he
        obtain ⟨w47, hr47, hb47, hf47⟩ := boxR_store hg41 rfl x
        refine ⟨w47, hr47, ⟨k + 1, rfl, by omega, by rw [hmt]; exact ho41.keep hf47 hna42, hna42, by rw [htk, fnd_hit he hdist]; exact hb47, hF41.trans hf47 fun q hq e => by omega⟩, by dsimp only; omega⟩
      · rw [bs_eq] at he
        rw [htk, fnd_miss (of_decide_eq_false he)]; exact hg41
    · have hmt : matchP (rows.take (k + 1)) id = matchP (rows.take k) id := by rw [htk, match_snoc, if_neg (by rw [hbf]; decide)]
      refine ⟨fun he => ⟨_, _, _, boxR_load hb28', ?_⟩, fun he => ⟨⟨k + 1, rfl, by omega, by rw [hmt]; exact ho28, hna, ?_, hF28⟩, by dsimp only; omega⟩⟩
      · rw [bs_eq] at he
        have he := of_decide_eq_true he
        obtain ⟨w47, hr47, hb47, hf47⟩ := boxR_store hg28 rfl x
        refine ⟨w47, hr47, ⟨k + 1, rfl, by omega, by rw [hmt]; exact ho28.keep hf47 hna, hna, by rw [htk, fnd_hit he hdist]; exact hb47, hF28.trans hf47 fun q hq e => by omega⟩, by dsimp only; omega⟩
      · rw [bs_eq] at he
        rw [htk, fnd_miss (of_decide_eq_false he)]; exact hg28
  · have hge := of_decide_eq_false hge
    have hkn : k = n := by omega
    have htk : rows.take k = rows := List.take_of_length_le (by omega)
    rw [htk] at ho14 hg14
    refine (findP_spec (hI.keep hf14) (by omega) hs id).mono ?_
    rintro e w54 ⟨rfl, hf54⟩
    obtain ⟨f, hf⟩ : ∃ f, fnd rows id = f := ⟨_, rfl⟩
    obtain ⟨m, hm⟩ : ∃ m : Int, m = if (findP rows id).isSome then 0 else 7 := ⟨_, rfl⟩
    have hmf : (m = 0 ∧ f.1 ≠ ⟨#[]⟩) ∨ (m = 7 ∧ f.1 = ⟨#[]⟩) := by
      rw [hm, ← hf]
      unfold fnd
      cases hh : findP rows id with
      | none => exact .inr ⟨rfl, rfl⟩
      | some y => exact .inl ⟨rfl, hne y (List.mem_of_find?_eq_some hh)⟩
    rw [hf] at hg14
    refine ⟨f.1, f.2.1, f.2.2, m, ?_, fun w59 h59 => ?_⟩
    · rw [hm, ← hf]
      unfold fnd
      cases findP rows id <;> rfl
    clear hm hf
    subst h59
    refine ⟨_, boxP_run w54 f, ?_⟩
    have hfa : Fr (fun _ => False) w54 (w54.alloc (.cells (encP f).toArray T_packidx_Row)) := .alloc _ _ _
    have hb60 : (w54.alloc (.cells (encP f).toArray T_packidx_Row)).heap[w54.heap.size]? = some (.cells (encP f).toArray T_packidx_Row (0, 0)) := alloc_new _ _
    generalize w54.alloc (.cells (encP f).toArray T_packidx_Row) = w60 at hfa hb60 ⊢
    have hF60 := hf54.trans' hfa
    refine (atP_spec (hI.keep (hf14.trans' hF60)) (by omega) (-1)).mono ?_
    rintro e w62 ⟨rfl, hf62⟩
    rw [if_neg (by decide)]
    refine ⟨_, _, _, _, rfl, fun w67 h67 => ?_⟩
    subst h67
    refine ⟨_, boxP_run w62 (⟨#[]⟩, 0, 0), ?_⟩
    have hfc : Fr (fun _ => False) w62 (w62.alloc (.cells (encP (⟨#[]⟩, 0, 0)).toArray T_packidx_Row)) := .alloc _ _ _
    generalize w62.alloc (.cells (encP (⟨#[]⟩, 0, 0)).toArray T_packidx_Row) = w68 at hfc ⊢
    have hF68 := hf62.trans' hfc
    refine (atP_spec (hI.keep ((hf14.trans' hF60).trans' hF68)) (by omega) (n : Int)).mono ?_
    rintro e w70 ⟨rfl, hf70⟩
    rw [if_pos (by omega), Int.toNat_natCast, List.getElem?_eq_none (by omega)]
    refine ⟨_, _, _, _, rfl, fun w75 h75 => ?_⟩
    subst h75
    refine ⟨_, boxP_run w70 (⟨#[]⟩, 0, 0), ?_⟩
    have hfd : Fr (fun _ => False) w70 (w70.alloc (.cells (encP (⟨#[]⟩, 0, 0)).toArray T_packidx_Row)) := .alloc _ _ _
    generalize w70.alloc (.cells (encP (⟨#[]⟩, 0, 0)).toArray T_packidx_Row) = w76 at hfd ⊢
    have hF76 := hF68.trans' (hf70.trans' hfd)
    have hb76 := hF76.keep hb60 (by simp)
    have hG76 := hF60.trans' hF76
    have hg76 := hG76.keep hg14 (by simp)
    have hW76 := hf14.trans' hG76
    have ho76 := ho14.keep hG76 (by simp)
    have fin : ∀ R' : Bool → World → Prop, (∀ w', Fr (fun _ => False) w w' → R' true w') → Calls Try.prog F_packidx_Idx_Match #[.pointer (some ⟨b, 0, none⟩), .string id] w76 fun e84 w85 => ∃ l86 : Sl, e84 = .returned (.slice l86.a l86.len l86.cap) ∧
        Calls Try.prog F_cartularyref07_Same #[.slice l86.a l86.len l86.cap, .slice l.a l.len l.cap] w85 fun e87 w88 => ∃ b89 : Bool, e87 = .returned (.bool b89) ∧ R' b89 w88 := fun R' hR' => by
      refine (matchP_spec (hI.keep hW76) (by omega) hs id).mono ?_
      rintro e w85 ⟨o, rfl, ho85, hf85⟩
      refine ⟨o, rfl, (same07_spec ho85.reads (ho76.keep hf85 (by simp)).reads (by rw [ho85.len]; simp [strV]) (by rw [ho76.len]; simp [strV]) ?_).mono ?_⟩
      · rw [ho85.len]
        simp only [strV, List.length_map, matchP]
        refine Nat.le_trans (List.length_filter_le _ _) ?_
        omega
      rintro e w88 ⟨⟨r, rfl, hrr⟩, d88⟩
      rw [hrr.2 rfl]
      exact ⟨true, rfl, hR' _ ((hW76.trans' hf85).trans' (.drew _ d88))⟩
    refine ⟨_, _, _, boxP_load hb76, _, _, _, boxR_load hg76, fun _ => ⟨f.1, box_name hg76, fun _ => ?_, fun h => ?_⟩, fun h => ?_⟩
    · rcases hmf with ⟨rfl, hfe⟩ | ⟨rfl, hfe⟩
      · exact ⟨fun _ => ⟨fun _ => ⟨fun _ => fin (fun b' w' => Value.bool b' = .bool true ∧ Fr (fun _ => False) w w') fun w' h => ⟨rfl, h⟩, fun h => by cases h⟩, fun h => by cases h⟩, fun h => by cases h⟩
      · exact ⟨fun h => (by cases h), fun _ => ⟨fun _ => ⟨fun _ => ⟨fun _ => fin (fun b' w' => Value.bool b' = .bool true ∧ Fr (fun _ => False) w w') fun w' h => ⟨rfl, h⟩, fun h => by cases h⟩, fun h => by cases h⟩, fun h => by cases h⟩⟩
    · rw [bs_eq] at h
      rcases hmf with ⟨rfl, hfe⟩ | ⟨rfl, hfe⟩
      · rw [decide_eq_false hfe] at h; cases h
      · rw [decide_eq_true hfe] at h; cases h
    · rw [beq_self_eq_true, beq_self_eq_true, beq_self_eq_true] at h; cases h
end Go.Proofs.Ytoagdpjickippaa

/- packidx.Build walked. Conditions: the names are no longer than memory. -/
set_option linter.unusedVariables false
namespace Go.Proofs.Ytoagdpjickippaa
open Go Vc HexM SumM ShaM Go.Proofs

/-- What Build hands back. -/
def BuildR (rs : List PRow) (sum : ByteArray) (far : Int) (w : World) (v : Value) (w' : World) : Prop := Fr (fun _ => False) w w' ∧
  ((v = .tuple #[.string ⟨#[]⟩, .int .i64 2] ∧ 1000 < rs.length) ∨
   (rs.length ≤ 1000 ∧ ((v = .tuple #[.string ⟨#[]⟩, .int .i64 4] ∧ ¬ (CheckP rs ∧ isId sum.data.toList = true)) ∨
     (v = .tuple #[.string ⟨(PkM.textT sha1D far ((sortP rs).map rawOf) (rawB sum)).toArray⟩, .int .i64 0] ∧ CheckP rs ∧ isId sum.data.toList = true))))
theorem cnt_new {w w1 : World} {cs : Array Value} (h : w1 = w.alloc (.cells cs T_256_int)) (hc : cs.toList = List.replicate 256 (.int .i64 0)) : CntAt w1 w.heap.size (fun _ => 0) := by
  refine ⟨cs, by rw [h]; exact alloc_new _ _, by rw [← Array.length_toList, hc, List.length_replicate], fun c hc' => ?_⟩
  rw [← Array.getElem?_toList, hc, List.getElem?_replicate, if_pos hc']; rfl
theorem cat_size (A B : List UInt8) (h : A.length + B.length ≤ 1000000000) : (⟨A.toArray⟩ : ByteArray).size + (⟨B.toArray⟩ : ByteArray).size ≤ 9223372036854775807 := by rw [bs_mksize, bs_mksize]; omega
set_option maxHeartbeats 1000000 in
theorem build_spec {w : World} {a : Option Addr} {n c : Nat} {rs : List PRow} (hr : ReadsK encP 3 w a rs) (hn : rs.length = n) (hz : ∀ r ∈ rs, r.1.size ≤ 140737488355328) (hfit : ∀ r ∈ rs, Fits r) (sum : ByteArray) (hsz : sum.size ≤ 140737488355328) (far : Int) :
    Calls Try.prog F_packidx_Build #[.slice a n c, .string sum, .int .i64 far] w fun e w' => ∃ v, e = .returned v ∧ BuildR rs sum far w v w' := by
  refine vc_packidx_Build_ok (R := BuildR rs sum far w) ?_ (fun v w' h => ⟨v, rfl, h⟩)
  refine ⟨fun h => ⟨.refl _ _, .inl ⟨rfl, by have := of_decide_eq_true h; omega⟩⟩, fun h => ?_⟩
  have hl : n ≤ 1000 := by have := of_decide_eq_false h; omega
  refine (cloneP_spec hr hn (by omega)).mono ?_
  rintro e w2 ⟨l, rfl, ho2, hf2⟩
  refine ⟨l, rfl, (sortP_spec ho2 (by omega)).mono ?_⟩
  rintro e w5 ⟨rfl, ys, hp, hnear, ho5, hf5⟩
  have hF5 : Fr (fun _ => False) w w5 := hf2.trans hf5 fun q hq ⟨y, hy, e⟩ => by have := (ho2.blk hy).1; omega
  have hyl : ys.length = n := by rw [hp.length_eq, hn]
  have hll : l.len = ys.length := ho5.len
  have hr5 := ho5.reads fun _ => rfl
  have hyz : ∀ r ∈ ys, r.1.size ≤ 140737488355328 := fun r hrm => hz r (hp.subset hrm)
  have hyf : ∀ r ∈ ys, Fits r := fun r hrm => hfit r (hp.subset hrm)
  have bad : ∀ {w' : World}, Fr (fun _ => False) w5 w' → ¬ (CheckP ys ∧ isId sum.data.toList = true) → BuildR rs sum far w (.tuple #[.string ⟨#[]⟩, .int .i64 4]) w' := fun hf hno =>
    ⟨hF5.trans' hf, .inr ⟨by omega, .inl ⟨rfl, fun hh => hno ⟨checkP_perm hp.symm hh.1, hh.2⟩⟩⟩⟩
  refine ⟨rfl, fun i w' => ∃ k : Nat, i = k ∧ k ≤ n ∧ (∀ j x, j < k → ys[j]? = some x → okRow x) ∧ (∀ j x y, j + 1 < k → ys[j]? = some x → ys[j + 1]? = some y → x.1 ≠ y.1) ∧ Fr (fun _ => False) w5 w', fun i _ => n - i.toNat,
    ⟨0, rfl, Nat.zero_le _, fun j x h => by omega, fun j x y h => by omega, .refl _ _⟩, ?_⟩
  rintro i w9 ⟨k, rfl, hk, hok, hadj, hf9⟩
  refine ⟨fun hlt => ?_, fun hge => ?_⟩
  · have hlt := of_decide_eq_true hlt
    have hkl : k < ys.length := by omega
    have hx : ys[k]? = some ys[k] := List.getElem?_eq_getElem hkl
    have hxm : ys[k] ∈ ys := List.getElem_mem hkl
    generalize ys[k] = x at hx hxm
    have e1 : IntKind.i64.wrap ((k : Int) + 1) = ((k + 1 : Nat) : Int) := by rw [wrap_i64 (by omega) (by omega)]; omega
    have e2 : 0 < k → IntKind.i64.wrap ((k : Int) - 1) = ((k - 1 : Nat) : Int) := fun h0 => by rw [wrap_i64 (by omega) (by omega)]; omega
    rw [e1]
    obtain ⟨ad, had, hload⟩ := (hr5.keep hf9 (by simp)).load elP hx
    refine ⟨⟨by omega, by omega⟩, ad, had, x.1, x.2.1, x.2.2, by rw [Int.toNat_natCast]; exact hload, fun w14 h14 => ?_⟩
    subst h14
    have hfa : Fr (fun _ => False) w9 (w9.alloc (.cells (encP x).toArray T_packidx_Row)) := .alloc _ _ _
    have hbx0 := boxP_cell w9 x (.refl (fun _ => False) _) (by simp) (j := 0) rfl
    have hbx1 := boxP_cell w9 x (.refl (fun _ => False) _) (by simp) (j := 1) rfl
    refine ⟨_, boxP_run w9 x, fun w16 d16 => ?_⟩
    generalize w9.alloc (.cells (encP x).toArray T_packidx_Row) = w15 at hfa hbx0 hbx1 d16
    have hf16 := hf9.trans' hfa
    refine ⟨fun w' => Fr (fun _ => False) w15 w', .drew _ d16, x.1, fun w19 h19 => h19.cell hbx0 (by simp), (id_spec x.1 (hyz x hxm) w16).mono ?_⟩
    rintro e w21 ⟨rfl, hf21⟩
    have hfS : Fr (fun _ => False) w15 w21 := (Fr.drew _ d16).trans' hf21
    have hF21 := hf16.trans' hfS
    have nochk : ¬ okRow x → ¬ (CheckP ys ∧ isId sum.data.toList = true) := fun h hh => h (hh.1.1 x hxm)
    refine ⟨_, rfl, hfS, fun hid => bad hF21 (nochk fun h => by rw [h.1] at hid; cases hid), fun hid => ?_⟩
    have hid : isId x.1.data.toList = true := by simpa using hid
    have rest : (∀ y, 0 < k → ys[k - 1]? = some y → y.1 ≠ x.1) → ∃ n28 : Int, ((∀ w29, Fr (fun _ => False) w15 w29 → w29.cell? ⟨w9.heap.size, 1, none⟩ = some (.int .i64 n28)) ∧
        ((decide (n28 < 0) = true → BuildR rs sum far w (.tuple #[.string ⟨#[]⟩, .int .i64 4]) w21) ∧
         (decide (n28 < 0) = false → ∃ n30 : Int, ((∀ w31, Fr (fun _ => False) w15 w31 → w31.cell? ⟨w9.heap.size, 1, none⟩ = some (.int .i64 n30)) ∧
          ((decide (n30 > 1099511627776) = true → BuildR rs sum far w (.tuple #[.string ⟨#[]⟩, .int .i64 4]) w21) ∧
           (decide (n30 > 1099511627776) = false → (∃ k' : Nat, ((k + 1 : Nat) : Int) = k' ∧ k' ≤ n ∧ (∀ j x, j < k' → ys[j]? = some x → okRow x) ∧ (∀ j x y, j + 1 < k' → ys[j]? = some x → ys[j + 1]? = some y → x.1 ≠ y.1) ∧ Fr (fun _ => False) w5 w21) ∧ n - ((k + 1 : Nat) : Int).toNat < n - ((k : Nat) : Int).toNat)))))) := fun hne => by
      refine ⟨x.2.1, fun w29 h29 => h29.cell hbx1 (by simp), fun h => bad hF21 (nochk fun hh => by have := of_decide_eq_true h; have := hh.2.1; omega), fun h => ⟨x.2.1, fun w31 h31 => h31.cell hbx1 (by simp), fun h2 => bad hF21 (nochk fun hh => by have := of_decide_eq_true h2; have := hh.2.2; omega), fun h2 => ⟨⟨k + 1, rfl, by omega, fun j y hj hy => ?_, fun j y z hj hy hz => ?_, hF21⟩, by omega⟩⟩⟩
      · by_cases hjk : j < k
        · exact hok j y hjk hy
        · rw [show j = k by omega, hx] at hy
          cases hy
          exact ⟨hid, by have := of_decide_eq_false h; omega, by have := of_decide_eq_false h2; omega⟩
      · by_cases hjk : j + 1 < k
        · exact hadj j y z hjk hy hz
        · have hj' : j + 1 = k := by omega
          rw [hj', hx] at hz
          cases hz
          exact hne y (by omega) (by rw [show k - 1 = j by omega]; exact hy)
    refine ⟨fun h0 => ?_, fun h0 => rest fun y h => by have := of_decide_eq_false h0; omega⟩
    have h0 : 0 < k := by have := of_decide_eq_true h0; omega
    rw [e2 h0]
    have hy : ys[k - 1]? = some ys[k - 1] := List.getElem?_eq_getElem (by omega)
    generalize ys[k - 1] = y at hy
    obtain ⟨ad', had', hcy⟩ := hr5 (k - 1) y hy
    have hcy0 := hcy 0 (.string y.1) rfl
    rw [show (ad'.add ((k - 1) * 3)).add 0 = ad'.add ((k - 1) * 3) by rw [add_add]; rfl] at hcy0
    refine ⟨⟨by omega, by omega⟩, ad', had', y.1, fun w25 h25 => by rw [Int.toNat_natCast]; exact (hf16.trans' h25).cell hcy0 (by simp), x.1, fun w27 h27 => h27.cell hbx0 (by simp), ?_⟩
    rw [bs_eq]
    refine ⟨fun he => bad hF21 fun hh => ?_, fun hne => rest fun z _ hz => ?_⟩
    · have he : y.1 = x.1 := of_decide_eq_true he
      have := (List.pairwise_iff_getElem.1 hh.1.2) (k - 1) k (by omega) hkl (by omega)
      rw [(List.getElem?_eq_some_iff.1 hx).2, (List.getElem?_eq_some_iff.1 hy).2] at this
      exact this he
    · rw [hy] at hz
      cases hz
      exact of_decide_eq_false hne
  · have hge := of_decide_eq_false hge
    have hk' : k = n := by omega
    subst hk'
    have hrise : RiseP ys := adj_rise hnear fun j x y hx hy => hadj j x y (by have := (List.getElem?_eq_some_iff.1 hy).1; omega) hx hy
    have hchk : CheckP ys := ⟨fun r hrm => by
      obtain ⟨j, hj⟩ := List.mem_iff_getElem?.1 hrm
      exact hok j r (by have := (List.getElem?_eq_some_iff.1 hj).1; omega) hj, rise_dist hrise⟩
    have hchkr := checkP_perm hp hchk
    have hsort : sortP rs = ys := riseP_eq (near_rise (sortP_near rs) (checkP_perm (sortP_perm rs).symm hchkr).2) hrise ((sortP_perm rs).trans hp.symm)
    clear hok hadj hge
    refine (unhex_spec sum hsz w9).mono ?_
    rintro e w37 ⟨rfl, hf37⟩
    have hf37' := hf9.trans' hf37
    have hidu := id_unhex sum
    refine ⟨_, _, rfl, fun hb => bad hf37' fun hh => ?_, fun hb => ⟨fun hs => bad hf37' fun hh => ?_, fun hs w40 h40 => ?_⟩⟩
    · rw [hh.2] at hidu
      have := (Bool.and_eq_true_iff.1 hidu.symm).1
      rw [this] at hb; cases hb
    · rw [hh.2] at hidu
      have := of_decide_eq_true (Bool.and_eq_true_iff.1 hidu.symm).2
      rw [this] at hs; simp at hs
    have hid : isId sum.data.toList = true := by
      rw [hidu]
      have h1 : (unhexL sum.data.toList).isSome = true := by simpa using hb
      have h2 : (unhexS sum).size = 20 := by
        have : ((unhexS sum).size : Int) = 20 := by simpa using hs
        omega
      rw [h1, h2]; rfl
    obtain ⟨hu1, hu2, _⟩ := unhexS_raw hid
    rw [hu1]
    have hraw20 : (rawB sum).length = 20 := (rawB_id hid).2.1
    have hgood := raw_good hchk hrise hyf (by omega)
    have htext : PkM.textT sha1D far ((sortP rs).map rawOf) (rawB sum) = PkM.textT sha1D far (ys.map rawOf) (rawB sum) := by rw [hsort]
    obtain ⟨q1, q2, q3, q4, q5, q6⟩ := PkM.body_parts (far := far) hgood hraw20
    obtain ⟨b, hb⟩ : ∃ b, w37.heap.size = b := ⟨_, rfl⟩
    have hf40 : Fr (fun _ => False) w37 w40 := by rw [h40]; exact .alloc _ _ _
    have hc40 : CntAt w40 b (fun _ => 0) := by rw [← hb]; exact cnt_new h40 (by kernel_rfl)
    clear h40
    rw [hb]
    have hsB : ∀ {w' w2 : World}, Fr (fun _ => False) w37 w' → Fr (· = b) w' w2 → Fr (fun _ => False) w37 w2 := fun h h' => h.trans h' fun q hq e => by omega
    have hrawm : ys.map rawOf = ys.map rawOf := rfl
    obtain ⟨l0, hl0⟩ : ∃ l0, ys.map rawOf = l0 := ⟨_, rfl⟩
    rw [hl0] at htext hgood q1 q2 q3 q4 q5 q6
    clear hrawm
    have hl0l : l0.length = ys.length := by rw [← hl0, List.length_map]
    refine ⟨fun s43 s44 s45 s46 i w' => ∃ k : Nat, i = (k : Int) ∧ k ≤ ys.length ∧ s43 = ⟨((l0.take k).flatMap (·.1)).toArray⟩ ∧ s44 = ⟨((l0.take k).flatMap (fun r => bigB 4 r.2.2)).toArray⟩ ∧ s45 = ⟨((PkM.nearV far 0 (l0.take k)).flatMap (bigB 4)).toArray⟩ ∧
        s46 = ⟨(((l0.take k).filter (PkM.isFar far)).flatMap (fun r => bigB 8 r.2.1)).toArray⟩ ∧ CntAt w' b (PkM.cnt (l0.take k)) ∧ Fr (fun _ => False) w37 w', fun _ _ _ _ i _ => ys.length - i.toNat,
      ⟨0, rfl, Nat.zero_le _, rfl, rfl, rfl, rfl, hc40, hf40⟩, ?_⟩
    clear hc40 hf40
    rintro s43 s44 s45 s46 i w48 ⟨m, rfl, hm, rfl, rfl, rfl, rfl, hc48, hf48⟩
    have hpart : ∀ (l : List PkM.Rw), (∀ r ∈ l, r.1.length = 20) → l.length ≤ 1000 → (l.flatMap (·.1)).length ≤ 20000 ∧ (l.flatMap (fun r => bigB 4 r.2.2)).length ≤ 4000 ∧ ((PkM.nearV far 0 l).flatMap (bigB 4)).length ≤ 4000 ∧ ((l.filter (PkM.isFar far)).flatMap (fun r => bigB 8 r.2.1)).length = 8 * (l.filter (PkM.isFar far)).length ∧ (l.filter (PkM.isFar far)).length ≤ 1000 := fun l h1 h2 => by
      have g1 := PkM.flat_size (f := fun r : PkM.Rw => r.1) (k := 20) l h1
      have g2 := PkM.flat_size (f := fun r : PkM.Rw => bigB 4 r.2.2) (k := 4) l fun r _ => bigB_length _ _
      have g3 := PkM.flat_size (f := bigB 4) (k := 4) (PkM.nearV far 0 l) fun r _ => bigB_length _ _
      have g4 := PkM.flat_size (f := fun r : PkM.Rw => bigB 8 r.2.1) (k := 8) (l.filter (PkM.isFar far)) fun r _ => bigB_length _ _
      have g5 := List.length_filter_le (PkM.isFar far) l
      rw [PkM.nearV_len] at g3
      exact ⟨by omega, by omega, by omega, g4, by omega⟩
    obtain ⟨z1, z2, z3, z4, z5⟩ := hpart (l0.take m) (fun r h => hgood.raw r (List.mem_of_mem_take h)) (by rw [List.length_take]; have := hgood.few; omega)
    refine ⟨fun hlt => ?_, fun hge => ?_⟩
    · have hlt := of_decide_eq_true hlt
      have hkl : m < ys.length := by omega
      have hx : ys[m]? = some ys[m] := List.getElem?_eq_getElem hkl
      have hxm : ys[m] ∈ ys := List.getElem_mem hkl
      generalize ys[m] = x at hx hxm
      have hrx : l0[m]? = some (rawOf x) := by rw [← hl0, List.getElem?_map, hx]; rfl
      have htk : l0.take (m + 1) = l0.take m ++ [rawOf x] := by rw [List.take_add_one, hrx]; rfl
      have e1 : IntKind.i64.wrap ((m : Int) + 1) = ((m + 1 : Nat) : Int) := by rw [wrap_i64 (by omega) (by omega)]; omega
      rw [e1]
      have hf548 : Fr (fun _ => False) w5 w48 := hf37'.trans' hf48
      obtain ⟨ad, had, hload⟩ := (hr5.keep hf548 (by simp)).load elP hx
      obtain ⟨ox1, ox2, ox3⟩ := hchk.1 x hxm
      have fx := hyf x hxm
      obtain ⟨xu1, xu2, _⟩ := unhexS_raw ox1
      have xr20 := (rawB_id ox1).2.1
      refine ⟨⟨by omega, by omega⟩, ad, had, x.1, x.2.1, x.2.2, by rw [Int.toNat_natCast]; exact hload, fun w53 h53 => ?_⟩
      subst h53
      have hfa : Fr (fun _ => False) w48 (w48.alloc (.cells (encP x).toArray T_packidx_Row)) := .alloc _ _ _
      have hbx0 := boxP_cell w48 x (.refl (fun _ => False) _) (by simp) (j := 0) rfl
      have hbx1 := boxP_cell w48 x (.refl (fun _ => False) _) (by simp) (j := 1) rfl
      have hbx2 := boxP_cell w48 x (.refl (fun _ => False) _) (by simp) (j := 2) rfl
      refine ⟨_, boxP_run w48 x, x.1, hbx0, ?_⟩
      have hc54 := hc48.keep hfa (by simp)
      have hgb : w48.heap.size ≠ b := by
        obtain ⟨cs, k1, _⟩ := hc48
        have := lt_blk k1; omega
      generalize w48.alloc (.cells (encP x).toArray T_packidx_Row) = w54 at hfa hbx0 hbx1 hbx2 hc54
      generalize w48.heap.size = g at hbx0 hbx1 hbx2 hgb
      have hf54 := hf48.trans' hfa
      refine (unhex_spec x.1 (hyz x hxm) w54).mono ?_
      rintro e w57 ⟨rfl, hf57⟩
      rw [xu1]
      have hf57' := hf54.trans' hf57
      have hc57 := hc54.keep hf57 (by simp)
      have hbt : IntKind.i64.wrap (byteAt ⟨(rawB x.1).toArray⟩ 0) = ((PkM.hd0 (rawB x.1) : Nat) : Int) := by
        rw [show (0 : Int) = ((0 : Nat) : Int) from rfl, byteAt_nat, hd0_byt, bs_mk]
        have : PkM.hd0 (rawB x.1) < 256 := UInt8.toNat_lt _
        exact wrap_i64 (by omega) (by omega)
      refine ⟨_, _, rfl, ⟨by decide, by rw [bs_mksize, xr20]; decide⟩, ?_⟩
      rw [hbt]
      have hh : PkM.hd0 (rawB x.1) < 256 := UInt8.toNat_lt _
      obtain ⟨h0, hh0⟩ : ∃ h0, PkM.hd0 (rawB x.1) = h0 := ⟨_, rfl⟩
      rw [hh0] at hh ⊢
      have hcs : ∀ c, PkM.cnt (l0.take (m + 1)) c = if h0 ≤ c then PkM.cnt (l0.take m) c + 1 else PkM.cnt (l0.take m) c := fun c => by
        rw [htk, PkM.cnt_snoc, show PkM.hd0 (rawOf x).1 = h0 from hh0]
      refine ⟨fun q w' => ∃ p : Nat, q = p ∧ h0 ≤ p ∧ p ≤ 256 ∧ CntAt w' b (fun c => if h0 ≤ c ∧ c < p then PkM.cnt (l0.take m) c + 1 else PkM.cnt (l0.take m) c) ∧ Fr (· = b) w57 w', fun q _ => 256 - q.toNat,
        ⟨h0, rfl, Nat.le_refl _, by omega, ?_, .refl _ _⟩, ?_⟩
      · obtain ⟨cs, k1, k2, k3⟩ := hc57
        refine ⟨cs, k1, k2, fun c hc => ?_⟩
        have e : (if h0 ≤ c ∧ c < h0 then PkM.cnt (l0.take m) c + 1 else PkM.cnt (l0.take m) c) = PkM.cnt (l0.take m) c := if_neg fun hh => by omega
        show cs[c]? = some (.int .i64 ((if h0 ≤ c ∧ c < h0 then PkM.cnt (l0.take m) c + 1 else PkM.cnt (l0.take m) c : Nat) : Int))
        rw [e]
        exact k3 c hc
      rintro q w63 ⟨p, rfl, hp1, hp2, hc63, hf63⟩
      refine ⟨fun hlt => ?_, fun hge => ?_⟩
      · have hlt := of_decide_eq_true hlt
        obtain ⟨k1, k2⟩ := hc63.at (c := p) (by omega)
        rw [if_neg (fun hh => by omega)] at k1
        rw [Int.toNat_natCast, add_lit, Nat.zero_add, Nat.mul_one]
        have hcl := PkM.cnt_le (l0.take m) p
        rw [List.length_take] at hcl
        have e3 : IntKind.i64.wrap (((PkM.cnt (l0.take m) p : Nat) : Int) + 1) = ((PkM.cnt (l0.take m) p + 1 : Nat) : Int) := by rw [wrap_i64 (by omega) (by omega)]; omega
        have e4 : IntKind.i64.wrap ((p : Int) + 1) = ((p + 1 : Nat) : Int) := by rw [wrap_i64 (by omega) (by omega)]; omega
        refine ⟨⟨by omega, by omega⟩, _, k1, ⟨by omega, by omega⟩, k2, fun w65 h65 => ?_⟩
        rw [e3] at h65
        rw [e4]
        refine ⟨⟨p + 1, rfl, by omega, by omega, ?_, hf63.trans' (by rw [h65]; exact Fr.set (· = b) _ _ rfl)⟩, by dsimp only; omega⟩
        rw [h65]
        refine hc63.set (c := p) (by omega) fun c hc => ?_
        by_cases hcp : c = p
        · subst hcp
          rw [if_pos rfl, if_pos ⟨by omega, by omega⟩]
        · rw [if_neg hcp]
          by_cases hin : h0 ≤ c ∧ c < p
          · rw [if_pos hin, if_pos ⟨hin.1, by omega⟩]
          · rw [if_neg hin, if_neg (fun hh => hin ⟨hh.1, by omega⟩)]
      · have hge := of_decide_eq_false hge
        have hp' : p = 256 := by omega
        subst hp'
        have hc63' : CntAt w63 b (PkM.cnt (l0.take (m + 1))) := by
          obtain ⟨cs, k1, k2, k3⟩ := hc63
          refine ⟨cs, k1, k2, fun c hc => ?_⟩
          have k4 := k3 c hc
          simp only at k4
          rw [k4, hcs]
          by_cases hin : h0 ≤ c
          · rw [if_pos ⟨hin, hc⟩, if_pos hin]
          · rw [if_neg (fun hh => hin hh.1), if_neg hin]
        clear hc63
        have hb63 : ∀ {j v}, w54.cell? ⟨g, j, none⟩ = some v → w63.cell? ⟨g, j, none⟩ = some v := fun h => hf63.cell (hf57.cell h (by simp)) (fun e => hgb e)
        have hf63' := hsB hf57' hf63
        obtain ⟨cr, hcr⟩ : ∃ cr : Nat, x.2.2 = cr := ⟨x.2.2.toNat, (Int.toNat_of_nonneg fx.1).symm⟩
        obtain ⟨pl, hpl⟩ : ∃ pl : Nat, x.2.1 = pl := ⟨x.2.1.toNat, (Int.toNat_of_nonneg ox2).symm⟩
        have hraw : rawOf x = (rawB x.1, pl, cr) := by unfold rawOf; rw [hcr, hpl, Int.toNat_natCast, Int.toNat_natCast]
        have hcrl : cr < 4294967296 := by have := fx.2; omega
        have hpll : pl ≤ 1099511627776 := by omega
        refine ⟨cat_size _ _ (by omega), _, hb63 hbx2, ?_⟩
        rw [hcr, wrap_u64 (by omega) (by omega)]
        refine (big_spec cr 4 (by omega) (by decide) w63).mono ?_
        rintro e w68 ⟨rfl, hf68⟩
        have hb68 : ∀ {j v}, w54.cell? ⟨g, j, none⟩ = some v → w68.cell? ⟨g, j, none⟩ = some v := fun h => hf68.cell (hb63 h) (by simp)
        have hc68 := hc63'.keep hf68 (by simp)
        have hf68' := hf63'.trans' hf68
        have hb4 : (bigB 4 cr).length = 4 := bigB_length _ _
        have hfr : PkM.isFar far (rawOf x) = (decide (far ≤ (pl : Int)) || decide (2147483648 ≤ pl)) := by rw [hraw]; rfl
        refine ⟨_, rfl, cat_size _ _ (by omega), fun bb w' => bb = PkM.isFar far (rawOf x) ∧ w' = w68, ⟨_, hb68 hbx1, fun h => ⟨?_, rfl⟩, fun h => ⟨_, hb68 hbx1, ?_, rfl⟩⟩, ?_⟩
        · rw [hpl] at h
          rw [hfr, decide_eq_true (show far ≤ (pl : Int) by have := of_decide_eq_true h; omega), Bool.true_or]
        · rw [hpl] at h
          rw [hfr, decide_eq_false (show ¬ far ≤ (pl : Int) by have := of_decide_eq_false h; omega), Bool.false_or, hpl]
          exact decide_eq_decide.2 (by omega)
        rintro bb w74 ⟨rfl, hw⟩
        replace hw := hw.symm
        subst hw
        have fN : ⟨((l0.take m).flatMap (·.1)).toArray⟩ ++ (⟨(rawB x.1).toArray⟩ : ByteArray) = ⟨((l0.take (m + 1)).flatMap (·.1)).toArray⟩ := by rw [bs_cat, htk, List.flatMap_append, hraw]; simp
        have fC : ⟨((l0.take m).flatMap (fun r => bigB 4 r.2.2)).toArray⟩ ++ (⟨(bigB 4 cr).toArray⟩ : ByteArray) = ⟨((l0.take (m + 1)).flatMap (fun r => bigB 4 r.2.2)).toArray⟩ := by rw [bs_cat, htk, List.flatMap_append, hraw]; simp
        have fV : ∀ v, (if PkM.isFar far (rawOf x) = true then 2147483648 + 0 + ((l0.take m).filter (PkM.isFar far)).length else (rawOf x).2.1) = v → ⟨((PkM.nearV far 0 (l0.take m)).flatMap (bigB 4)).toArray⟩ ++ (⟨(bigB 4 v).toArray⟩ : ByteArray) = ⟨((PkM.nearV far 0 (l0.take (m + 1))).flatMap (bigB 4)).toArray⟩ := fun v hv => by
          rw [bs_cat, htk, PkM.nearV_snoc, List.flatMap_append, hv]; simp
        refine ⟨fun hfar => ⟨by decide, ?_⟩, fun hnear => ⟨_, hb68 hbx1, ?_⟩⟩
        · have e5 : IntKind.u64.wrap (IntKind.i64.wrap (2147483648 + IntKind.i64.wrap (Int.tdiv ((ByteArray.size ⟨(((l0.take m).filter (PkM.isFar far)).flatMap (fun r => bigB 8 r.2.1)).toArray⟩ : Nat) : Int) 8))) = ((2147483648 + 0 + ((l0.take m).filter (PkM.isFar far)).length : Nat) : Int) := by
            rw [bs_mksize, z4, Int.tdiv_eq_ediv_of_nonneg (Int.natCast_nonneg _)]
            generalize ((l0.take m).filter (PkM.isFar far)).length = u at z5
            rw [show ((8 * u : Nat) : Int) / 8 = (u : Int) by omega, wrap_i64 (x := (u : Int)) (by omega) (by omega), wrap_i64 (by omega) (by omega), wrap_u64 (by omega) (by omega)]; omega
          rw [e5]
          refine (big_spec _ 4 (by omega) (by decide) w68).mono ?_
          rintro e w76 ⟨rfl, hf76⟩
          have hb8 : ∀ v, (bigB 4 v).length = 4 := fun v => bigB_length _ _
          refine ⟨_, rfl, cat_size _ _ (by rw [hb8]; omega), _, hf76.cell (hb68 hbx1) (by simp), ?_⟩
          rw [hpl, wrap_u64 (by omega) (by omega)]
          refine (big_spec pl 8 (by omega) (by decide) w76).mono ?_
          rintro e w80 ⟨rfl, hf80⟩
          refine ⟨_, rfl, cat_size _ _ (by rw [bigB_length, z4]; omega), ⟨m + 1, rfl, by omega, fN, fC, fV _ (by rw [if_pos hfar]), ?_, (hc68.keep hf76 (by simp)).keep hf80 (by simp), (hf68'.trans' hf76).trans' hf80⟩, by dsimp only; omega⟩
          rw [bs_cat, htk, List.filter_append, List.filter_cons_of_pos hfar, List.filter_nil, List.flatMap_append, hraw]; simp
        · rw [hpl, wrap_u64 (by omega) (by omega)]
          refine (big_spec pl 4 (by omega) (by decide) w68).mono ?_
          rintro e w84 ⟨rfl, hf84⟩
          refine ⟨_, rfl, cat_size _ _ (by rw [bigB_length]; omega), ⟨m + 1, rfl, by omega, fN, fC, fV _ (by rw [if_neg (by rw [hnear]; decide), hraw]), ?_, hc68.keep hf84 (by simp), hf68'.trans' hf84⟩, by dsimp only; omega⟩
          rw [htk, List.filter_append, List.filter_cons_of_neg (by rw [hnear]; decide), List.filter_nil, List.append_nil]
    · have hge := of_decide_eq_false hge
      have hm' : m = l0.length := by omega
      subst hm'
      rw [List.take_length] at hc48 z1 z2 z3 z4 z5 ⊢
      refine ⟨_, hc48.load, fun s i w' => ∃ k : Nat, i = (k : Int) ∧ k ≤ 256 ∧ s = ⟨(PkM.magic ++ (List.range k).flatMap fun c => bigB 4 (PkM.cnt l0 c)).toArray⟩ ∧ Fr (fun _ => False) w37 w', fun _ i _ => 256 - i.toNat, ⟨0, rfl, Nat.zero_le _, rfl, hf48⟩, ?_⟩
      rintro s89 i w91 ⟨k, rfl, hk, rfl, hf91⟩
      have hFl := PkM.flat_size (f := fun c => bigB 4 (PkM.cnt l0 c)) (k := 4) (List.range k) fun c _ => bigB_length _ _
      rw [List.length_range] at hFl
      refine ⟨fun hlt => ?_, fun hge => ?_⟩
      · have hlt := of_decide_eq_true hlt
        have e1 : IntKind.i64.wrap ((k : Int) + 1) = ((k + 1 : Nat) : Int) := by rw [wrap_i64 (by omega) (by omega)]; omega
        rw [e1]
        have hix := index_agg (P := Try.prog) (w := w91) T_256_int T_int 256 ((List.range 256).map fun c => Value.int .i64 (PkM.cnt l0 c : Nat)) .i64 k (by kernel_rfl) (by kernel_rfl) (by rw [List.length_map, List.length_range]) (by omega) (by kernel_rfl)
        have hgd : ((List.range 256).map fun c => Value.int .i64 (PkM.cnt l0 c : Nat)).getD k undef = .int .i64 (PkM.cnt l0 k : Nat) := by
          rw [List.getD_eq_getElem?_getD, List.getElem?_map, List.getElem?_range (by omega)]; rfl
        rw [hgd] at hix
        have hcl := PkM.cnt_le l0 k
        have := hgood.few
        refine ⟨w91, _, hix, ?_⟩
        rw [wrap_u64 (by omega) (by omega)]
        refine (big_spec _ 4 (by omega) (by decide) w91).mono ?_
        rintro e w95 ⟨rfl, hf95⟩
        refine ⟨_, rfl, cat_size _ _ (by rw [bigB_length, List.length_append, hFl]; show 8 + _ + _ ≤ _; omega), ⟨k + 1, rfl, by omega, ?_, hf91.trans' hf95⟩, by dsimp only; omega⟩
        rw [bs_cat, List.range_succ, List.flatMap_append, List.append_assoc]; simp
      · have hge := of_decide_eq_false hge
        have hk' : k = 256 := by omega
        subst hk'
        have hbody : (⟨(PkM.magic ++ (List.range 256).flatMap fun c => bigB 4 (PkM.cnt l0 c)).toArray⟩ : ByteArray) ++ (⟨(l0.flatMap (·.1)).toArray⟩ ++ ⟨(l0.flatMap (fun r => bigB 4 r.2.2)).toArray⟩ ++ ⟨((PkM.nearV far 0 l0).flatMap (bigB 4)).toArray⟩ ++ ⟨((l0.filter (PkM.isFar far)).flatMap (fun r => bigB 8 r.2.1)).toArray⟩ ++ ⟨(rawB sum).toArray⟩) = ⟨(PkM.bodyT far l0 (rawB sum)).toArray⟩ := by
          rw [bs_cat, bs_cat, bs_cat, bs_cat, bs_cat]
          unfold PkM.bodyT
          simp only [List.append_assoc]
        rw [hbody]
        rw [bs_cat, bs_cat, bs_cat]
        have hml : PkM.magic.length = 8 := rfl
        refine ⟨cat_size _ _ (by omega), ?_, ?_, ?_, ?_, ?_⟩
        · exact cat_size _ _ (by rw [List.length_append]; omega)
        · exact cat_size _ _ (by rw [List.length_append, List.length_append]; omega)
        · exact cat_size _ _ (by rw [List.length_append, List.length_append, List.length_append]; omega)
        · rw [bs_cat]
          exact cat_size _ _ (by rw [List.length_append, List.length_append, List.length_append, List.length_append, List.length_append, q1]; omega)
        refine (sum1_spec _ (by rw [bs_mksize, q6]; omega) w91).mono ?_
        rintro e w98 ⟨rfl, hf98⟩
        rw [bs_mk]
        refine ⟨_, rfl, cat_size _ _ (by have := digest_len (PkM.bodyT far l0 (rawB sum)); unfold sha1D at this; rw [this, q6]; omega), (hF5.trans' hf37').trans' (hf91.trans' hf98), .inr ⟨by omega, .inr ⟨?_, hchkr, hid⟩⟩⟩
        rw [bs_cat, htext]
        rfl
end Go.Proofs.Ytoagdpjickippaa

/- Formulas of 1 Go functions of this seat (written by a program of the author's, vcgen.py), and that each is enough for the call. No condition. -/
set_option linter.unusedVariables false
namespace Go.Proofs.Ytoagdpjickippaa
open Go Vc Go.Proofs
set_option maxRecDepth 100000
/-- cartularylaw12.awake -/
def vc_cartularylaw12_awake (w : World) (R : Value → World → Prop) : Prop :=
  ∀ w1 : World,
  (w1 = World.alloc w (Obj.cells (Array.mk [Value.string (ByteArray.mk (Array.mk [101, 54, 57, 100, 101, 50, 57, 98, 98, 50, 100, 49, 100, 54, 52, 51, 52, 98, 56, 98, 50, 57, 97, 101, 55, 55, 53, 97, 100, 56, 99, 50, 101, 52, 56, 99, 53, 51, 57, 49])), Value.int IntKind.i64 12, Value.int IntKind.u32 7]) 32) →
    Calls Try.prog (6 : Nat) (Array.mk [Value.slice (some (Addr.mk (Array.size (World.heap w)) 0 none)) 1 1, Value.string (ByteArray.mk (Array.mk [52, 98, 56, 50, 53, 100, 99, 54, 52, 50, 99, 98, 54, 101, 98, 57, 97, 48, 54, 48, 101, 53, 52, 98, 102, 56, 100, 54, 57, 50, 56, 56, 102, 98, 101, 101, 52, 57, 48, 52])), Value.int IntKind.i64 0]) (w1) (fun e2 w3 =>
      ∃ s4 : ByteArray, ∃ n5 : Int, (e2 = Ending.returned (Value.tuple (Array.mk [Value.string s4, Value.int IntKind.i64 n5])) ∧
       Calls Try.prog (8 : Nat) (Array.mk [Value.string s4]) (w3) (fun e6 w7 =>
         ∃ p8 : Option Addr, ∃ n9 : Int, (e6 = Ending.returned (Value.tuple (Array.mk [Value.pointer p8, Value.int IntKind.i64 n9])) ∧
          ((((n5 != 0) = true →
             R (Value.bool false) w7)) ∧
           ((n5 != 0) = false →
             ((((n9 != 0) = true →
                R (Value.bool false) w7)) ∧
              ((n9 != 0) = false →
                (((Option.isNone p8 = true →
                   R (Value.bool false) w7)) ∧
                 (Option.isNone p8 = false →
                   (((((↑(ByteArray.size s4) : Int) != 1108) = true →
                      R (Value.bool false) w7)) ∧
                    (((↑(ByteArray.size s4) : Int) != 1108) = false →
                      Calls Try.prog (9 : Nat) (Array.mk [Value.pointer p8, Value.string (ByteArray.mk (Array.mk [101, 54, 57, 100, 101, 50, 57, 98, 98, 50, 100, 49, 100, 54, 52, 51, 52, 98, 56, 98, 50, 57, 97, 101, 55, 55, 53, 97, 100, 56, 99, 50, 101, 52, 56, 99, 53, 51, 57, 49]))]) (w7) (fun e10 w11 =>
                        ∃ s12 : ByteArray, ∃ n13 : Int, ∃ n14 : Int, ∃ n15 : Int, (e10 = Ending.returned (Value.tuple (Array.mk [Value.agg (Array.mk [Value.string s12, Value.int IntKind.i64 n13, Value.int IntKind.u32 n14]), Value.int IntKind.i64 n15])) ∧
                         ∀ w16 : World,
                         (w16 = World.alloc w11 (Obj.cells (Array.mk [Value.string (ByteArray.mk (Array.mk [])), Value.int IntKind.i64 0, Value.int IntKind.u32 0]) 32) →
                           ∃ w17 : World, (Sem.run Try.prog (storeVar 32 (Addr.mk (Array.size (World.heap w11)) 0 none) (Value.agg (Array.mk [Value.string s12, Value.int IntKind.i64 n13, Value.int IntKind.u32 n14]))) w16 = Result.ok PUnit.unit w17 ∧
                            ((((n15 == 0) = true →
                               ∃ n18 : Int, (World.cell? w17 (Addr.mk (Array.size (World.heap w11)) 1 none) = some (Value.int IntKind.i64 n18) ∧
                                ((((n18 == 12) = true →
                                   ∃ n19 : Int, (World.cell? w17 (Addr.mk (Array.size (World.heap w11)) 2 none) = some (Value.int IntKind.u32 n19) ∧
                                    ((((n19 == 7) = true →
                                       Calls Try.prog (25 : Nat) (Array.mk [Value.pointer p8]) (w17) (fun e20 w21 =>
                                         ∃ n22 : Int, (e20 = Ending.returned (Value.int IntKind.i64 n22) ∧
                                          R (Value.bool (n22 == 1)) w21)))) ∧
                                     ((n19 == 7) = false →
                                       R (Value.bool false) w17))))) ∧
                                 ((n18 == 12) = false →
                                   R (Value.bool false) w17))))) ∧
                             ((n15 == 0) = false →
                               R (Value.bool false) w17)))))))))))))))))))
theorem vc_cartularylaw12_awake_ok {w : World} {R : Value → World → Prop} {R' : Ending → World → Prop} (h : vc_cartularylaw12_awake w R) (hR : ∀ v w', R v w' → R' (.returned v) w') :
    Calls Try.prog 7 #[] w R' :=
  calls_of_body (vs := []) (ty := ty) (ann := ⟨[], [], [], []⟩) (c := Try.f7.body.getD .skip) (by kernel_rfl) Try.func7 (by kernel_rfl) (by kernel_rfl) (Eq.mp (by kernel_rfl) h) hR
end Go.Proofs.Ytoagdpjickippaa

/- Formulas of 1 Go functions of this seat (written by a program of the author's, vcgen.py), and that each is enough for the call. No condition. -/
set_option linter.unusedVariables false
namespace Go.Proofs.Ytoagdpjickippaa
open Go Vc Go.Proofs
set_option maxRecDepth 100000
/-- cartularylaw12.PackidxFinds -/
def vc_cartularylaw12_PackidxFinds (x0a : Option Addr) (x0n : Nat) (x0c : Nat) (x1 : ByteArray) (x2 : Int) (w : World) (R : Value → World → Prop) : Prop :=
  ∃ I1 : Sl → World → Prop, ((((decide ((↑x0n : Int) > 30) = true →
      (((0 : Int) ≤ (30 : Int) ∧
        30 ≤ (↑x0c : Int)) ∧
       I1 (Sl.mk (subA x0a x0c 0 3) (Int.toNat 30) x0c) w))) ∧
    (decide ((↑x0n : Int) > 30) = false →
      I1 (Sl.mk x0a x0n x0c) w)) ∧
   ∀ l2 : Sl,
   ∀ w3 : World,
   (I1 l2 w3 →
     Calls Try.prog (6 : Nat) (Array.mk [Value.slice l2.1 l2.2 l2.3, Value.string x1, Value.int IntKind.i64 2147483648]) (w3) (fun e4 w5 =>
       ∃ s6 : ByteArray, ∃ n7 : Int, (e4 = Ending.returned (Value.tuple (Array.mk [Value.string s6, Value.int IntKind.i64 n7])) ∧
        ((((n7 != 0) = true →
           Calls Try.prog (7 : Nat) (Array.mk []) (w5) (fun e8 w9 =>
             ∃ b10 : Bool, (e8 = Ending.returned (Value.bool b10) ∧
              (((b10 = true →
                 R (Value.bool (ByteArray.toList s6 == ByteArray.toList (ByteArray.mk (Array.mk [])))) w9)) ∧
               (b10 = false →
                 R (Value.bool false) w9)))))) ∧
         ((n7 != 0) = false →
           Calls Try.prog (8 : Nat) (Array.mk [Value.string s6]) (w5) (fun e11 w12 =>
             ∃ p13 : Option Addr, ∃ n14 : Int, (e11 = Ending.returned (Value.tuple (Array.mk [Value.pointer p13, Value.int IntKind.i64 n14])) ∧
              ((((n14 != 0) = true →
                 R (Value.bool false) w12)) ∧
               ((n14 != 0) = false →
                 (((Option.isNone p13 = true →
                    R (Value.bool false) w12)) ∧
                  (Option.isNone p13 = false →
                    ∃ I15 : Int → World → Prop, ∃ I16 : Int → World → Nat, (I15 0 w12 ∧
                     ∀ n17 : Int,
                     ∀ w18 : World,
                     (I15 n17 w18 →
                       (((decide (n17 < (↑l2.2 : Int)) = true →
                          ((0 ≤ n17 ∧
                            n17 < (↑l2.2 : Int)) ∧
                           ∃ a19 : Addr, (l2.1 = some a19 ∧
                            ∃ s20 : ByteArray, ∃ n21 : Int, ∃ n22 : Int, (Sem.run Try.prog (loadVar 32 (Addr.add a19 (Int.toNat n17 * 3))) w18 = Result.ok (Value.agg (Array.mk [Value.string s20, Value.int IntKind.i64 n21, Value.int IntKind.u32 n22])) w18 ∧
                             ∀ w23 : World,
                             (w23 = World.alloc w18 (Obj.cells (Array.mk [Value.string (ByteArray.mk (Array.mk [])), Value.int IntKind.i64 0, Value.int IntKind.u32 0]) 32) →
                               ∃ w24 : World, (Sem.run Try.prog (storeVar 32 (Addr.mk (Array.size (World.heap w18)) 0 none) (Value.agg (Array.mk [Value.string s20, Value.int IntKind.i64 n21, Value.int IntKind.u32 n22]))) w23 = Result.ok PUnit.unit w24 ∧
                                ∃ s25 : ByteArray, (World.cell? w24 (Addr.mk (Array.size (World.heap w18)) 0 none) = some (Value.string s25) ∧
                                 Calls Try.prog (9 : Nat) (Array.mk [Value.pointer p13, Value.string s25]) (w24) (fun e26 w27 =>
                                   ∃ s28 : ByteArray, ∃ n29 : Int, ∃ n30 : Int, ∃ n31 : Int, (e26 = Ending.returned (Value.tuple (Array.mk [Value.agg (Array.mk [Value.string s28, Value.int IntKind.i64 n29, Value.int IntKind.u32 n30]), Value.int IntKind.i64 n31])) ∧
                                    ∀ w32 : World,
                                    (w32 = World.alloc w27 (Obj.cells (Array.mk [Value.string (ByteArray.mk (Array.mk [])), Value.int IntKind.i64 0, Value.int IntKind.u32 0]) 32) →
                                      ∃ w33 : World, (Sem.run Try.prog (storeVar 32 (Addr.mk (Array.size (World.heap w27)) 0 none) (Value.agg (Array.mk [Value.string s28, Value.int IntKind.i64 n29, Value.int IntKind.u32 n30]))) w32 = Result.ok PUnit.unit w33 ∧
                                       ∃ s34 : ByteArray, (World.cell? w33 (Addr.mk (Array.size (World.heap w18)) 0 none) = some (Value.string s34) ∧
                                        (((0 ≤ if (if 40 < x2 then 40 else x2) > 0 then if 40 < x2 then 40 else x2 else 0) ∧
                                          ((if (if 40 < x2 then 40 else x2) > 0 then if 40 < x2 then 40 else x2 else 0) ≤ (↑(ByteArray.size s34) : Int))) ∧
                                         Calls Try.prog (10 : Nat) ((Array.mk [Value.pointer p13, Value.string (ByteArray.extract s34 0 (Int.toNat (if (if 40 < x2 then 40 else x2) > 0 then if 40 < x2 then 40 else x2 else 0)))])) (w33) (fun e35 w36 =>
                                           ∃ l37 : Sl, (e35 = Ending.returned (Value.slice l37.1 l37.2 l37.3) ∧
                                            ∃ I38 : Bool → Int → World → Prop, ∃ I39 : Bool → Int → World → Nat, (I38 false 0 w36 ∧
                                             ∀ b40 : Bool,
                                             ∀ n41 : Int,
                                             ∀ w42 : World,
                                             (I38 b40 n41 w42 →
                                               (((decide (n41 < (↑l37.2 : Int)) = true →
                                                  ((0 ≤ n41 ∧
                                                    n41 < (↑l37.2 : Int)) ∧
                                                   ∃ a43 : Addr, (l37.1 = some a43 ∧
                                                    ∃ s44 : ByteArray, (World.cell? w42 (Addr.add a43 (Int.toNat n41 * 1)) = some (Value.string s44) ∧
                                                     ∃ I45 : Bool → World → Prop, ((((b40 = true →
                                                         I45 true w42)) ∧
                                                       (b40 = false →
                                                         ∃ s46 : ByteArray, (World.cell? w42 (Addr.mk (Array.size (World.heap w18)) 0 none) = some (Value.string s46) ∧
                                                          I45 (ByteArray.toList s44 == ByteArray.toList s46) w42))) ∧
                                                      ∀ b47 : Bool,
                                                      ∀ w48 : World,
                                                      (I45 b47 w48 →
                                                        (((decide (n41 > 0) = true →
                                                           ((0 ≤ IntKind.wrap IntKind.i64 (n41 - 1) ∧
                                                             IntKind.wrap IntKind.i64 (n41 - 1) < (↑l37.2 : Int)) ∧
                                                            ∃ a49 : Addr, (l37.1 = some a49 ∧
                                                             ∃ s50 : ByteArray, (World.cell? w48 (Addr.add a49 (Int.toNat (IntKind.wrap IntKind.i64 (n41 - 1)) * 1)) = some (Value.string s50) ∧
                                                              ((((!Op.bytesLess (ByteArray.toList s50) (ByteArray.toList s44)) = true →
                                                                 R (Value.bool false) w48)) ∧
                                                               ((!Op.bytesLess (ByteArray.toList s50) (ByteArray.toList s44)) = false →
                                                                 (I38 b47 (IntKind.wrap IntKind.i64 (n41 + 1)) w48 ∧
                                                                  I39 b47 (IntKind.wrap IntKind.i64 (n41 + 1)) w48 < I39 b40 n41 w42)))))))) ∧
                                                         (decide (n41 > 0) = false →
                                                           (I38 b47 (IntKind.wrap IntKind.i64 (n41 + 1)) w48 ∧
                                                            I39 b47 (IntKind.wrap IntKind.i64 (n41 + 1)) w48 < I39 b40 n41 w42)))))))))) ∧
                                                (decide (n41 < (↑l37.2 : Int)) = false →
                                                  ((((n31 != 0) = true →
                                                     R (Value.bool false) w42)) ∧
                                                   ((n31 != 0) = false →
                                                     ∃ s51 : ByteArray, ∃ n52 : Int, ∃ n53 : Int, (Sem.run Try.prog (loadVar 32 (Addr.mk (Array.size (World.heap w27)) 0 none)) w42 = Result.ok (Value.agg (Array.mk [Value.string s51, Value.int IntKind.i64 n52, Value.int IntKind.u32 n53])) w42 ∧
                                                      ∃ s54 : ByteArray, ∃ n55 : Int, ∃ n56 : Int, (Sem.run Try.prog (loadVar 32 (Addr.mk (Array.size (World.heap w18)) 0 none)) w42 = Result.ok (Value.agg (Array.mk [Value.string s54, Value.int IntKind.i64 n55, Value.int IntKind.u32 n56])) w42 ∧
                                                       ((((!(ByteArray.toList s51 == ByteArray.toList s54 && (n52 == n55 && n53 == n56))) = true →
                                                          R (Value.bool false) w42)) ∧
                                                        ((!(ByteArray.toList s51 == ByteArray.toList s54 && (n52 == n55 && n53 == n56))) = false →
                                                          ((((!b40) = true →
                                                             R (Value.bool false) w42)) ∧
                                                           ((!b40) = false →
                                                             (I15 (IntKind.wrap IntKind.i64 (n17 + 1)) w42 ∧
                                                              I16 (IntKind.wrap IntKind.i64 (n17 + 1)) w42 < I16 n17 w18))))))))))))))))))))))))))))) ∧
                        (decide (n17 < (↑l2.2 : Int)) = false →
                          Calls Try.prog (7 : Nat) (Array.mk []) (w18) (fun e57 w58 =>
                            ∃ b59 : Bool, (e57 = Ending.returned (Value.bool b59) ∧
                             (((b59 = true →
                                Calls Try.prog (10 : Nat) (Array.mk [Value.pointer p13, Value.string (ByteArray.mk (Array.mk [103]))]) (w58) (fun e60 w61 =>
                                  ∃ l62 : Sl, (e60 = Ending.returned (Value.slice l62.1 l62.2 l62.3) ∧
                                   (((((↑l62.2 : Int) == 0) = true →
                                      Calls Try.prog (10 : Nat) (Array.mk [Value.pointer p13, Value.string (ByteArray.mk (Array.mk []))]) (w61) (fun e63 w64 =>
                                        ∃ l65 : Sl, (e63 = Ending.returned (Value.slice l65.1 l65.2 l65.3) ∧
                                         R (Value.bool ((↑l65.2 : Int) == (↑l2.2 : Int))) w64)))) ∧
                                    (((↑l62.2 : Int) == 0) = false →
                                      R (Value.bool false) w61)))))) ∧
                              (b59 = false →
                                R (Value.bool false) w58))))))))))))))))))))
theorem vc_cartularylaw12_PackidxFinds_ok {x0a : Option Addr} {x0n : Nat} {x0c : Nat} {x1 : ByteArray} {x2 : Int} {w : World} {R : Value → World → Prop} {R' : Ending → World → Prop} (h : vc_cartularylaw12_PackidxFinds x0a x0n x0c x1 x2 w R) (hR : ∀ v w', R v w' → R' (.returned v) w') :
    Calls Try.prog 3 #[.slice x0a x0n x0c, .string x1, .int .i64 x2] w R' :=
  calls_of_body (vs := [(.slice x0a x0n x0c, false), (.string x1, false), (.int .i64 x2, false)]) (ty := ty) (ann := ⟨[(3, [(0, .slice)]), (19, [(16, .bool)])], [(10, [(50, .int .i64)]), (16, [(16, .bool), (71, .int .i64)])], [], []⟩) (c := Try.f3.body.getD .skip) (by kernel_rfl) Try.func3 (by kernel_rfl) (by kernel_rfl) (Eq.mp (by kernel_rfl) h) hR
end Go.Proofs.Ytoagdpjickippaa

/- An index that is built is read back; the law's awake; each row is found. Conditions: as named. -/
set_option linter.unusedVariables false
namespace Go.Proofs.Ytoagdpjickippaa
open Go Vc HexM SumM ShaM Go.Proofs

theorem text_len {rs : List PRow} {sum : ByteArray} (hc : CheckP rs) (hf : ∀ r ∈ rs, Fits r) (hi : isId sum.data.toList = true) (hl : rs.length ≤ 1000) (far : Int) :
    (PkM.textT sha1D far ((sortP rs).map rawOf) (rawB sum)).length = 1072 + 28 * rs.length + 8 * (((sortP rs).map rawOf).filter (PkM.isFar far)).length ∧ PkM.Good ((sortP rs).map rawOf) ∧ RiseP (sortP rs) := by
  have hp := sortP_perm rs
  have hchk := checkP_perm hp.symm hc
  have hrise := near_rise (sortP_near rs) hchk.2
  have hgood := raw_good hchk hrise (fun r hr => hf r (hp.subset hr)) (by rw [hp.length_eq]; exact hl)
  obtain ⟨_, _, _, _, _, q6⟩ := PkM.body_parts (far := far) hgood (rawB_id hi).2.1
  refine ⟨?_, hgood, hrise⟩
  unfold PkM.textT
  rw [List.length_append, q6, digest_len, List.length_map, hp.length_eq]; omega
set_option maxRecDepth 100000 in
theorem parse_build {rs : List PRow} {sum : ByteArray} (hc : CheckP rs) (hf : ∀ r ∈ rs, Fits r) (hi : isId sum.data.toList = true) (hl : rs.length ≤ 1000) (far : Int) (w : World) :
    Calls Try.prog F_packidx_Parse #[.string ⟨(PkM.textT sha1D far ((sortP rs).map rawOf) (rawB sum)).toArray⟩] w fun e w' => ∃ b, e = .returned (.tuple #[.pointer (some ⟨b, 0, none⟩), .int .i64 0]) ∧ IsIdx w' b (sortP rs) sum ∧ Fr (fun _ => False) w w' := by
  obtain ⟨h1, hgood, hrise⟩ := text_len hc hf hi hl far
  have hfl := List.length_filter_le (PkM.isFar far) ((sortP rs).map rawOf)
  have hgl := hgood.few
  refine (parse_spec _ (by rw [bs_mksize, h1]; omega) w).mono ?_
  rintro e w' ⟨v, rfl, hF, hR⟩
  have hp := sortP_perm rs
  have hchk := checkP_perm hp.symm hc
  rw [bs_mk, PkM.parse_text hgood (rawB_id hi).2.1 digest_len] at hR
  simp only at hR
  rw [raw_back hchk (fun r hr => hf r (hp.subset hr))] at hR
  obtain ⟨b, rfl, _, hI⟩ := hR
  have hs : (⟨(hexL (rawB sum)).toArray⟩ : ByteArray) = sum := bs_ext (by rw [bs_mk]; exact (rawB_id hi).2.2)
  rw [hs] at hI
  exact ⟨b, rfl, hI, hF⟩
def awR : PRow := (⟨#[101, 54, 57, 100, 101, 50, 57, 98, 98, 50, 100, 49, 100, 54, 52, 51, 52, 98, 56, 98, 50, 57, 97, 101, 55, 55, 53, 97, 100, 56, 99, 50, 101, 52, 56, 99, 53, 51, 57, 49]⟩, 12, 7)
def awS : ByteArray := ⟨#[52, 98, 56, 50, 53, 100, 99, 54, 52, 50, 99, 98, 54, 101, 98, 57, 97, 48, 54, 48, 101, 53, 52, 98, 102, 56, 100, 54, 57, 50, 56, 56, 102, 98, 101, 101, 52, 57, 48, 52]⟩
theorem aw_ids : (isId awR.1.data.toList && isId awS.data.toList) = true := by decide +kernel
theorem aw_check : CheckP [awR] := by
  refine ⟨fun r hr => ?_, List.pairwise_singleton _ _⟩
  rw [List.mem_singleton.1 hr]
  exact ⟨(Bool.and_eq_true_iff.1 aw_ids).1, by decide, by decide⟩
theorem reads_blkP {w : World} {g : Nat} {cs : Array Value} {e : TypeId} {fz : Nat × Nat} (h : w.heap[g]? = some (.cells cs e fz)) {xs : List PRow} (hc : cs.toList = xs.flatMap encP) : ReadsK encP 3 w (some ⟨g, 0, none⟩) xs := fun i x hx => by
  refine ⟨_, rfl, fun j v hv => ?_⟩
  rw [add_lit, add_lit, cell_blk h, Nat.zero_add, ← Array.getElem?_toList, hc]
  exact flat_get (enc := encP) (k := 3) (fun _ => rfl) xs i x j v hx hv
theorem awake12_spec (w : World) : Calls Try.prog F_cartularylaw12_awake #[] w fun e w' => e = .returned (.bool true) ∧ Fr (fun _ => False) w w' := by
  refine vc_cartularylaw12_awake_ok (R := fun v w' => v = .bool true ∧ Fr (fun _ => False) w w') ?_ (fun v w' h => ⟨by rw [h.1], h.2⟩)
  intro w1 h1
  have hf1 : Fr (fun _ => False) w w1 := by rw [h1]; exact .alloc _ _ _
  have hr1 : ReadsK encP 3 w1 (some ⟨w.heap.size, 0, none⟩) [awR] := reads_blkP (by rw [h1]; exact alloc_new _ _) rfl
  clear h1
  have hfit : ∀ r ∈ [awR], Fits r := fun r hr => by rw [List.mem_singleton.1 hr]; exact ⟨by decide, by decide⟩
  have hid := (Bool.and_eq_true_iff.1 aw_ids).2
  refine (build_spec hr1 rfl (fun r hr => by rw [List.mem_singleton.1 hr]; decide) hfit awS (by decide) 0).mono ?_
  rintro e w3 ⟨v, rfl, hf3, hR⟩
  rcases hR with ⟨_, h⟩ | ⟨_, ⟨_, h⟩ | ⟨rfl, _, _⟩⟩
  · exact absurd h (by decide)
  · exact absurd ⟨aw_check, hid⟩ h
  obtain ⟨hlen, _, hrise⟩ := text_len aw_check hfit hid (by decide) 0
  have hsort : sortP [awR] = [awR] := rfl
  refine ⟨_, _, rfl, (parse_build aw_check hfit hid (by decide) 0 w3).mono ?_⟩
  rintro e w7 ⟨b, rfl, hI, hf7⟩
  have hF7 := (hf1.trans' hf3).trans' hf7
  rw [hsort] at hI hrise hlen ⊢
  have hsz : (⟨(PkM.textT sha1D 0 ([awR].map rawOf) (rawB awS)).toArray⟩ : ByteArray).size = 1108 := by
    rw [bs_mksize, hlen]; rfl
  refine ⟨_, _, rfl, fun h => absurd h (by decide), fun _ => ⟨fun h => absurd h (by decide), fun _ => ⟨fun h => (by cases h), fun _ => ⟨fun h => ?_, fun _ => (findP_spec hI (by decide) hrise awR.1).mono ?_⟩⟩⟩⟩
  · rw [hsz] at h; exact absurd h (by decide)
  have hfd : findP [awR] awR.1 = some awR := by unfold findP; simp
  rw [hfd]
  rintro e w11 ⟨rfl, hf11⟩
  refine ⟨_, _, _, _, rfl, fun w16 h16 => ?_⟩
  subst h16
  have hfa : Fr (fun _ => False) w11 (w11.alloc (.cells (encP awR).toArray T_packidx_Row)) := .alloc _ _ _
  refine ⟨_, boxP_run w11 awR, fun _ => ⟨_, boxP_cell w11 awR (.refl (fun _ => False) _) (by simp) (j := 1) rfl, fun _ => ⟨_, boxP_cell w11 awR (.refl (fun _ => False) _) (by simp) (j := 2) rfl, fun _ => (len_spec ((hI.keep hf11).keep hfa)).mono ?_, fun h => absurd h (by decide)⟩, fun h => absurd h (by decide)⟩, fun h => absurd h (by decide)⟩
  rintro e w21 ⟨rfl, hw⟩
  replace hw := hw.symm
  subst hw
  exact ⟨_, rfl, rfl, (hF7.trans' hf11).trans' hfa⟩
theorem match_mem {ys : List PRow} {x : PRow} {f : ByteArray} (hx : x ∈ ys) (hb : begB x.1 f = true) : x.1 ∈ matchP ys f := by
  unfold matchP
  exact List.mem_map.2 ⟨x, List.mem_filter.2 ⟨hx, hb⟩, rfl⟩
theorem match_rise {ys : List PRow} (h : RiseP ys) (f : ByteArray) : (matchP ys f).Pairwise fun x y => x.data.toList < y.data.toList := by
  unfold matchP
  rw [List.pairwise_map]
  exact h.sublist List.filter_sublist
theorem id_begins {s : ByteArray} (h : isId s.data.toList = true) : begB s ⟨#[103]⟩ = false := by
  unfold begB
  refine decide_eq_false fun hp => ?_
  have h1 := h
  unfold isId at h1
  rw [Bool.and_eq_true, unhexL_iff, Bool.and_eq_true] at h1
  have hm : (103 : UInt8) ∈ s.data.toList := hp.subset (by simp)
  have := List.all_eq_true.1 h1.1.1 103 hm
  revert this; decide
theorem finds_walk {a : Option Addr} {n c : Nat} {W : World} {xs : List PRow} (hr : ReadsK encP 3 W a xs) (hn : xs.length = n) (hc : n ≤ c) (hz : ∀ x ∈ xs, x.1.size ≤ 140737488355328) (hfit : ∀ x ∈ xs, Fits x) (sum : ByteArray) (hs : sum.size ≤ 140737488355328) (m : Int) :
    Calls Try.prog F_cartularylaw12_PackidxFinds #[.slice a n c, .string sum, .int .i64 m] W fun e w' => e = .returned (.bool true) ∧ RowKit.Below W.heap.size W w' := by
  refine vc_cartularylaw12_PackidxFinds_ok (R := fun v w' => v = .bool true ∧ Fr (fun _ => False) W w') ?_ (fun v w' h => ⟨by rw [h.1], (h.2.mono fun _ _ h => h.elim : Fr (fun k => W.heap.size ≤ k) W w').below (Nat.le_refl _)⟩)
  refine ⟨fun l w' => w' = W ∧ ReadsK encP 3 W l.a (xs.take 30) ∧ (xs.take 30).length = l.len ∧ l.len ≤ l.cap, ⟨fun h => ⟨⟨by decide, by have := of_decide_eq_true h; omega⟩, rfl, ?_, ?_, ?_⟩, fun h => ⟨rfl, ?_, ?_, hc⟩⟩, ?_⟩
  · have hs := hr.sub (cap := c) (by omega) 0
    rw [List.drop_zero] at hs
    exact hs.take 30
  · have := of_decide_eq_true h
    rw [List.length_take]
    show _ = 30
    omega
  · have := of_decide_eq_true h
    show 30 ≤ c
    omega
  · exact hr.take 30
  · have := of_decide_eq_false h
    rw [List.length_take]
    show _ = n
    omega
  rintro l w3 ⟨hw, hrr, hrl, hlc⟩
  replace hw := hw.symm
  subst hw
  have hl30 : (xs.take 30).length ≤ 30 := by rw [List.length_take]; omega
  have hz' : ∀ x ∈ xs.take 30, x.1.size ≤ 140737488355328 := fun x hx => hz x (List.mem_of_mem_take hx)
  have hf' : ∀ x ∈ xs.take 30, Fits x := fun x hx => hfit x (List.mem_of_mem_take hx)
  generalize xs.take 30 = rs at hrr hrl hl30 hz' hf'
  refine (build_spec hrr hrl hz' hf' sum hs 2147483648).mono ?_
  rintro e w5 ⟨v, rfl, hf5, hR⟩
  rcases hR with ⟨_, h⟩ | ⟨_, ⟨rfl, h⟩ | ⟨rfl, hchk, hid⟩⟩
  · omega
  · refine ⟨_, _, rfl, fun _ => (awake12_spec w5).mono ?_, fun h => absurd h (by decide)⟩
    rintro e w9 ⟨rfl, hf9⟩
    refine ⟨true, rfl, fun _ => ⟨?_, hf5.trans' hf9⟩, fun h => by cases h⟩
    rw [bs_eq, decide_eq_true rfl]
  obtain ⟨hlen, _, hrise⟩ := text_len hchk hf' hid (by omega) 2147483648
  refine ⟨_, _, rfl, fun h => absurd h (by decide), fun _ => (parse_build hchk hf' hid (by omega) 2147483648 w5).mono ?_⟩
  rintro e w12 ⟨b, rfl, hI, hf12⟩
  have hF12 := hf5.trans' hf12
  have hp := sortP_perm rs
  have hyl : (sortP rs).length = rs.length := hp.length_eq
  have hyc := checkP_perm hp.symm hchk
  have hmem : ∀ x ∈ rs, x ∈ sortP rs := fun x hx => hp.symm.subset hx
  generalize sortP rs = ys at hI hrise hyl hyc hmem
  have hrr12 := hrr.keep hF12 (by simp)
  refine ⟨_, _, rfl, fun h => absurd h (by decide), fun _ => ⟨fun h => (by cases h), fun _ => ?_⟩⟩
  refine ⟨fun i w' => ∃ k : Nat, i = k ∧ k ≤ rs.length ∧ Fr (fun _ => False) w12 w', fun i _ => rs.length - i.toNat, ⟨0, rfl, Nat.zero_le _, .refl _ _⟩, ?_⟩
  rintro i w18 ⟨k, rfl, hk, hf18⟩
  have e1 : IntKind.i64.wrap ((k : Int) + 1) = ((k + 1 : Nat) : Int) := by rw [wrap_i64 (by omega) (by omega)]; omega
  rw [e1]
  refine ⟨fun hlt => ?_, fun hge => ?_⟩
  · have hlt := of_decide_eq_true hlt
    have hkl : k < rs.length := by omega
    have hx : rs[k]? = some rs[k] := List.getElem?_eq_getElem hkl
    have hxm : rs[k] ∈ rs := List.getElem_mem hkl
    generalize rs[k] = x at hx hxm
    have hxy := hmem x hxm
    obtain ⟨ox1, ox2, ox3⟩ := hchk.1 x hxm
    have hx40 : x.1.size = 40 := by
      have := ox1
      unfold isId at this
      rw [Bool.and_eq_true] at this
      have := eq_of_beq this.2
      rw [bs_len] at this; exact this
    obtain ⟨ad, had, hload⟩ := (hrr12.keep hf18 (by simp)).load elP hx
    refine ⟨⟨by omega, by omega⟩, ad, had, x.1, x.2.1, x.2.2, by rw [Int.toNat_natCast]; exact hload, fun w23 h23 => ?_⟩
    subst h23
    have hfa : Fr (fun _ => False) w18 (w18.alloc (.cells (encP x).toArray T_packidx_Row)) := .alloc _ _ _
    have hb1 : (w18.alloc (.cells (encP x).toArray T_packidx_Row)).heap[w18.heap.size]? = some (.cells (encP x).toArray T_packidx_Row (0, 0)) := alloc_new _ _
    refine ⟨_, boxP_run w18 x, x.1, by rw [cell_blk hb1]; rfl, ?_⟩
    generalize w18.alloc (.cells (encP x).toArray T_packidx_Row) = w24 at hfa hb1
    generalize w18.heap.size = g at hb1
    have hf24 := hf18.trans' hfa
    refine (findP_spec (hI.keep hf24) (by omega) hrise x.1).mono ?_
    have hfd : findP ys x.1 = some x := by
      unfold findP
      cases h : ys.find? (fun y => decide (y.1 = x.1)) with
      | none =>
        rw [List.find?_eq_none] at h
        exact absurd (decide_eq_true rfl) (h x hxy)
      | some y =>
        have hy1 := List.mem_of_find?_eq_some h
        have hy2 : y.1 = x.1 := by simpa using List.find?_some h
        obtain ⟨i1, hi1⟩ := List.mem_iff_getElem?.1 hy1
        obtain ⟨i2, hi2⟩ := List.mem_iff_getElem?.1 hxy
        rcases Nat.lt_trichotomy i1 i2 with h3 | h3 | h3
        · have := (List.pairwise_iff_getElem.1 hrise) i1 i2 (List.getElem?_eq_some_iff.1 hi1).1 (List.getElem?_eq_some_iff.1 hi2).1 h3
          rw [(List.getElem?_eq_some_iff.1 hi1).2, (List.getElem?_eq_some_iff.1 hi2).2, hy2] at this
          exact absurd this (List.lt_irrefl _)
        · subst h3; rw [hi1] at hi2; exact hi2
        · have := (List.pairwise_iff_getElem.1 hrise) i2 i1 (List.getElem?_eq_some_iff.1 hi2).1 (List.getElem?_eq_some_iff.1 hi1).1 h3
          rw [(List.getElem?_eq_some_iff.1 hi1).2, (List.getElem?_eq_some_iff.1 hi2).2, hy2] at this
          exact absurd this (List.lt_irrefl _)
    rw [hfd]
    rintro e w27 ⟨rfl, hf27⟩
    have hb27 := hf27.keep hb1 (by simp)
    have hf27' := hf24.trans' hf27
    refine ⟨_, _, _, _, rfl, fun w32 h32 => ?_⟩
    subst h32
    have hfa2 : Fr (fun _ => False) w27 (w27.alloc (.cells (encP x).toArray T_packidx_Row)) := .alloc _ _ _
    have hb2 : (w27.alloc (.cells (encP x).toArray T_packidx_Row)).heap[w27.heap.size]? = some (.cells (encP x).toArray T_packidx_Row (0, 0)) := alloc_new _ _
    have hb33 := hfa2.keep hb27 (by simp)
    refine ⟨_, boxP_run w27 x, x.1, by rw [cell_blk hb33]; rfl, ?_⟩
    generalize w27.alloc (.cells (encP x).toArray T_packidx_Row) = w33 at hfa2 hb2 hb33
    generalize w27.heap.size = g2 at hb2
    have hf33 := hf27'.trans' hfa2
    obtain ⟨q, hq, hq40⟩ : ∃ q : Nat, (if (if 40 < m then (40 : Int) else m) > 0 then (if 40 < m then (40 : Int) else m) else 0) = (q : Int) ∧ q ≤ 40 := by
      refine ⟨(if (if 40 < m then (40 : Int) else m) > 0 then (if 40 < m then (40 : Int) else m) else 0).toNat, ?_, ?_⟩
      · split <;> (try split) <;> omega
      · split <;> (try split) <;> omega
    rw [hq, Int.toNat_natCast]
    refine ⟨⟨by omega, by omega⟩, (matchP_spec (hI.keep hf33) (by omega) hrise (x.1.extract 0 q)).mono ?_⟩
    have hbeg : begB x.1 (x.1.extract 0 q) = true := by
      unfold begB
      rw [bs_head]
      exact decide_eq_true (List.take_prefix _ _)
    have hin := match_mem hxy hbeg
    have hmr := match_rise hrise (x.1.extract 0 q)
    rintro e w36 ⟨l37, rfl, ho36, hf36⟩
    have hml : (matchP ys (x.1.extract 0 q)).length ≤ 30 := by
      unfold matchP
      rw [List.length_map]
      have := List.length_filter_le (fun y : PRow => begB y.1 (x.1.extract 0 q)) ys
      omega
    generalize matchP ys (x.1.extract 0 q) = us at hin hmr ho36 hml
    have hul : l37.len = us.length := by rw [ho36.len]; simp [strV]
    have hur := ho36.reads
    have hb36 := hf36.keep hb33 (by simp)
    have hb236 := hf36.keep hb2 (by simp)
    have hf36' := hf33.trans' hf36
    refine ⟨l37, rfl, fun bb j w' => w' = w36 ∧ ∃ p : Nat, j = p ∧ p ≤ us.length ∧ (bb = true ↔ x.1 ∈ us.take p), fun _ j _ => us.length - j.toNat, ⟨rfl, 0, rfl, Nat.zero_le _, by simp⟩, ?_⟩
    rintro bb j w42 ⟨hw, p, rfl, hp, hbb⟩
    replace hw := hw.symm
    subst hw
    have e2 : IntKind.i64.wrap ((p : Int) + 1) = ((p + 1 : Nat) : Int) := by rw [wrap_i64 (by omega) (by omega)]; omega
    rw [e2]
    refine ⟨fun hlt2 => ?_, fun hge2 => ?_⟩
    · have hlt2 := of_decide_eq_true hlt2
      have hpl : p < us.length := by omega
      have hy : us[p]? = some us[p] := List.getElem?_eq_getElem hpl
      have hlast : 0 < p → ∃ z, us[p - 1]? = some z ∧ z.data.toList < us[p].data.toList := fun h0 => ⟨us[p - 1], List.getElem?_eq_getElem (by omega), (List.pairwise_iff_getElem.1 hmr) (p - 1) p (by omega) hpl (by omega)⟩
      generalize us[p] = y at hy hlast
      have htk : us.take (p + 1) = us.take p ++ [y] := by rw [List.take_add_one, hy]; rfl
      obtain ⟨ad', had', hcy⟩ := hur p (.string y) (by simp [strV, hy])
      refine ⟨⟨by omega, by omega⟩, ad', had', y, by rw [Int.toNat_natCast, Nat.mul_one]; exact hcy, fun b47 w' => w' = w36 ∧ (b47 = true ↔ x.1 ∈ us.take (p + 1)), ⟨fun h => ⟨rfl, ?_⟩, fun h => ⟨x.1, by rw [cell_blk hb36]; rfl, rfl, ?_⟩⟩, ?_⟩
      · rw [htk]
        exact ⟨fun _ => List.mem_append_left _ (hbb.1 h), fun _ => rfl⟩
      · rw [bs_eq, decide_eq_true_eq, htk, List.mem_append, List.mem_singleton]
        refine ⟨fun e => .inr e.symm, fun e => ?_⟩
        rcases e with e | e
        · rw [hbb.2 e] at h; cases h
        · exact e.symm
      rintro b47 w48 ⟨hw, hb47⟩
      replace hw := hw.symm
      subst hw
      refine ⟨fun h0 => ?_, fun h0 => ⟨⟨rfl, p + 1, rfl, by omega, hb47⟩, by dsimp only; omega⟩⟩
      have h0 : 0 < p := by have := of_decide_eq_true h0; omega
      have e3 : IntKind.i64.wrap ((p : Int) - 1) = ((p - 1 : Nat) : Int) := by rw [wrap_i64 (by omega) (by omega)]; omega
      rw [e3]
      obtain ⟨z, hz, hlt3⟩ := hlast h0
      obtain ⟨ad2, had2, hcz⟩ := hur (p - 1) (.string z) (by simp [strV, hz])
      refine ⟨⟨by omega, by omega⟩, ad2, had2, z, by rw [Int.toNat_natCast, Nat.mul_one]; exact hcz, fun h => ?_, fun _ => ⟨⟨rfl, p + 1, rfl, by omega, hb47⟩, by dsimp only; omega⟩⟩
      rw [ByteArray.toList_eq, ByteArray.toList_eq, Proofs.bytesLess_eq, decide_eq_true hlt3] at h
      cases h
    · have hge2 := of_decide_eq_false hge2
      have hp' : p = us.length := by omega
      rw [hp', List.take_length] at hbb
      have hbt := hbb.2 hin
      refine ⟨fun h => absurd h (by decide), fun _ => ⟨_, _, _, boxP_load hb236, _, _, _, boxP_load hb36, fun h => ?_, fun _ => ⟨fun h => ?_, fun _ => ⟨⟨k + 1, rfl, by omega, hf36'⟩, by dsimp only; omega⟩⟩⟩⟩
      · rw [bs_eq, decide_eq_true rfl, beq_self_eq_true, beq_self_eq_true] at h
        cases h
      · rw [hbt] at h; cases h
  · have hge := of_decide_eq_false hge
    refine (awake12_spec w18).mono ?_
    rintro e w58 ⟨rfl, hf58⟩
    have hf58' := hf18.trans' hf58
    refine ⟨true, rfl, fun _ => (matchP_spec (hI.keep hf58') (by omega) hrise ⟨#[103]⟩).mono ?_, fun h => by cases h⟩
    rintro e w61 ⟨l62, rfl, ho61, hf61⟩
    have hg : matchP ys ⟨#[103]⟩ = [] := by
      unfold matchP
      rw [List.filter_eq_nil_iff.2 fun y hy => by rw [id_begins (hyc.1 y hy).1]; decide]; rfl
    rw [hg] at ho61
    have hl0 : l62.len = 0 := by rw [ho61.len]; rfl
    have hf61' := hf58'.trans' hf61
    refine ⟨l62, rfl, fun _ => (matchP_spec (hI.keep hf61') (by omega) hrise ⟨#[]⟩).mono ?_, fun h => by rw [hl0] at h; simp at h⟩
    rintro e w64 ⟨l65, rfl, ho64, hf64⟩
    have hall : (matchP ys ⟨#[]⟩).length = ys.length := by
      unfold matchP
      rw [List.length_map, List.filter_eq_self.2 fun y _ => by unfold begB; exact decide_eq_true List.nil_prefix]
    have hl65 : l65.len = l.len := by rw [ho64.len]; simp only [strV, List.length_map]; omega
    exact ⟨l65, rfl, by rw [hl65, beq_self_eq_true], (hF12.trans' hf61').trans' hf64⟩
end Go.Proofs.Ytoagdpjickippaa

/- Formulas of 1 Go functions of this seat (written by a program of the author's, vcgen.py), and that each is enough for the call. No condition. -/
set_option linter.unusedVariables false
namespace Go.Proofs.Ytoagdpjickippaa
open Go Vc Go.Proofs
set_option maxRecDepth 100000
/-- cartularylaw01.Few -/
def vc_cartularylaw01_Few (x0 : ByteArray) (x1 : Int) (w : World) (R : Value → World → Prop) : Prop :=
  (((decide ((↑(ByteArray.size x0) : Int) > x1) = true →
     ((0 ≤ x1 ∧
       x1 ≤ (↑(ByteArray.size x0) : Int)) ∧
      R (Value.string (ByteArray.extract x0 0 (Int.toNat x1))) w))) ∧
   (decide ((↑(ByteArray.size x0) : Int) > x1) = false →
     R (Value.string x0) w))
theorem vc_cartularylaw01_Few_ok {x0 : ByteArray} {x1 : Int} {w : World} {R : Value → World → Prop} {R' : Ending → World → Prop} (h : vc_cartularylaw01_Few x0 x1 w R) (hR : ∀ v w', R v w' → R' (.returned v) w') :
    Calls Try.prog 11 #[.string x0, .int .i64 x1] w R' :=
  calls_of_body (vs := [(.string x0, false), (.int .i64 x1, false)]) (ty := ty) (ann := ⟨[], [], [], []⟩) (c := Try.f11.body.getD .skip) (by kernel_rfl) Try.func11 (by kernel_rfl) (by kernel_rfl) (Eq.mp (by kernel_rfl) h) hR
end Go.Proofs.Ytoagdpjickippaa

/- The law's Few of a text. No condition. -/
set_option linter.unusedVariables false
namespace Go.Proofs.Ytoagdpjickippaa
open Go Vc Go.Proofs

theorem fewS_spec (s : ByteArray) (n : Nat) (w : World) : Calls Try.prog F_cartularylaw01_Few #[.string s, .int .i64 n] w fun e w' => e = .returned (.string (if s.size > n then s.extract 0 n else s)) ∧ w' = w := by
  refine vc_cartularylaw01_Few_ok (R := fun v w' => v = .string (if s.size > n then s.extract 0 n else s) ∧ w' = w) ?_ (fun v w' h => ⟨by rw [h.1], h.2⟩)
  refine ⟨fun h => ?_, fun h => ?_⟩
  · have h := of_decide_eq_true h
    rw [if_pos (by omega)]
    exact ⟨⟨by omega, by omega⟩, by simp, rfl⟩
  · have h := of_decide_eq_false h
    rw [if_neg (by omega)]
    exact ⟨rfl, rfl⟩
theorem fewS_len (s : ByteArray) (n : Nat) : (if s.size > n then s.extract 0 n else s).size ≤ n := by
  split
  · simp; omega
  · omega
end Go.Proofs.Ytoagdpjickippaa

/- The law PackidxReads walked. No condition. -/
set_option linter.unusedVariables false
namespace Go.Proofs.Ytoagdpjickippaa
open Go Vc HexM SumM ShaM Go.Proofs

theorem parse_ok {D : List UInt8 → List UInt8} {L : List UInt8} {rows : List PkM.Rw} {sum : List UInt8} (h : PkM.parseE D L = .ok (rows, sum)) :
    rows.length ≤ 1000 ∧ (∀ r ∈ rows, r.1.length = 20 ∧ r.2.1 ≤ 1099511627776 ∧ r.2.2 < 4294967296) ∧ rows.Pairwise fun x y => x.1 < y.1 := by
  unfold PkM.parseE at h
  split at h
  · cases h
  split at h
  · cases h
  split at h
  · cases h
  split at h
  · cases h
  split at h
  · cases h
  split at h
  · cases h
  split at h
  · cases h
  rename_i h1 h2 h3 h4 h5 h6 rs hrs
  split at h
  · cases h
  simp only [Except.ok.injEq, Prod.mk.injEq] at h
  obtain ⟨rfl, rfl⟩ := h
  obtain ⟨k1, k2, k3⟩ := PkM.rows_sorted hrs (by omega)
  exact ⟨by omega, k2, k3⟩
theorem place_err0 (F : List UInt8) (v : Nat) : PkM.placeE F v ≠ .error 0 := by
  unfold PkM.placeE
  split
  · exact fun h => by cases h
  split
  · exact fun h => by cases h
  · exact fun h => by cases h
theorem step_err0 (L : List UInt8) (n i : Nat) : PkM.stepE L n i ≠ .error 0 := by
  unfold PkM.stepE
  split
  · exact fun h => by cases h
  split
  · exact fun h => by cases h
  split
  · exact fun h => by cases h
  split
  · rename_i e he
    intro h
    cases h
    exact place_err0 _ _ he
  split
  · exact fun h => by cases h
  · exact fun h => by cases h
theorem rows_err0 (L : List UInt8) (n : Nat) : ∀ k i, PkM.rowsE L n i k ≠ .error 0
  | 0, i => fun h => by cases h
  | k + 1, i => by
    rw [PkM.rowsE]
    split
    · rename_i e he
      intro h
      cases h
      exact step_err0 _ _ _ he
    split
    · rename_i e he
      intro h
      cases h
      exact rows_err0 L n k (i + 1) he
    · exact fun h => by cases h
theorem parse_err0 (D : List UInt8 → List UInt8) (L : List UInt8) : PkM.parseE D L ≠ .error 0 := by
  unfold PkM.parseE
  split
  · exact fun h => by cases h
  split
  · exact fun h => by cases h
  split
  · exact fun h => by cases h
  split
  · exact fun h => by cases h
  split
  · exact fun h => by cases h
  split
  · exact fun h => by cases h
  split
  · rename_i e he
    intro h
    cases h
    exact rows_err0 _ _ _ _ he
  split
  · exact fun h => by cases h
  · exact fun h => by cases h
theorem raw_named {x : PkM.Rw} (h : x.1.length = 20) : (ofRaw x).1 ≠ ⟨#[]⟩ := fun e => by
  have h2 : (hexL x.1).length = 0 := by
    have := congrArg (fun b : ByteArray => b.data.toList.length) e
    simpa [ofRaw] using this
  rw [hexL_length, h] at h2
  cases h2
theorem reads12_walk (a0 a1 : ByteArray) (W : World) : Calls Try.prog F_cartularylaw12_PackidxReads #[.string a0, .string a1] W fun e w' => e = .returned (.bool true) ∧ RowKit.Below W.heap.size W w' := by
  refine vc_cartularylaw12_PackidxReads_ok (R := fun v w' => v = .bool true ∧ Fr (fun _ => False) W w') ?_ (fun v w' h => ⟨by rw [h.1], (h.2.mono fun _ _ h => h.elim : Fr (fun k => W.heap.size ≤ k) W w').below (Nat.le_refl _)⟩)
  refine (fewS_spec a0 1600 W).mono ?_
  rintro e w2 ⟨rfl, hw⟩
  replace hw := hw.symm
  subst hw
  have hz := fewS_len a0 1600
  generalize (if a0.size > 1600 then a0.extract 0 1600 else a0) = s at hz ⊢
  refine ⟨s, rfl, (parse_spec s (by omega) W).mono ?_⟩
  rintro e w5 ⟨v, rfl, hf5, hP⟩
  obtain ⟨p, hp⟩ : ∃ p, PkM.parseE sha1D s.data.toList = p := ⟨_, rfl⟩
  rw [hp] at hP
  cases p with
  | error m =>
    dsimp only at hP
    subst hP
    refine ⟨none, (m : Nat), rfl, (rparse_spec s (by omega) w5).mono ?_⟩
    rintro e w9 ⟨v, rfl, hf9, hP⟩
    rw [hp] at hP
    dsimp only at hP
    subst hP
    refine ⟨⟨none, 0, 0⟩, _, _, rfl, (awake12_spec w9).mono ?_⟩
    rintro e w14 ⟨rfl, hf14⟩
    have hF := (hf5.trans' hf9).trans' hf14
    refine ⟨_, rfl, fun h => (by cases h), fun _ => ⟨fun h => (by simp at h), fun _ => ⟨fun _ => ⟨rfl, hF⟩, fun h => ?_⟩⟩⟩
    have hm : m = 0 := by
      have : ((m : Nat) : Int) = 0 := by simpa using h
      omega
    subst hm
    exact absurd hp (parse_err0 _ _)
  | ok q =>
    obtain ⟨rows, sum⟩ := q
    dsimp only at hP
    obtain ⟨b, rfl, _, hI⟩ := hP
    obtain ⟨hl, hrw, hrise⟩ := parse_ok hp
    refine ⟨some ⟨b, 0, none⟩, 0, rfl, (rparse_spec s (by omega) w5).mono ?_⟩
    rintro e w9 ⟨v, rfl, hf9, hP⟩
    rw [hp] at hP
    dsimp only at hP
    obtain ⟨l, rfl, ho⟩ := hP
    refine ⟨l, _, _, rfl, (awake12_spec w9).mono ?_⟩
    rintro e w14 ⟨rfl, hf14⟩
    have hF := (hf5.trans' hf9).trans' hf14
    refine ⟨_, rfl, fun h => (by cases h), fun _ => ⟨fun h => (by cases h), fun _ => ⟨fun h => (by cases h), fun _ => ?_⟩⟩⟩
    refine (is_spec (hI.keep (hf9.trans' hf14)) ((ho.keep hf14 (by simp)).reads fun _ => rfl) (by rw [ho.len]) (by rw [ho.len, List.length_map]; exact hl) (of_rise hrise) (fun r hr => ?_) a1).mono ?_
    · obtain ⟨x, hx, rfl⟩ := List.mem_map.1 hr
      exact raw_named (hrw x hx).1
    rintro e w17 ⟨rfl, hf17⟩
    exact ⟨true, rfl, rfl, hF.trans' hf17⟩
end Go.Proofs.Ytoagdpjickippaa

/- Slices of structs that came in, opened to cells. No condition: for all programs. -/
set_option linter.unusedVariables false
namespace Vc
open Go Go.ChangeShapes Go.WideShapes Go.Deep
section
variable {H : Type} {enc : TypeId × Value → H} {P : Program} {w : World} {base : Nat} {spare : Nat → Bool} {held : Bool}
/-- What the fields of an element say, its cells say. -/
def FieldsSay (enc : TypeId × Value → H) (P : Program) (w : World) (base : Nat) (spare : Nat → Bool) (held : Bool) (fs : Array Field) (Q : List Value → Prop) : Prop :=
  ∀ n (cs : List Value), cs.length = fs.size → (∀ (j : Nat) (f : Field) (v : Value), fs[j]? = some f → cs[j]? = some v → ∃ y, DataW.trod enc P w base spare held n f.type [v] = some y) → Q cs
theorem open_rows {t e : TypeId} {fs : Array Field} {fuel : Nat} {a : Option Addr} {len cap : Nat} {x : DataW H × List MemPlace} {Q : List Value → Prop} (ht : P.underlying t = some (.slice e)) (he : P.underlying e = some (.struct fs))
    (hone : oneCellFields P fs = true) (hC : P.cellsOf e = fs.size) (hQ : FieldsSay enc P w base spare held fs Q) (h : DataW.trod enc P w base spare held fuel t [.slice a len cap] = some x) : IsRows fs.size Q w a len := by
  intro i hi
  rcases open_slice ht h with ⟨h0, _⟩ | ⟨b, l, c, m, n, D, Pl, hcs, hb, hl, hm, hmm, hx, hi'⟩
  · simp only [List.cons.injEq, Value.slice.injEq] at h0; omega
  · simp only [List.cons.injEq, Value.slice.injEq, and_true] at hcs
    obtain ⟨rfl, rfl, rfl⟩ := hcs
    obtain ⟨cs, hc, htr⟩ := hi' i (by rw [hmm]; split <;> omega)
    obtain ⟨ys, n', _, _, hlen, hyl, hf⟩ := DataW.trod_struct he htr
    obtain ⟨_, hcl, hat⟩ := World.cells?_some hc
    rw [hC] at hcl hat
    refine ⟨b, cs, rfl, hcl, hQ n' cs hcl ?_, ?_⟩
    · intro j f v hj hv
      obtain ⟨ho, hk⟩ := hone_of hone j f hj
      have hjl : j < fs.size := (Array.getElem?_eq_some_iff.1 hj).1
      have h1 := hf j f hj
      have h2 : (cs.drop j).take 1 = [v] := by
        obtain ⟨hjl', hv'⟩ := List.getElem?_eq_some_iff.1 hv
        rw [List.drop_eq_getElem_cons hjl', hv']; rfl
      rw [ho, hk, h2, List.getElem?_eq_getElem (show j < ys.length by omega)] at h1
      exact ⟨_, h1⟩
    · intro j v hv
      have hjl := (List.getElem?_eq_some_iff.1 hv).1
      rw [← hv, ← hat j (by omega), add_add]
/-- As above, and what was read takes no more bytes than memory has. -/
def FieldsSayW (enc : TypeId × Value → H) (P : Program) (w : World) (base : Nat) (spare : Nat → Bool) (held : Bool) (fs : Array Field) (Q : List Value → Prop) : Prop :=
  ∀ n (cs : List Value), cs.length = fs.size → (∀ (j : Nat) (f : Field) (v : Value), fs[j]? = some f → cs[j]? = some v → ∃ y, DataW.trod enc P w base spare held n f.type [v] = some y ∧ (y.1.weights P f.type).all (· ≤ reachBytes) = true) → Q cs
theorem weightsAll_mem {e : TypeId} : ∀ {ds : List (DataW H)} {d : DataW H}, d ∈ ds → ∀ n ∈ d.weights P e, n ∈ DataW.weightsAll P e ds
  | d0 :: ds, d, h, n, hn => by
    simp only [DataW.weightsAll, List.mem_append]
    rcases List.mem_cons.1 h with rfl | h
    · exact .inl hn
    · exact .inr (weightsAll_mem h n hn)
theorem open_rowsW {t e : TypeId} {fs : Array Field} {fuel : Nat} {a : Option Addr} {len cap : Nat} {x : DataW H × List MemPlace} {Q : List Value → Prop} (ht : P.underlying t = some (.slice e)) (he : P.underlying e = some (.struct fs))
    (hone : oneCellFields P fs = true) (hC : P.cellsOf e = fs.size) (hsz : (x.1.weights P t).all (· ≤ reachBytes) = true) (hQ : FieldsSayW enc P w base spare held fs Q) (h : DataW.trod enc P w base spare held fuel t [.slice a len cap] = some x) : IsRows fs.size Q w a len ∧ len ≤ cap := by
  rcases open_slice ht h with ⟨h0, _⟩ | ⟨b, l, c, m, n, D, Pl, hcs, hb, hl, hm, hmm, hx, hi'⟩
  · simp only [List.cons.injEq, Value.slice.injEq, and_true] at h0
    exact ⟨fun i hi => by omega, by omega⟩
  · simp only [List.cons.injEq, Value.slice.injEq, and_true] at hcs
    obtain ⟨rfl, rfl, rfl⟩ := hcs
    refine ⟨fun i hi => ?_, hl⟩
    obtain ⟨cs, hc, htr⟩ := hi' i (by rw [hmm]; split <;> omega)
    have hwD : ((D i).weights P e).all (· ≤ reachBytes) = true := by
      rw [List.all_eq_true] at hsz ⊢
      intro q hq
      refine hsz q ?_
      rw [hx]
      simp only [DataW.weights, ht, List.mem_cons, List.mem_append]
      exact .inr (.inl (weightsAll_mem (List.mem_map.2 ⟨i, List.mem_range.2 hi, rfl⟩) q hq))
    obtain ⟨ys, n', _, hxe, hlen, hyl, hf⟩ := DataW.trod_struct he htr
    obtain ⟨_, hcl, hat⟩ := World.cells?_some hc
    rw [hC] at hcl hat
    refine ⟨b, cs, rfl, hcl, hQ n' cs hcl ?_, ?_⟩
    · intro j f v hj hv
      obtain ⟨ho, hk⟩ := hone_of hone j f hj
      have hjl : j < fs.size := (Array.getElem?_eq_some_iff.1 hj).1
      have h1 := hf j f hj
      have h2 : (cs.drop j).take 1 = [v] := by
        obtain ⟨hjl', hv'⟩ := List.getElem?_eq_some_iff.1 hv
        rw [List.drop_eq_getElem_cons hjl', hv']; rfl
      rw [ho, hk, h2, List.getElem?_eq_getElem (show j < ys.length by omega)] at h1
      refine ⟨_, h1, ?_⟩
      have hDe : D i = .agg (ys.map (·.1)) := by
        have := congrArg Prod.fst hxe
        simpa using this
      rw [hDe] at hwD
      simp only [DataW.weights, he] at hwD
      rw [List.all_eq_true] at hwD ⊢
      intro q hq
      refine hwD q (DataW.weights_mem_each (j := j) (t := f.type) (d := (ys[j]'(by omega)).1) ?_ ?_ q hq)
      · rw [List.getElem?_map, Array.getElem?_toList, hj]; rfl
      · rw [List.getElem?_map, List.getElem?_eq_getElem (show j < ys.length by omega)]; rfl
    · intro j v hv
      have hjl := (List.getElem?_eq_some_iff.1 hv).1
      rw [← hv, ← hat j (by omega), add_add]
/-- A slice of one-celled elements: what an element says, its cell says. -/
theorem open_cells {t e : TypeId} {fuel : Nat} {a : Option Addr} {len cap : Nat} {x : DataW H × List MemPlace} {Q : List Value → Prop} (ht : P.underlying t = some (.slice e)) (hC : P.cellsOf e = 1)
    (hQ : ∀ n v y, DataW.trod enc P w base spare held n e [v] = some y → Q [v]) (h : DataW.trod enc P w base spare held fuel t [.slice a len cap] = some x) : IsRows 1 Q w a len := by
  intro i hi
  rcases open_slice ht h with ⟨h0, _⟩ | ⟨b, l, c, m, n, D, Pl, hcs, hb, hl, hm, hmm, hx, hi'⟩
  · simp only [List.cons.injEq, Value.slice.injEq] at h0; omega
  · simp only [List.cons.injEq, Value.slice.injEq, and_true] at hcs
    obtain ⟨rfl, rfl, rfl⟩ := hcs
    obtain ⟨cs, hc, htr⟩ := hi' i (by rw [hmm]; split <;> omega)
    obtain ⟨_, hcl, hat⟩ := World.cells?_some hc
    rw [hC] at hcl hat
    obtain ⟨v, rfl⟩ : ∃ v, cs = [v] := List.length_eq_one_iff.1 hcl
    refine ⟨b, [v], rfl, rfl, hQ _ v _ htr, ?_⟩
    intro j u hu
    have hjl := (List.getElem?_eq_some_iff.1 hu).1
    rw [← hu, ← hat j hjl, add_add]
end
end Vc

/- The statement PackidxReadsSaid of this seat: for every input the law returns true and its arguments read as they did. No condition. -/
namespace Go.Proofs.Ytoagdpjickippaa.packidxReads
open Go.ChangeShapes Go.WideShapes Go.ChangeAt Go.RowKit
open Go.ChangeMaps (open_string shut_string)
set_option linter.unusedVariables false

theorem own : ownKnob Try.prog.godebug = none := by kernel_rfl
theorem laidOut : laidOutB Try.prog = true := by kernel_rfl

set_option maxRecDepth 100000 in
theorem lifted (os : Os) (started : os.Started) (H : Type) (enc : TypeId × Value → H) :
    ReturnsInHanded {} Try.checked os 4 .any (Rows.packidxReadsSpec.pre6 enc Try.prog Try.f4 Rows.packidxReadsRow.domain false) (Rows.packidxReadsSpec.post enc Try.prog Try.f4 false true false false) := by
  refine returnsInHanded_of_change_sized (C := Try.checked) own started (by kernel_rfl) Try.func4
    (ChangeSpec.witness6 (enc := enc) (C := Try.checked) false ⟨#[], #[.string ByteArray.empty, .string ByteArray.empty], []⟩ 8 (by kernel_rfl) (by kernel_rfl) (by kernel_rfl) (by kernel_rfl)) ?_
  intro W base args ds gs before hval0 hW hcnd hsz _
  have hval : ∀ (j : Nat) t v, Try.f4.params[j]? = some t → args[j]? = some v → Value.okWide Try.prog W .any base t v := hval0
  have hW' := hW
  obtain ⟨p, q, hA0, hV, rfl, hfz, hnd⟩ := hW
  have hA : DataW.TrodAll enc Try.prog W 0 (fun _ => true) true Try.f4.params.toList args.toList ds p := hA0
  rw [Try.params4] at hA hval
  obtain ⟨v0, vs0, d0, ds0, p0, q0, hargs, rfl, rfl, h0, r0⟩ := trodAll_cons hA
  obtain ⟨v1, vs1, d1, ds1, p1, q1, rfl, rfl, rfl, h1, r1⟩ := trodAll_cons r0
  obtain ⟨rfl, rfl, rfl⟩ := trodAll_nil r1
  obtain rfl : args = #[v0, v1] := by cases args; simp_all
  obtain ⟨rfl, rfl⟩ := trodVars_none hV
  obtain ⟨a0, rfl, rfl, rfl, w0⟩ := open_string Try.underlying9 (hval 0 9 v0 rfl rfl) h0
  have b0 : a0.size ≤ reachBytes := by have := sized_string hsz (j := 0) (t := 9) rfl rfl; simpa using this
  obtain ⟨a1, rfl, rfl, rfl, w1⟩ := open_string Try.underlying9 (hval 1 9 v1 rfl rfl) h1
  have b1 : a1.size ≤ reachBytes := by have := sized_string hsz (j := 1) (t := 9) rfl rfl; simpa using this
  clear hA0 hval0
  refine (reads12_walk a0 a1 W).mono fun e W' ⟨he, bel⟩ => ?_
  subst he
  exact ⟨_, rfl, _, _, _, [], _, [], hW', trodAll_mk1 (shut_bool Try.underlying4 _), (trodAll_cons_mk (shut_string Try.underlying9 w0) (trodAll_cons_mk (shut_string Try.underlying9 w1) trodAll_mk0)), rfl, bel.frame _, fun h => by cases h⟩

theorem over : Rows.packidxReadsRow.holds Try.pinned (OpenSpec.ofChange Rows.packidxReadsSpec) :=
  OpenClaim.holds_of_wide 4 Try.f4 rfl rfl rfl rfl rfl rfl rfl ⟨rfl, rfl, rfl, rfl, rfl⟩ rfl rfl rfl rfl rfl (by kernel_rfl) Try.func4 (by kernel_rfl)
    (of_decide_eq_true (by kernel_rfl)) (by unfold Func.isWrapper; first | (rw [if_pos (by decide +kernel)]; kernel_rfl) | (rw [if_neg (by decide +kernel)]; exact ⟨rfl, rfl⟩))
    (fun os started H enc _ => lifted os started H enc)

/-- The statement. -/
theorem proved : Rows.PackidxReadsSaid := over
#print axioms proved
end Go.Proofs.Ytoagdpjickippaa.packidxReads

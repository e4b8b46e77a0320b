/- Texts of this seat in one: made by a program of ours. -/
import Derived.Test.YtoagdpjickippaaPackidxBuildsQ0
import Derived.Test.YtoagdpjickippaaPackidxBuildsQ1
import Derived.Test.YtoagdpjickippaaPackidxBuildsQ2
import Derived.Shelf.SlSortCmp.WholeK
import Derived.Test.YtoagdpjickippaaProg
import Derived.Shelf.SlSortCmp.NoneTotal
/- Names looked for in an index: At, Find, Match. Conditions: the rows rise. -/
set_option linter.unusedVariables false
namespace Go.Proofs.Ytoagdpjickippaa
open Go Vc HexM SumM ShaM Go.Proofs

theorem riseP_lt {xs : List PRow} (h : RiseP xs) {i j : Nat} {x y : PRow} (hx : xs[i]? = some x) (hy : xs[j]? = some y) (hij : i ≤ j) {p : List UInt8} (hp : y.1.data.toList < p) : x.1.data.toList < p := by
  by_cases he : i = j
  · subst he; rw [hx] at hy; cases hy; exact hp
  · have := (List.pairwise_iff_getElem.1 h) i j (List.getElem?_eq_some_iff.1 hx).1 (List.getElem?_eq_some_iff.1 hy).1 (by omega)
    rw [(List.getElem?_eq_some_iff.1 hx).2, (List.getElem?_eq_some_iff.1 hy).2] at this
    exact List.lt_trans this hp
theorem cmpfind_spec (x : PRow) (t : ByteArray) (w : World) : Calls Try.prog F_packidx_Idx_Find_1 #[.agg (encP x).toArray, .string t] w fun e w' => e = .returned (.int .i64 (Lib.compareBytes x.1.data.toList t.data.toList)) ∧ Fr (fun _ => False) w w' := by
  refine vc_packidx_Idx_Find_1_ok (R := fun v w' => v = .int .i64 (Lib.compareBytes x.1.data.toList t.data.toList) ∧ Fr (fun _ => False) w w') ?_ (fun v w' h => ⟨by rw [h.1], h.2⟩)
  intro w1 h1
  have hf1 : Fr (fun _ => False) w w1 := by rw [h1]; exact .alloc _ _ _
  have hb1 : w1.heap[w.heap.size]? = some (.cells (encP x).toArray T_packidx_Row (0, 0)) := by rw [h1]; exact alloc_new _ _
  refine ⟨x.1, by rw [cell_blk hb1]; rfl, (compare_spec _ _ w1).mono ?_⟩
  rintro e w4 ⟨rfl, hw⟩
  replace hw := hw.symm
  subst hw
  exact ⟨_, rfl, rfl, hf1⟩
theorem searchfind_spec {w : World} {a : Option Addr} {n c : Nat} {xs : List PRow} (hr : ReadsK encP 3 w a xs) (hn : xs.length = n) (hl : n ≤ 1000000) (hs : RiseP xs) (t : ByteArray) :
    Calls Try.prog 28 #[.slice a n c, .string t, .func (.func F_packidx_Idx_Find_1) #[] #[]] w fun e w' =>
      ∃ i : Nat, i ≤ n ∧ e = .returned (.tuple #[.int .i64 i, .bool (match xs[i]? with | some x => decide (x.1 = t) | none => false)]) ∧ (∀ k x, xs[k]? = some x → (x.1.data.toList < t.data.toList ↔ k < i)) ∧ Fr (fun _ => False) w w' := by
  refine vc_slices_BinarySearchFunc_find_ok (R := fun v w' => ∃ i : Nat, i ≤ n ∧ v = .tuple #[.int .i64 i, .bool (match xs[i]? with | some x => decide (x.1 = t) | none => false)] ∧ (∀ k x, xs[k]? = some x → (x.1.data.toList < t.data.toList ↔ k < i)) ∧ Fr (fun _ => False) w w') ?_ (fun v w' ⟨i, h0, h, h2⟩ => ⟨i, h0, by rw [h], h2⟩)
  refine ⟨fun i j w' => ∃ p q : Nat, i = p ∧ j = q ∧ p ≤ q ∧ q ≤ n ∧ (∀ k x, xs[k]? = some x → k < p → x.1.data.toList < t.data.toList) ∧ (∀ k x, xs[k]? = some x → q ≤ k → ¬ x.1.data.toList < t.data.toList) ∧ Fr (fun _ => False) w w', fun i j _ => j.toNat - i.toNat,
    ⟨0, n, rfl, rfl, Nat.zero_le _, Nat.le_refl _, fun k x _ h => by omega, fun k x hx h => by have := (List.getElem?_eq_some_iff.1 hx).1; omega, .refl _ _⟩, ?_⟩
  rintro i j w5 ⟨p, q, rfl, rfl, hpq, hqn, hlo, hhi, hf⟩
  refine ⟨fun hlt => ⟨by decide, ?_⟩, fun hge => ?_⟩
  · have hlt := of_decide_eq_true hlt
    have e1 : IntKind.i64.wrap (Int.fdiv (IntKind.u64.wrap (IntKind.i64.wrap ((p : Int) + (q : Int)))) (2 ^ min (Int.toNat 1) 64)) = (((p + q) / 2 : Nat) : Int) := by
      rw [wrap_i64 (x := (p : Int) + (q : Int)) (by omega) (by omega), wrap_u64 (by omega) (by omega), show (2 : Int) ^ min (Int.toNat 1) 64 = 2 by decide, Int.fdiv_eq_ediv_of_nonneg _ (by omega), wrap_i64 (by omega) (by omega)]
      omega
    have hm : (p + q) / 2 < xs.length := by omega
    obtain ⟨m, hme⟩ : ∃ m, (p + q) / 2 = m := ⟨_, rfl⟩
    have e2 : IntKind.i64.wrap ((m : Int) + 1) = ((m + 1 : Nat) : Int) := by rw [wrap_i64 (by omega) (by omega)]; omega
    rw [hme] at e1 hm
    rw [e1, e2]
    have hx : xs[m]? = some xs[m] := List.getElem?_eq_getElem hm
    generalize xs[m] = x at hx
    obtain ⟨ad, had, hld⟩ := (hr.keep hf (by simp)).load elP hx
    refine ⟨⟨by omega, by omega⟩, ad, had, x.1, x.2.1, x.2.2, by rw [Int.toNat_natCast]; exact hld, (cmpfind_spec x t w5).mono ?_⟩
    rintro e w11 ⟨rfl, hf11⟩
    have hf11' := hf.trans' hf11
    refine ⟨_, rfl, fun hc => ⟨⟨m + 1, q, rfl, rfl, by omega, hqn, fun k y hy hk => ?_, hhi, hf11'⟩, by dsimp only; omega⟩, fun hc => ⟨⟨p, m, rfl, rfl, by omega, by omega, hlo, fun k y hy hk hlt' => ?_, hf11'⟩, by dsimp only; omega⟩⟩
    · exact riseP_lt hs hy hx (by omega) ((cmp_lt _ _).1 (of_decide_eq_true hc))
    · exact of_decide_eq_false hc ((cmp_lt _ _).2 (riseP_lt hs hx hy hk hlt'))
  · have hge := of_decide_eq_false hge
    have hpq' : p = q := by omega
    subst hpq'
    have hiff : ∀ k x, xs[k]? = some x → (x.1.data.toList < t.data.toList ↔ k < p) := fun k x hx => ⟨fun h => by
      by_cases hk : k < p
      · exact hk
      · exact absurd h (hhi k x hx (by omega)), hlo k x hx⟩
    refine ⟨fun hlt => ?_, fun hlt => ⟨p, hqn, ?_, hiff, hf⟩⟩
    · have hlt := of_decide_eq_true hlt
      have hm : p < xs.length := by omega
      have hx : xs[p]? = some xs[p] := List.getElem?_eq_getElem hm
      generalize xs[p] = x at hx
      obtain ⟨ad, had, hld⟩ := (hr.keep hf (by simp)).load elP hx
      refine ⟨⟨by omega, by omega⟩, ad, had, x.1, x.2.1, x.2.2, by rw [Int.toNat_natCast]; exact hld, (cmpfind_spec x t w5).mono ?_⟩
      rintro e w18 ⟨rfl, hf18⟩
      refine ⟨_, rfl, p, hqn, ?_, hiff, hf.trans' hf18⟩
      rw [hx]
      have : (Lib.compareBytes x.1.data.toList t.data.toList == 0) = decide (x.1 = t) := by
        rw [Bool.eq_iff_iff, beq_iff_eq, decide_eq_true_eq]
        exact (cmp_zero _ _).trans ⟨fun h => bs_ext h, fun h => by rw [h]⟩
      rw [this]
    · have hlt := of_decide_eq_false hlt
      rw [List.getElem?_eq_none (by omega)]
theorem cmpmatch_spec (x : PRow) (t : ByteArray) (w : World) : Calls Try.prog F_packidx_Idx_Match_1 #[.agg (encP x).toArray, .string t] w fun e w' => e = .returned (.int .i64 (Lib.compareBytes x.1.data.toList t.data.toList)) ∧ Fr (fun _ => False) w w' := by
  refine vc_packidx_Idx_Match_1_ok (R := fun v w' => v = .int .i64 (Lib.compareBytes x.1.data.toList t.data.toList) ∧ Fr (fun _ => False) w w') ?_ (fun v w' h => ⟨by rw [h.1], h.2⟩)
  intro w1 h1
  have hf1 : Fr (fun _ => False) w w1 := by rw [h1]; exact .alloc _ _ _
  have hb1 : w1.heap[w.heap.size]? = some (.cells (encP x).toArray T_packidx_Row (0, 0)) := by rw [h1]; exact alloc_new _ _
  refine ⟨x.1, by rw [cell_blk hb1]; rfl, (compare_spec _ _ w1).mono ?_⟩
  rintro e w4 ⟨rfl, hw⟩
  replace hw := hw.symm
  subst hw
  exact ⟨_, rfl, rfl, hf1⟩
theorem searchmatch_spec {w : World} {a : Option Addr} {n c : Nat} {xs : List PRow} (hr : ReadsK encP 3 w a xs) (hn : xs.length = n) (hl : n ≤ 1000000) (hs : RiseP xs) (t : ByteArray) :
    Calls Try.prog 28 #[.slice a n c, .string t, .func (.func F_packidx_Idx_Match_1) #[] #[]] w fun e w' =>
      ∃ i : Nat, i ≤ n ∧ e = .returned (.tuple #[.int .i64 i, .bool (match xs[i]? with | some x => decide (x.1 = t) | none => false)]) ∧ (∀ k x, xs[k]? = some x → (x.1.data.toList < t.data.toList ↔ k < i)) ∧ Fr (fun _ => False) w w' := by
  refine vc_slices_BinarySearchFunc_match_ok (R := fun v w' => ∃ i : Nat, i ≤ n ∧ v = .tuple #[.int .i64 i, .bool (match xs[i]? with | some x => decide (x.1 = t) | none => false)] ∧ (∀ k x, xs[k]? = some x → (x.1.data.toList < t.data.toList ↔ k < i)) ∧ Fr (fun _ => False) w w') ?_ (fun v w' ⟨i, h0, h, h2⟩ => ⟨i, h0, by rw [h], h2⟩)
  refine ⟨fun i j w' => ∃ p q : Nat, i = p ∧ j = q ∧ p ≤ q ∧ q ≤ n ∧ (∀ k x, xs[k]? = some x → k < p → x.1.data.toList < t.data.toList) ∧ (∀ k x, xs[k]? = some x → q ≤ k → ¬ x.1.data.toList < t.data.toList) ∧ Fr (fun _ => False) w w', fun i j _ => j.toNat - i.toNat,
    ⟨0, n, rfl, rfl, Nat.zero_le _, Nat.le_refl _, fun k x _ h => by omega, fun k x hx h => by have := (List.getElem?_eq_some_iff.1 hx).1; omega, .refl _ _⟩, ?_⟩
  rintro i j w5 ⟨p, q, rfl, rfl, hpq, hqn, hlo, hhi, hf⟩
  refine ⟨fun hlt => ⟨by decide, ?_⟩, fun hge => ?_⟩
  · have hlt := of_decide_eq_true hlt
    have e1 : IntKind.i64.wrap (Int.fdiv (IntKind.u64.wrap (IntKind.i64.wrap ((p : Int) + (q : Int)))) (2 ^ min (Int.toNat 1) 64)) = (((p + q) / 2 : Nat) : Int) := by
      rw [wrap_i64 (x := (p : Int) + (q : Int)) (by omega) (by omega), wrap_u64 (by omega) (by omega), show (2 : Int) ^ min (Int.toNat 1) 64 = 2 by decide, Int.fdiv_eq_ediv_of_nonneg _ (by omega), wrap_i64 (by omega) (by omega)]
      omega
    have hm : (p + q) / 2 < xs.length := by omega
    obtain ⟨m, hme⟩ : ∃ m, (p + q) / 2 = m := ⟨_, rfl⟩
    have e2 : IntKind.i64.wrap ((m : Int) + 1) = ((m + 1 : Nat) : Int) := by rw [wrap_i64 (by omega) (by omega)]; omega
    rw [hme] at e1 hm
    rw [e1, e2]
    have hx : xs[m]? = some xs[m] := List.getElem?_eq_getElem hm
    generalize xs[m] = x at hx
    obtain ⟨ad, had, hld⟩ := (hr.keep hf (by simp)).load elP hx
    refine ⟨⟨by omega, by omega⟩, ad, had, x.1, x.2.1, x.2.2, by rw [Int.toNat_natCast]; exact hld, (cmpmatch_spec x t w5).mono ?_⟩
    rintro e w11 ⟨rfl, hf11⟩
    have hf11' := hf.trans' hf11
    refine ⟨_, rfl, fun hc => ⟨⟨m + 1, q, rfl, rfl, by omega, hqn, fun k y hy hk => ?_, hhi, hf11'⟩, by dsimp only; omega⟩, fun hc => ⟨⟨p, m, rfl, rfl, by omega, by omega, hlo, fun k y hy hk hlt' => ?_, hf11'⟩, by dsimp only; omega⟩⟩
    · exact riseP_lt hs hy hx (by omega) ((cmp_lt _ _).1 (of_decide_eq_true hc))
    · exact of_decide_eq_false hc ((cmp_lt _ _).2 (riseP_lt hs hx hy hk hlt'))
  · have hge := of_decide_eq_false hge
    have hpq' : p = q := by omega
    subst hpq'
    have hiff : ∀ k x, xs[k]? = some x → (x.1.data.toList < t.data.toList ↔ k < p) := fun k x hx => ⟨fun h => by
      by_cases hk : k < p
      · exact hk
      · exact absurd h (hhi k x hx (by omega)), hlo k x hx⟩
    refine ⟨fun hlt => ?_, fun hlt => ⟨p, hqn, ?_, hiff, hf⟩⟩
    · have hlt := of_decide_eq_true hlt
      have hm : p < xs.length := by omega
      have hx : xs[p]? = some xs[p] := List.getElem?_eq_getElem hm
      generalize xs[p] = x at hx
      obtain ⟨ad, had, hld⟩ := (hr.keep hf (by simp)).load elP hx
      refine ⟨⟨by omega, by omega⟩, ad, had, x.1, x.2.1, x.2.2, by rw [Int.toNat_natCast]; exact hld, (cmpmatch_spec x t w5).mono ?_⟩
      rintro e w18 ⟨rfl, hf18⟩
      refine ⟨_, rfl, p, hqn, ?_, hiff, hf.trans' hf18⟩
      rw [hx]
      have : (Lib.compareBytes x.1.data.toList t.data.toList == 0) = decide (x.1 = t) := by
        rw [Bool.eq_iff_iff, beq_iff_eq, decide_eq_true_eq]
        exact (cmp_zero _ _).trans ⟨fun h => bs_ext h, fun h => by rw [h]⟩
      rw [this]
    · have hlt := of_decide_eq_false hlt
      rw [List.getElem?_eq_none (by omega)]
/-- A row in a block of its own. -/
theorem boxP_new (w : World) : w.alloc (.cells #[.string ⟨#[]⟩, .int .i64 0, .int .u32 0] T_packidx_Row) = w.alloc (.cells (encP (⟨#[]⟩, 0, 0)).toArray T_packidx_Row) := rfl
theorem boxP_store {w : World} {g : Nat} {cs : Array Value} (h : w.heap[g]? = some (.cells cs T_packidx_Row (0, 0))) (hc : cs.size = 3) (x : PRow) :
    ∃ w', (storeVar T_packidx_Row ⟨g, 0, none⟩ (.agg #[.string x.1, .int .i64 x.2.1, .int .u32 x.2.2])).run Try.prog w = .ok () w' ∧ w'.heap[g]? = some (.cells (encP x).toArray T_packidx_Row (0, 0)) ∧ Fr (· = g) w w' :=
  ⟨_, run_storeVar_row (P := Try.prog) w g T_packidx_Row T_packidx_Row _ (encP x).toArray h (by kernel_rfl) (by rw [hc]; rfl) (by simp [encP, Value.oneCell']), setRow_heap w g _ (encP x).toArray T_packidx_Row (0, 0) h, setRow_fr (· = g) w g _ rfl⟩
theorem boxP_load {w : World} {g : Nat} {x : PRow} (h : w.heap[g]? = some (.cells (encP x).toArray T_packidx_Row (0, 0))) : (loadVar T_packidx_Row ⟨g, 0, none⟩).run Try.prog w = .ok (.agg #[.string x.1, .int .i64 x.2.1, .int .u32 x.2.2]) w :=
  load_agg (vs := encP x) (agg_of (by kernel_rfl)) (by kernel_rfl) fun k v hv => by rw [add_lit, Nat.zero_add, cell_blk h]; simpa [encP] using hv
def encPv (x : PRow) : Value := .agg #[.string x.1, .int .i64 x.2.1, .int .u32 x.2.2]
section
variable {w : World} {b : Nat} {rows : List PRow} {sum : ByteArray}
theorem len_spec (h : IsIdx w b rows sum) : Calls Try.prog F_packidx_Idx_Len #[.pointer (some ⟨b, 0, none⟩)] w fun e w' => e = .returned (.int .i64 (rows.length : Nat)) ∧ w' = w := by
  refine vc_packidx_Idx_Len_ok (R := fun v w' => v = .int .i64 (rows.length : Nat) ∧ w' = w) ?_ (fun v w' h => ⟨by rw [h.1], h.2⟩)
  obtain ⟨l, F, h1, h2, h3⟩ := h.at_
  exact ⟨l, h1.rowsC, by rw [h3], rfl⟩
theorem sumP_spec (h : IsIdx w b rows sum) : Calls Try.prog F_packidx_Idx_Sum #[.pointer (some ⟨b, 0, none⟩)] w fun e w' => e = .returned (.string sum) ∧ w' = w := by
  refine vc_packidx_Idx_Sum_ok (R := fun v w' => v = .string sum ∧ w' = w) ?_ (fun v w' h => ⟨by rw [h.1], h.2⟩)
  obtain ⟨l, F, h1, h2, h3⟩ := h.at_
  exact ⟨sum, h1.sumC, rfl, rfl⟩
theorem atP_spec (h : IsIdx w b rows sum) (hl : rows.length ≤ 1000000) (i : Int) : Calls Try.prog F_packidx_Idx_At #[.pointer (some ⟨b, 0, none⟩), .int .i64 i] w fun e w' =>
    e = .returned (if 0 ≤ i then (match rows[i.toNat]? with | some x => .tuple #[encPv x, .int .i64 0] | none => .tuple #[encPv (⟨#[]⟩, 0, 0), .int .i64 7]) else .tuple #[encPv (⟨#[]⟩, 0, 0), .int .i64 7]) ∧ Fr (fun _ => False) w w' := by
  refine vc_packidx_Idx_At_ok (R := fun v w' => v = (if 0 ≤ i then (match rows[i.toNat]? with | some x => .tuple #[encPv x, .int .i64 0] | none => .tuple #[encPv (⟨#[]⟩, 0, 0), .int .i64 7]) else .tuple #[encPv (⟨#[]⟩, 0, 0), .int .i64 7]) ∧ Fr (fun _ => False) w w') ?_ (fun v w' h => ⟨by rw [h.1], h.2⟩)
  intro w1 h1
  have hf1 : Fr (fun _ => False) w w1 := by rw [h1]; exact .alloc _ _ _
  have hb1 : w1.heap[w.heap.size]? = some (.cells (encP (⟨#[]⟩, 0, 0)).toArray T_packidx_Row (0, 0)) := by rw [h1]; exact alloc_new _ _
  clear h1
  obtain ⟨l, F, k1, k2, k3⟩ := (h.keep hf1).at_
  have back : ∀ {w2 : World}, Fr (· = w.heap.size) w1 w2 → Fr (fun _ => False) w w2 := fun hf => hf1.trans hf fun q hq e => by omega
  refine ⟨fun hlt => ?_, fun hge => ⟨l, k1.rowsC, fun hbig => ?_, fun hsm => ⟨l, k1.rowsC, ?_⟩⟩⟩
  · have hlt := of_decide_eq_true hlt
    obtain ⟨w2, hst, hb2, hf2⟩ := boxP_store hb1 rfl (⟨#[]⟩, 0, 0)
    exact ⟨w2, hst, _, _, _, boxP_load hb2, by rw [if_neg (by omega)]; rfl, back hf2⟩
  · have hge := of_decide_eq_false hge
    have hbig := of_decide_eq_true hbig
    obtain ⟨w2, hst, hb2, hf2⟩ := boxP_store hb1 rfl (⟨#[]⟩, 0, 0)
    exact ⟨w2, hst, _, _, _, boxP_load hb2, by rw [if_pos (by omega), List.getElem?_eq_none (by omega)]; rfl, back hf2⟩
  · have hge := of_decide_eq_false hge
    have hsm := of_decide_eq_false hsm
    have hi : i.toNat < rows.length := by omega
    have hx : rows[i.toNat]? = some rows[i.toNat] := List.getElem?_eq_getElem hi
    generalize rows[i.toNat] = x at hx
    obtain ⟨ad, had, hld⟩ := k2.load elP hx
    obtain ⟨w2, hst, hb2, hf2⟩ := boxP_store hb1 rfl x
    exact ⟨⟨by omega, by omega⟩, ad, had, x.1, x.2.1, x.2.2, hld, w2, hst, _, _, _, boxP_load hb2, by rw [if_pos (by omega), hx]; rfl, back hf2⟩
/-- What is found under a name. -/
def findP (rows : List PRow) (id : ByteArray) : Option PRow := rows.find? fun x => decide (x.1 = id)
theorem findP_spec (h : IsIdx w b rows sum) (hl : rows.length ≤ 1000000) (hs : RiseP rows) (id : ByteArray) : Calls Try.prog F_packidx_Idx_Find #[.pointer (some ⟨b, 0, none⟩), .string id] w fun e w' =>
    e = .returned (match findP rows id with | some x => .tuple #[encPv x, .int .i64 0] | none => .tuple #[encPv (⟨#[]⟩, 0, 0), .int .i64 7]) ∧ Fr (fun _ => False) w w' := by
  refine vc_packidx_Idx_Find_ok (R := fun v w' => v = (match findP rows id with | some x => .tuple #[encPv x, .int .i64 0] | none => .tuple #[encPv (⟨#[]⟩, 0, 0), .int .i64 7]) ∧ Fr (fun _ => False) w w') ?_ (fun v w' h => ⟨by rw [h.1], h.2⟩)
  intro w1 h1
  have hf1 : Fr (fun _ => False) w w1 := by rw [h1]; exact .alloc _ _ _
  have hb1 : w1.heap[w.heap.size]? = some (.cells (encP (⟨#[]⟩, 0, 0)).toArray T_packidx_Row (0, 0)) := by rw [h1]; exact alloc_new _ _
  clear h1
  obtain ⟨l, F, k1, k2, k3⟩ := (h.keep hf1).at_
  refine ⟨l, k1.rowsC, (searchfind_spec k2 k3 (by omega) hs id).mono ?_⟩
  rintro e w4 ⟨i, hi, rfl, hiff, hf4⟩
  have hb4 := hf4.keep hb1 (by simp)
  have back : ∀ {w2 : World}, Fr (· = w.heap.size) w4 w2 → Fr (fun _ => False) w w2 := fun hf => (hf1.trans' hf4).trans hf fun q hq e => by omega
  refine ⟨_, _, rfl, fun hno => ?_, fun hyes => ⟨l, (k1.keep hf4 (by simp)).rowsC, ?_⟩⟩
  · have hnf : findP rows id = none := by
      unfold findP
      rw [List.find?_eq_none]
      intro x hx
      obtain ⟨k, hk⟩ := List.mem_iff_getElem?.1 hx
      intro he
      have he : x.1 = id := by simpa using he
      have h1 : ¬ k < i := fun hki => by
        have := (hiff k x hk).2 hki
        rw [he] at this; exact List.lt_irrefl _ this
      have hki : k = i := by
        rcases Nat.lt_or_ge i k with h2 | h2
        · exfalso
          have hil : i < rows.length := by have := (List.getElem?_eq_some_iff.1 hk).1; omega
          have h3 : ¬ rows[i].1.data.toList < id.data.toList := fun h4 => by have := (hiff i _ (List.getElem?_eq_getElem hil)).1 h4; omega
          have h5 := (List.pairwise_iff_getElem.1 hs) i k hil (List.getElem?_eq_some_iff.1 hk).1 h2
          rw [(List.getElem?_eq_some_iff.1 hk).2, he] at h5
          exact h3 h5
        · omega
      subst hki
      rw [hk] at hno
      simp [he] at hno
    obtain ⟨w2, hst, hb2, hf2⟩ := boxP_store hb4 rfl (⟨#[]⟩, 0, 0)
    exact ⟨w2, hst, _, _, _, boxP_load hb2, by rw [hnf]; rfl, back hf2⟩
  · cases hx : rows[i]? with
    | none => rw [hx] at hyes; simp at hyes
    | some x =>
      rw [hx] at hyes
      have he : x.1 = id := by simpa using hyes
      have hil := (List.getElem?_eq_some_iff.1 hx).1
      have hf : findP rows id = some x := by
        unfold findP
        have hsp : rows = rows.take i ++ (x :: rows.drop (i + 1)) := by
          have := List.drop_eq_getElem_cons hil
          rw [(List.getElem?_eq_some_iff.1 hx).2] at this
          rw [← this, List.take_append_drop]
        rw [hsp, List.find?_append, List.find?_eq_none.2 (fun y hy => ?_)]
        · simp [he]
        · obtain ⟨k, hk⟩ := List.mem_iff_getElem?.1 hy
          rw [List.getElem?_take] at hk
          split at hk
          · rename_i hki
            have := (hiff k y hk).2 hki
            intro e
            have e : y.1 = id := by simpa using e
            rw [e] at this; exact List.lt_irrefl _ this
          · cases hk
      obtain ⟨ad, had, hld⟩ := (k2.keep hf4 (by simp)).load elP hx
      obtain ⟨w2, hst, hb2, hf2⟩ := boxP_store hb4 rfl x
      exact ⟨⟨by omega, by omega⟩, ad, had, x.1, x.2.1, x.2.2, by rw [Int.toNat_natCast]; exact hld, w2, hst, _, _, _, boxP_load hb2, by rw [hf]; rfl, back hf2⟩
/-- The names that begin so. -/
def matchP (rows : List PRow) (front : ByteArray) : List ByteArray := (rows.filter fun x => begB x.1 front).map (·.1)
theorem matchP_spec (h : IsIdx w b rows sum) (hl : rows.length ≤ 1000000) (hs : RiseP rows) (front : ByteArray) : Calls Try.prog F_packidx_Idx_Match #[.pointer (some ⟨b, 0, none⟩), .string front] w fun e w' =>
    ∃ o, e = .returned (.slice o.a o.len o.cap) ∧ Vc.Own w' w.heap.size T_string o (strV (matchP rows front)) ∧ Fr (fun _ => False) w w' := by
  refine vc_packidx_Idx_Match_ok (R := fun v w' => ∃ o : Sl, v = .slice o.a o.len o.cap ∧ Vc.Own w' w.heap.size T_string o (strV (matchP rows front)) ∧ Fr (fun _ => False) w w') ?_ (fun v w' ⟨o, h⟩ => ⟨o, by rw [h.1], h.2⟩)
  obtain ⟨l, F, k1, k2, k3⟩ := h.at_
  refine ⟨l, k1.rowsC, (searchmatch_spec k2 k3 (by omega) hs front).mono ?_⟩
  rintro e w3 ⟨i, hin, rfl, hiff, hf3⟩
  refine ⟨_, _, rfl, fun o j w' => ∃ m : Nat, j = m ∧ i ≤ m ∧ m ≤ rows.length ∧ (∀ k x, rows[k]? = some x → i ≤ k → k < m → begB x.1 front = true) ∧ Vc.Own w' w.heap.size T_string o (strV (((rows.take m).drop i).map (·.1))) ∧ Fr (fun _ => False) w w', fun _ j _ => rows.length - j.toNat,
    ⟨i, rfl, Nat.le_refl _, by omega, fun k x _ h1 h2 => by omega, by rw [List.drop_eq_nil_of_le (by rw [List.length_take]; omega)]; exact Vc.Own.nil _ _ _, hf3⟩, ?_⟩
  rintro o j w10 ⟨m, rfl, him, hm, hall, ho, hf⟩
  have hk1 := k1.keep hf (by simp)
  have e1 : IntKind.i64.wrap ((m : Int) + 1) = ((m + 1 : Nat) : Int) := by rw [wrap_i64 (by omega) (by omega)]; omega
  rw [e1]
  have hlow : ∀ k x, rows[k]? = some x → k < i → begB x.1 front = false := fun k x hx hki => by
    have := (hiff k x hx).2 hki
    unfold begB
    refine decide_eq_false fun hp => ?_
    exact absurd this (pre_le _ _ hp)
  have fin : (∀ k x, rows[k]? = some x → m ≤ k → begB x.1 front = false) → matchP rows front = ((rows.take m).drop i).map (·.1) := fun hh => by
    unfold matchP
    rw [filter_mid (fun x : PRow => begB x.1 front) rows him hlow hall hh]
  refine ⟨l, hk1.rowsC, fun hlt => ⟨l, hk1.rowsC, ?_⟩, fun hge => ⟨o, rfl, ?_, hf⟩⟩
  · have hlt := of_decide_eq_true hlt
    have hml : m < rows.length := by omega
    have hx : rows[m]? = some rows[m] := List.getElem?_eq_getElem hml
    generalize rows[m] = x at hx
    obtain ⟨ad, had, hc⟩ := (k2.keep hf (by simp)) m x hx
    have hc0 := hc 0 (.string x.1) rfl
    rw [show (ad.add (m * 3)).add 0 = ad.add (m * 3) by rw [add_add]; rfl] at hc0
    refine ⟨⟨by omega, by omega⟩, ad, had, x.1, by rw [Int.toNat_natCast]; exact hc0, (hasPrefix_spec x.1 front w10).mono ?_⟩
    rintro e w16 ⟨rfl, hw⟩
    replace hw := hw.symm
    subst hw
    refine ⟨_, rfl, fun hb => ⟨l, hk1.rowsC, ⟨by omega, by omega⟩, ad, had, x.1, by rw [Int.toNat_natCast]; exact hc0, fun w21 h21 => ?_⟩, fun hb => ⟨o, rfl, ?_, hf⟩⟩
    · obtain ⟨w22, l23, hr22, ho22, hf22⟩ := grow_str x.1 (by rw [List.length_map, List.length_drop, List.length_take]; omega) ho hf h21
      refine ⟨w22, l23, hr22, ⟨m + 1, rfl, by omega, by omega, fun k y hy h1 h2 => ?_, ?_, hf22⟩, by dsimp only; omega⟩
      · by_cases hkm : k < m
        · exact hall k y hy h1 hkm
        · rw [show k = m by omega, hx] at hy
          cases hy; exact hb
      · have htk : rows.take (m + 1) = rows.take m ++ [x] := by rw [List.take_add_one, hx]; rfl
        rw [htk, List.drop_append_of_le_length (by rw [List.length_take]; omega), List.map_append]
        exact ho22
    · rw [fin fun k y hy hmk => ?_]
      · exact ho
      · by_cases hkm : k = m
        · subst hkm; rw [hx] at hy; cases hy; exact hb
        · cases hyb : begB y.1 front with
          | false => rfl
          | true =>
            exfalso
            have h1 : front.data.toList <+: y.1.data.toList := by unfold begB at hyb; exact of_decide_eq_true hyb
            have h2 : ¬ x.1.data.toList < front.data.toList := fun h => by have := (hiff m x hx).1 h; omega
            have h3 := (List.pairwise_iff_getElem.1 hs) m k hml (List.getElem?_eq_some_iff.1 hy).1 (by omega)
            rw [(List.getElem?_eq_some_iff.1 hx).2, (List.getElem?_eq_some_iff.1 hy).2] at h3
            have h4 := pre_between _ _ _ h2 (List.lt_asymm h3) h1
            unfold begB at hb
            rw [decide_eq_true h4] at hb
            cases hb
  · have hge := of_decide_eq_false hge
    have hm' : m = rows.length := by omega
    rw [fin fun k y hy hmk => by have := (List.getElem?_eq_some_iff.1 hy).1; omega]
    exact ho
end
end Go.Proofs.Ytoagdpjickippaa

/- A slice of the call's own, as the kit's contract of slices.SortFunc wants it, and as it leaves it. No condition. -/
set_option linter.unusedVariables false
set_option linter.unusedSectionVars false
namespace Vc
open Go Go.Proofs Go.Sort Go.Lib
variable {α : Type} [Inhabited α] {enc : α → List Value} {k : Nat} {w : World} {base : Nat} {e : TypeId} {l : Sl} {xs : List α} {g : Nat}
theorem own_row (h : OwnK enc k w base e l xs) (ha : l.a = some ⟨g, 0, none⟩) : ∃ cur, w.heap[g]? = some (.cells cur e (0, 0)) ∧ base ≤ g ∧ l.len ≤ l.cap ∧ l.cap ≤ maxLen ∧ cur.size = l.cap * k ∧ cur.toList.take (l.len * k) = xs.flatMap enc := by
  rcases h.2.2 with ⟨hv, _⟩ | ⟨g', cap, cur, hv, hb, hg, hl, hm, hs, ht⟩
  · simp only [Value.slice.injEq] at hv; rw [ha] at hv; cases hv.1
  · simp only [Value.slice.injEq] at hv
    obtain ⟨h1, _, h3⟩ := hv
    rw [ha] at h1
    cases h1
    subst h3
    exact ⟨cur, hg, hb, hl, hm, hs, ht⟩
theorem flatK_get (hk : ∀ x, (enc x).length = k) (h0 : 0 < k) {j : Nat} (hj : j < xs.length * k) : (xs.flatMap enc)[j]? = some ((flatK enc k xs.toArray)[j]!) := by
  have hl := flat_len hk xs
  obtain ⟨v, hv⟩ : ∃ v, (xs.flatMap enc)[j]? = some v := ⟨_, List.getElem?_eq_getElem (by omega)⟩
  obtain ⟨x, h1, h2⟩ := flat_get' hk h0 xs j v hv
  rw [hv, get_flatK enc k xs.toArray j (by simpa using hj)]
  have e1 : xs.toArray[j / k]! = x := by simp [h1]
  rw [e1]
  simp [h2]
theorem own_holds (hk : ∀ x, (enc x).length = k) (h0 : 0 < k) (h : OwnK enc k w base e l xs) (ha : l.a = some ⟨g, 0, none⟩) : HoldsK enc k w g 0 xs.toArray := fun j hj => by
  rw [size_flatK, List.size_toArray] at hj
  obtain ⟨cur, hg, _⟩ := own_row h ha
  have hr := h.reads hk
  rw [ha] at hr
  have := hr.flat hk h0 j _ (flatK_get hk h0 hj)
  rw [add_lit] at this
  exact ⟨this, by simp [World.frozen?, hg]⟩
theorem sort_fr (m : Nat) (ys : List α) (os : Array Obj) : Fr (· = g) w (sortWorldK enc k w g 0 m ys.toArray os) := by
  refine ⟨rfl, rfl, rfl, ?_, fun q hq hne => ?_⟩
  · simp [sortWorldK, grow, putRowK, putRow, mapBlock, Sort.ahead]
  · unfold sortWorldK
    rw [heap_grow_old _ _ (by simpa [putRowK, putRow, mapBlock, Sort.ahead] using hq)]
    simp only [putRowK, putRow, mapBlock, Sort.ahead, Array.getElem?_modify]
    rw [if_neg (fun e => hne e.symm)]
theorem own_sorted (hk : ∀ x, (enc x).length = k) (h0 : 0 < k) (h : OwnK enc k w base e l xs) (ha : l.a = some ⟨g, 0, none⟩) (m : Nat) (ys : List α) (hl : ys.length = xs.length) (os : Array Obj) : OwnK enc k (sortWorldK enc k w g 0 m ys.toArray os) base e l ys := by
  obtain ⟨cur, hg, hb, hc, hm, hs, ht⟩ := own_row h ha
  have hlen := h.1
  have hfl := flat_len hk ys
  have hkk : l.len * k ≤ l.cap * k := Nat.mul_le_mul_right _ hc
  have hgt := lt_blk hg
  refine ⟨by omega, by rw [hfl, hl, hlen], .inr ⟨g, l.cap, putCells id 0 (flatK enc k ys.toArray) cur, by rw [ha], hb, ?_, hc, hm, by simp [putCells, hs], ?_⟩⟩
  · unfold sortWorldK
    rw [heap_grow_old _ _ (by simpa [putRowK, putRow, mapBlock, Sort.ahead] using hgt)]
    simp only [putRowK, putRow, mapBlock, Sort.ahead, Array.getElem?_modify, if_true, hg]
    rfl
  · apply List.ext_getElem?
    intro j
    by_cases hj : j < l.len * k
    · rw [List.getElem?_take, if_pos hj, flatK_get hk h0 (by rw [hl, hlen]; exact hj)]
      simp only [putCells, Array.getElem?_toList, Array.getElem?_mapIdx]
      rw [Array.getElem?_eq_getElem (by omega)]
      simp only [Option.map_some, Nat.zero_le, true_and, Nat.zero_add, size_flatK, List.size_toArray, Nat.sub_zero, id]
      rw [if_pos (by rw [hl, hlen]; exact hj)]
    · rw [List.getElem?_eq_none (by rw [List.length_take]; omega), List.getElem?_eq_none (by rw [hfl, hl, hlen]; omega)]
end Vc

/- The kit's structure over slices.SortFunc at structs, at this seat (written by a program of the author's, laysort.py, with the kit's lay-plain). No condition. -/
namespace Go.Proofs.Ytoagdpjickippaa
open Go Go.Shelf Go.Proofs
def sortLays_ren : Go.Shelf.Ren := ⟨fun | 6 => 18 | 15 => 43 | 14 => 42 | 28 => 64 | 29 => 65 | 20 => 56 | 21 => 57 | 22 => 58 | 23 => 59 | 24 => 60 | 25 => 61 | 26 => 62 | 27 => 63 | 46 => 71 | 47 => 72 | 48 => 73 | 49 => 74 | 50 => 75 | 57 => 78 | n => n, fun | 22 => 22 | 24 => 32 | 25 => 52 | 3 => 3 | 39 => 75 | 0 => 0 | 53 => 30 | 55 => 58 | 4 => 4 | 46 => 89 | 45 => 88 | 50 => 65 | 5 => 5 | 9 => 9 | 66 => 101 | 70 => 105 | 76 => 111 | 77 => 112 | n => n, fun | n => n⟩
theorem sortLays : Go.Proofs.SlLaysF0.n6 Try.prog sortLays_ren := {
  mixed := by kernel_rfl
  f6 := ⟨Try.f18.name, by decide, Try.func18.trans (congrArg some (by kernel_rfl))⟩
  f14 := ⟨Try.f42.name, by decide, Try.func42.trans (congrArg some (by kernel_rfl))⟩
  f15 := Try.func43.trans (congrArg some (by kernel_rfl))
  f20 := ⟨Try.f56.name, by decide, Try.func56.trans (congrArg some (by kernel_rfl))⟩
  f21 := ⟨Try.f57.name, by decide, Try.func57.trans (congrArg some (by kernel_rfl))⟩
  f22 := ⟨Try.f58.name, by decide, Try.func58.trans (congrArg some (by kernel_rfl))⟩
  f23 := ⟨Try.f59.name, by decide, Try.func59.trans (congrArg some (by kernel_rfl))⟩
  f24 := ⟨Try.f60.name, by decide, Try.func60.trans (congrArg some (by kernel_rfl))⟩
  f25 := ⟨Try.f61.name, by decide, Try.func61.trans (congrArg some (by kernel_rfl))⟩
  f26 := ⟨Try.f62.name, by decide, Try.func62.trans (congrArg some (by kernel_rfl))⟩
  f27 := ⟨Try.f63.name, by decide, Try.func63.trans (congrArg some (by kernel_rfl))⟩
  f28 := Try.func64.trans (congrArg some (by kernel_rfl))
  f29 := Try.func65.trans (congrArg some (by kernel_rfl))
  f46 := ⟨Try.f71.name, by decide, Try.func71.trans (congrArg some (by kernel_rfl))⟩
  f47 := Try.func72.trans (congrArg some (by kernel_rfl))
  f48 := Try.func73.trans (congrArg some (by kernel_rfl))
  f49 := ⟨Try.f74.name, by decide, Try.func74.trans (congrArg some (by kernel_rfl))⟩
  f50 := ⟨Try.f75.name, by decide, Try.func75.trans (congrArg some (by kernel_rfl))⟩
  f57 := ⟨Try.f78.name, by decide, Try.func78.trans (congrArg some (by kernel_rfl))⟩
  t0 := Try.underlying0
  a0 := Try.isAgg0
  z0 := Try.sizeOf0
  v0 := Try.zeroValue0
  t3 := Try.underlying3
  a3 := Try.isAgg3
  z3 := Try.sizeOf3
  v3 := Try.zeroValue3
  t4 := Try.underlying4
  a4 := Try.isAgg4
  z4 := Try.sizeOf4
  v4 := Try.zeroValue4
  t5 := Try.underlying5
  a5 := Try.isAgg5
  z5 := Try.sizeOf5
  v5 := Try.zeroValue5
  t9 := Try.underlying9
  a9 := Try.isAgg9
  z9 := Try.sizeOf9
  v9 := Try.zeroValue9
  t22 := Try.underlying22
  a22 := Try.isAgg22
  z22 := Try.sizeOf22
  v22 := Try.zeroValue22
  t25 := Try.underlying52
  a25 := Try.isAgg52
  z25 := Try.sizeOf52
  v25 := Try.zeroValue52
  t39 := Try.underlying75
  a39 := Try.isAgg75
  z39 := Try.sizeOf75
  v39 := Try.zeroValue75
  t45 := Try.underlying88
  a45 := Try.isAgg88
  z45 := Try.sizeOf88
  v45 := Try.zeroValue88
  t46 := Try.underlying89
  a46 := Try.isAgg89
  z46 := Try.sizeOf89
  v46 := Try.zeroValue89
  t50 := Try.underlying65
  a50 := Try.isAgg65
  z50 := Try.sizeOf65
  v50 := Try.zeroValue65
  t53 := Try.underlying30
  a53 := Try.isAgg30
  z53 := Try.sizeOf30
  v53 := Try.zeroValue30
  t55 := Try.underlying58
  a55 := Try.isAgg58
  z55 := Try.sizeOf58
  v55 := Try.zeroValue58
  t66 := Try.underlying101
  a66 := Try.isAgg101
  z66 := Try.sizeOf101
  v66 := Try.zeroValue101
  t70 := Try.underlying105
  a70 := Try.isAgg105
  z70 := Try.sizeOf105
  v70 := Try.zeroValue105
  t76 := Try.underlying111
  a76 := Try.isAgg111
  z76 := Try.sizeOf111
  v76 := Try.zeroValue111
  t77 := Try.underlying112
  a77 := Try.isAgg112
  z77 := Try.sizeOf112
  v77 := Try.zeroValue112 }
end Go.Proofs.Ytoagdpjickippaa

/- Formulas of 3 Go functions of this seat (written by a program of the author's, vcgen.py), and that each is enough for the call. No condition. -/
set_option linter.unusedVariables false
namespace Go.Proofs.Ytoagdpjickippaa
open Go Vc Go.Proofs
set_option maxRecDepth 100000
/-- sums.digit -/
def vc_sums_digit (x0 : Int) (w : World) (R : Value → World → Prop) : Prop :=
  ∃ I1 : Bool → World → Prop, ((((decide (x0 ≥ 48) = true →
      I1 (decide (x0 ≤ 57)) w)) ∧
    (decide (x0 ≥ 48) = false →
      I1 false w)) ∧
   ∀ b2 : Bool,
   ∀ w3 : World,
   (I1 b2 w3 →
     (((b2 = true →
        R (Value.int IntKind.i64 (IntKind.wrap IntKind.i64 (IntKind.wrap IntKind.u8 (x0 - 48)))) w3)) ∧
      (b2 = false →
        (((decide (x0 ≥ 97) = true →
           (((decide (x0 ≤ 102) = true →
              R (Value.int IntKind.i64 (IntKind.wrap IntKind.i64 (IntKind.wrap IntKind.i64 (IntKind.wrap IntKind.u8 (x0 - 97)) + 10))) w3)) ∧
            (decide (x0 ≤ 102) = false →
              R (Value.int IntKind.i64 (-1)) w3)))) ∧
         (decide (x0 ≥ 97) = false →
           R (Value.int IntKind.i64 (-1)) w3))))))
theorem vc_sums_digit_ok {x0 : Int} {w : World} {R : Value → World → Prop} {R' : Ending → World → Prop} (h : vc_sums_digit x0 w R) (hR : ∀ v w', R v w' → R' (.returned v) w') :
    Calls Try.prog 45 #[.int .u8 x0] w R' :=
  calls_of_body (vs := [(.int .u8 x0, false)]) (ty := ty) (ann := ⟨[(2, [(3, .bool)])], [], [], []⟩) (c := Try.f45.body.getD .skip) (by kernel_rfl) Try.func45 (by kernel_rfl) (by kernel_rfl) (Eq.mp (by kernel_rfl) h) hR
/-- sums.Unhex -/
def vc_sums_Unhex (x0 : ByteArray) (w : World) (R : Value → World → Prop) : Prop :=
  ∃ I1 : Sl → Int → World → Prop, ∃ I2 : Sl → Int → World → Nat, (I1 (Sl.mk none 0 0) 0 w ∧
   ∀ l3 : Sl,
   ∀ n4 : Int,
   ∀ w5 : World,
   (I1 l3 n4 w5 →
     (((decide (IntKind.wrap IntKind.i64 (n4 + 1) < (↑(ByteArray.size x0) : Int)) = true →
        ∀ w6 : World,
        (Drew w5 w6 →
          ∃ I7 : World → Prop, (I7 w6 ∧
           ((0 ≤ n4 ∧
             n4 < (↑(ByteArray.size x0) : Int)) ∧
            ((0 ≤ IntKind.wrap IntKind.i64 (n4 + 1) ∧
              IntKind.wrap IntKind.i64 (n4 + 1) < (↑(ByteArray.size x0) : Int)) ∧
             Calls Try.prog (45 : Nat) (Array.mk [Value.int IntKind.u8 (byteAt x0 n4)]) (w6) (fun e8 w9 =>
               ∃ n10 : Int, (e8 = Ending.returned (Value.int IntKind.i64 n10) ∧
                (I7 w9 ∧
                 Calls Try.prog (45 : Nat) (Array.mk [Value.int IntKind.u8 (byteAt x0 (IntKind.wrap IntKind.i64 (n4 + 1)))]) (w9) (fun e11 w12 =>
                   ∃ n13 : Int, (e11 = Ending.returned (Value.int IntKind.i64 n13) ∧
                    (I7 w12 ∧
                     (((decide (n10 < 0) = true →
                        R (Value.tuple (Array.mk [Value.string (ByteArray.mk (Array.mk [])), Value.bool false])) w12)) ∧
                      (decide (n10 < 0) = false →
                        (((decide (n13 < 0) = true →
                           R (Value.tuple (Array.mk [Value.string (ByteArray.mk (Array.mk [])), Value.bool false])) w12)) ∧
                         (decide (n13 < 0) = false →
                           ((0 : Int) ≤ (4 : Int) ∧
                            ∀ w14 : World,
                            (w14 = World.alloc w12 (Obj.cells (Array.mk [Value.int IntKind.u8 (IntKind.wrap IntKind.u8 (IntKind.wrap IntKind.i64 (↑(BitVec.toNat (BitVec.ofInt 64 (IntKind.wrap IntKind.i64 (n10 * 2 ^ min (Int.toNat 4) 64)) ||| BitVec.ofInt 64 n13)) : Int)))]) 5) →
                              ∃ w15 : World, ∃ l16 : Sl, (Sem.run Try.prog (Builtin.append_ (Array.mk [68, 68]) 68 (Array.mk [Value.slice l3.1 l3.2 l3.3, Value.slice (some (Addr.mk (Array.size (World.heap w12)) 0 none)) 1 1])) w14 = Result.ok (Value.slice l16.1 l16.2 l16.3) w15 ∧
                               (I1 (Sl.mk l16.1 l16.2 l16.3) (IntKind.wrap IntKind.i64 (n4 + 2)) w15 ∧
                                I2 (Sl.mk l16.1 l16.2 l16.3) (IntKind.wrap IntKind.i64 (n4 + 2)) w15 < I2 l3 n4 w5)))))))))))))))))))) ∧
      (decide (IntKind.wrap IntKind.i64 (n4 + 1) < (↑(ByteArray.size x0) : Int)) = false →
        ((2 : Int) ≠ (0 : Int) ∧
         ((((Int.tmod (↑(ByteArray.size x0) : Int) 2 != 0) = true →
            R (Value.tuple (Array.mk [Value.string (ByteArray.mk (Array.mk [])), Value.bool false])) w5)) ∧
          ((Int.tmod (↑(ByteArray.size x0) : Int) 2 != 0) = false →
            ∃ w17 : World, ∃ s18 : ByteArray, (Sem.run Try.prog (convert 68 9 (Value.slice l3.1 l3.2 l3.3)) w5 = Result.ok (Value.string s18) w17 ∧
             R (Value.tuple (Array.mk [Value.string s18, Value.bool true])) w17))))))))
theorem vc_sums_Unhex_ok {x0 : ByteArray} {w : World} {R : Value → World → Prop} {R' : Ending → World → Prop} (h : vc_sums_Unhex x0 w R) (hR : ∀ v w', R v w' → R' (.returned v) w') :
    Calls Try.prog 22 #[.string x0] w R' :=
  calls_of_body (vs := [(.string x0, false)]) (ty := ty) (ann := ⟨[], [(3, [(4, .slice), (5, .int .i64)])], [(5, .held [(0, true), (1, true), (2, true), (4, true), (5, true), (6, true), (7, true), (3, false), (8, false), (9, true), (10, true)])], []⟩) (c := Try.f22.body.getD .skip) (by kernel_rfl) Try.func22 (by kernel_rfl) (by kernel_rfl) (Eq.mp (by kernel_rfl) h) hR
/-- sums.Id -/
def vc_sums_Id (x0 : ByteArray) (w : World) (R : Value → World → Prop) : Prop :=
  Calls Try.prog (22 : Nat) (Array.mk [Value.string x0]) (w) (fun e1 w2 =>
    ∃ s3 : ByteArray, ∃ b4 : Bool, (e1 = Ending.returned (Value.tuple (Array.mk [Value.string s3, Value.bool b4])) ∧
     (((b4 = true →
        R (Value.bool ((↑(ByteArray.size x0) : Int) == 40)) w2)) ∧
      (b4 = false →
        R (Value.bool false) w2))))
theorem vc_sums_Id_ok {x0 : ByteArray} {w : World} {R : Value → World → Prop} {R' : Ending → World → Prop} (h : vc_sums_Id x0 w R) (hR : ∀ v w', R v w' → R' (.returned v) w') :
    Calls Try.prog 21 #[.string x0] w R' :=
  calls_of_body (vs := [(.string x0, false)]) (ty := ty) (ann := ⟨[], [], [], []⟩) (c := Try.f21.body.getD .skip) (by kernel_rfl) Try.func21 (by kernel_rfl) (by kernel_rfl) (Eq.mp (by kernel_rfl) h) hR
end Go.Proofs.Ytoagdpjickippaa

/- Unhex and Id. Conditions: as named. -/
set_option linter.unusedVariables false
namespace Go.Proofs.Ytoagdpjickippaa
open Go Vc HexM Go.Proofs

theorem digit_spec (c : Nat) (hc : c < 256) (w : World) : Calls Try.prog F_sums_digit #[.int .u8 (c : Int)] w fun e w' => e = .returned (.int .i64 (match dg c with | some n => (n : Int) | none => -1)) ∧ w' = w := by
  refine vc_sums_digit_ok (R := fun v w' => v = .int .i64 (match dg c with | some n => (n : Int) | none => -1) ∧ w' = w) ?_ (fun v w' h => ⟨by rw [h.1], h.2⟩)
  refine ⟨fun b w' => b = decide (48 ≤ c ∧ c ≤ 57) ∧ w' = w, ⟨fun h => ⟨?_, rfl⟩, fun h => ⟨?_, rfl⟩⟩, ?_⟩
  · have h := of_decide_eq_true h
    exact decide_eq_decide.2 ⟨fun _ => ⟨by omega, by omega⟩, fun _ => by omega⟩
  · have h := of_decide_eq_false h
    rw [decide_eq_false (by omega)]
  · rintro b w3 ⟨rfl, rfl⟩
    unfold dg
    refine ⟨fun h => ?_, fun h => ⟨fun h2 => ⟨fun h3 => ?_, fun h3 => ?_⟩, fun h2 => ?_⟩⟩
    · have h := of_decide_eq_true h
      rw [if_pos h, wrap_u8 (by omega) (by omega), wrap_i64 (by omega) (by omega)]
      exact ⟨by congr 1; simp only; omega, rfl⟩
    · have h := of_decide_eq_false h
      have h2 := of_decide_eq_true h2
      have h3 := of_decide_eq_true h3
      rw [if_neg h, if_pos (by omega), wrap_u8 (by omega) (by omega), wrap_i64 (x := (c : Int) - 97) (by omega) (by omega), wrap_i64 (by omega) (by omega)]
      exact ⟨by congr 1; simp only; omega, rfl⟩
    · have h := of_decide_eq_false h
      have h3 := of_decide_eq_false h3
      rw [if_neg h, if_neg (by omega)]
      exact ⟨rfl, rfl⟩
    · have h := of_decide_eq_false h
      have h2 := of_decide_eq_false h2
      rw [if_neg h, if_neg (by omega)]
      exact ⟨rfl, rfl⟩
def unhexS (s : ByteArray) : ByteArray := match unhexL s.data.toList with | some l => ⟨l.toArray⟩ | none => ⟨#[]⟩
/-- 'Unhex'. -/
theorem unhex_spec (s : ByteArray) (hs : s.size ≤ 140737488355328) (w : World) : Calls Try.prog F_sums_Unhex #[.string s] w fun e w' => e = .returned (.tuple #[.string (unhexS s), .bool (unhexL s.data.toList).isSome]) ∧ Fr (fun _ => False) w w' := by
  refine vc_sums_Unhex_ok (R := fun v w' => v = .tuple #[.string (unhexS s), .bool (unhexL s.data.toList).isSome] ∧ Fr (fun _ => False) w w') ?_ (fun v w' h => ⟨by rw [h.1], h.2⟩)
  have hbad : ∀ {w' : World} {k : Nat}, k < s.size → dg (byt s k) = none → Fr (fun _ => False) w w' → (Value.tuple #[.string ⟨#[]⟩, .bool false] = .tuple #[.string (unhexS s), .bool (unhexL s.data.toList).isSome] ∧ Fr (fun _ => False) w w') := fun {w' k} hk hd hf => by
    have := unhexL_bad k s.data.toList _ (bs_get hk) (by rw [toNat_of _ (byt_lt _ _)]; exact hd)
    unfold unhexS
    rw [this]
    exact ⟨rfl, hf⟩
  refine ⟨fun l n w' => ∃ k r, n = ((2 * k : Nat) : Int) ∧ 2 * k ≤ s.size ∧ unhexL (s.data.toList.take (2 * k)) = some r ∧ Own w' w.heap.size T_uint8 l (byteV r) ∧ Fr (fun _ => False) w w', fun _ n _ => s.size - n.toNat, ⟨0, [], rfl, Nat.zero_le _, rfl, .nil _ _ _, .refl _ _⟩, ?_⟩
  rintro l3 n w5 ⟨k, r, rfl, hk, hr, ho, hf⟩
  have e1 : IntKind.i64.wrap (((2 * k : Nat) : Int) + 1) = ((2 * k + 1 : Nat) : Int) := by rw [wrap_i64 (by omega) (by omega)]; omega
  have e2 : IntKind.i64.wrap (((2 * k : Nat) : Int) + 2) = ((2 * (k + 1) : Nat) : Int) := by rw [wrap_i64 (by omega) (by omega)]; omega
  rw [e1, e2]
  have hrl : r.length = k := by
    have := unhexL_len _ _ hr
    rw [List.length_take, bs_len] at this; omega
  refine ⟨fun hlt w6 d6 => ?_, fun hge => ?_⟩
  · have hlt := of_decide_eq_true hlt
    rw [byteAt_nat, byteAt_nat]
    have hf6 : Fr (fun _ => False) w w6 := hf.trans' (.drew _ d6)
    refine ⟨fun _ => True, trivial, ⟨by omega, by omega⟩, ⟨by omega, by omega⟩, (digit_spec _ (byt_lt _ _) w6).mono ?_⟩
    rintro e w9 ⟨rfl, hw⟩
    replace hw := hw.symm
    subst hw
    refine ⟨_, rfl, trivial, (digit_spec _ (byt_lt _ _) w6).mono ?_⟩
    rintro e w12 ⟨rfl, hw⟩
    replace hw := hw.symm
    subst hw
    refine ⟨_, rfl, trivial, fun h => ?_, fun h => ⟨fun h2 => ?_, fun h2 => ⟨by decide, fun w14 h14 => ?_⟩⟩⟩
    · have h := of_decide_eq_true h
      cases hd : dg (byt s (2 * k)) with
      | none => exact hbad (k := 2 * k) (by omega) hd hf6
      | some x => rw [hd] at h; simp only at h; omega
    · have h2 := of_decide_eq_true h2
      cases hd : dg (byt s (2 * k + 1)) with
      | none => exact hbad (k := 2 * k + 1) (by omega) hd hf6
      | some x => rw [hd] at h2; simp only at h2; omega
    · have h := of_decide_eq_false h
      have h2 := of_decide_eq_false h2
      cases hd : dg (byt s (2 * k)) with
      | none => rw [hd] at h; simp at h
      | some x =>
        cases hd2 : dg (byt s (2 * k + 1)) with
        | none => rw [hd2] at h2; simp at h2
        | some y =>
          have hx1 := dg_lt hd
          have hy1 := dg_lt hd2
          have hor : 2 ^ 4 * x ||| y = 2 ^ 4 * x + y := (Nat.two_pow_add_eq_or_of_lt hy1 _).symm
          have ev : IntKind.u8.wrap (IntKind.i64.wrap (((BitVec.ofInt 64 (IntKind.i64.wrap ((x : Int) * 2 ^ min (Int.toNat 4) 64)) ||| BitVec.ofInt 64 (y : Int)).toNat : Nat) : Int)) = ((16 * x + y : Nat) : Int) := by
            rw [show (x : Int) * 2 ^ min (Int.toNat 4) 64 = ((2 ^ 4 * x : Nat) : Int) by rw [show (2 : Int) ^ min (Int.toNat 4) 64 = ((2 ^ 4 : Nat) : Int) from rfl, ← Int.natCast_mul, Nat.mul_comm], wrap_i64 (x := ((2 ^ 4 * x : Nat) : Int)) (by omega) (by omega), or_nat 64 _ _ (by omega) (by omega), hor, wrap_i64 (by omega) (by omega), wrap_u8 (by omega) (by omega)]
          rw [hd, hd2] at h14
          simp only at h14
          rw [ev] at h14
          obtain ⟨w15, l16, hr15, ho15, hf15, _⟩ := append_one' elByteH (ho.drew d6) (v := .int .u8 ((16 * x + y : Nat) : Int)) rfl (by rw [bv_len, hrl]; unfold maxLen; omega) (by rw [bv_len, hrl]; omega) hf6.size h14
          have ht := unhexL_take k s.data.toList r hr (by rw [bs_len]; omega) _ _ (bs_get (by omega)) (bs_get (by omega))
          rw [toNat_of _ (byt_lt _ _), toNat_of _ (byt_lt _ _), hd, hd2] at ht
          refine ⟨w15, l16, hr15, ⟨k + 1, _, rfl, by omega, ht, ?_, ?_⟩, by dsimp only; omega⟩
          · rw [← bv_snoc _ _ (by omega)]; exact ho15
          · exact hf6.trans hf15 fun q hq ⟨y, hy, e⟩ => by
              have := (ho.blk hy).1; omega
  · have hge := of_decide_eq_false hge
    have hm : Int.tmod (s.size : Int) 2 = ((s.size % 2 : Nat) : Int) := by rw [show (2 : Int) = ((2 : Nat) : Int) from rfl, Int.ofNat_tmod]
    rw [hm]
    refine ⟨by decide, fun h => ?_, fun h => ?_⟩
    · have h : ((s.size % 2 : Nat) : Int) ≠ 0 := by simpa using h
      have := unhexL_iff s.data.toList
      rw [bs_len, show (s.size % 2 == 0) = false by rw [beq_eq_false_iff_ne]; omega, Bool.and_false] at this
      have hn : unhexL s.data.toList = none := by simpa using this
      unfold unhexS
      rw [hn]
      exact ⟨rfl, hf⟩
    · have h : ((s.size % 2 : Nat) : Int) = 0 := by simpa using h
      have hks : 2 * k = s.size := by omega
      rw [hks, bs_all] at hr
      refine ⟨_, _, bytes_str (e := T_uint8) (by kernel_rfl) (by kernel_rfl) (by kernel_rfl) l3.cap ho.reads (by rw [ho.len, bv_len]), ?_, hf⟩
      unfold unhexS
      rw [hr]; rfl
/-- 'Id'. -/
theorem id_spec (s : ByteArray) (hs : s.size ≤ 140737488355328) (w : World) : Calls Try.prog F_sums_Id #[.string s] w fun e w' => e = .returned (.bool (isId s.data.toList)) ∧ Fr (fun _ => False) w w' := by
  refine vc_sums_Id_ok (R := fun v w' => v = .bool (isId s.data.toList) ∧ Fr (fun _ => False) w w') ?_ (fun v w' h => ⟨by rw [h.1], h.2⟩)
  refine (unhex_spec s hs w).mono ?_
  rintro e w2 ⟨rfl, hf⟩
  refine ⟨_, _, rfl, fun h => ⟨?_, hf⟩, fun h => ⟨?_, hf⟩⟩
  · unfold isId
    rw [h, Bool.true_and, bs_len]
    congr 1
    rw [Bool.eq_iff_iff, beq_iff_eq, beq_iff_eq]; omega
  · unfold isId; rw [h]; rfl
end Go.Proofs.Ytoagdpjickippaa

/- Formulas of 3 Go functions of this seat (written by a program of the author's, vcgen.py), and that each is enough for the call. No condition. -/
set_option linter.unusedVariables false
namespace Go.Proofs.Ytoagdpjickippaa
open Go Vc Go.Proofs
set_option maxRecDepth 100000
/-- packidx.Build -/
def vc_packidx_Build (x0a : Option Addr) (x0n : Nat) (x0c : Nat) (x1 : ByteArray) (x2 : Int) (w : World) (R : Value → World → Prop) : Prop :=
  (((decide ((↑x0n : Int) > 1000) = true →
     R (Value.tuple (Array.mk [Value.string (ByteArray.mk (Array.mk [])), Value.int IntKind.i64 2])) w)) ∧
   (decide ((↑x0n : Int) > 1000) = false →
     Calls Try.prog (17 : Nat) (Array.mk [Value.slice x0a x0n x0c]) (w) (fun e1 w2 =>
       ∃ l3 : Sl, (e1 = Ending.returned (Value.slice l3.1 l3.2 l3.3) ∧
        Calls Try.prog (18 : Nat) (Array.mk [Value.slice l3.1 l3.2 l3.3, Value.func (Fn.func 19) (Array.mk []) (Array.mk [])]) (w2) (fun e4 w5 =>
          (e4 = Ending.returned (Value.tuple (Array.mk [])) ∧
           ∃ I6 : Int → World → Prop, ∃ I7 : Int → World → Nat, (I6 0 w5 ∧
            ∀ n8 : Int,
            ∀ w9 : World,
            (I6 n8 w9 →
              (((decide (n8 < (↑l3.2 : Int)) = true →
                 ((0 ≤ n8 ∧
                   n8 < (↑l3.2 : Int)) ∧
                  ∃ a10 : Addr, (l3.1 = some a10 ∧
                   ∃ s11 : ByteArray, ∃ n12 : Int, ∃ n13 : Int, (Sem.run Try.prog (loadVar 32 (Addr.add a10 (Int.toNat n8 * 3))) w9 = Result.ok (Value.agg (Array.mk [Value.string s11, Value.int IntKind.i64 n12, Value.int IntKind.u32 n13])) w9 ∧
                    ∀ w14 : World,
                    (w14 = World.alloc w9 (Obj.cells (Array.mk [Value.string (ByteArray.mk (Array.mk [])), Value.int IntKind.i64 0, Value.int IntKind.u32 0]) 32) →
                      ∃ w15 : World, (Sem.run Try.prog (storeVar 32 (Addr.mk (Array.size (World.heap w9)) 0 none) (Value.agg (Array.mk [Value.string s11, Value.int IntKind.i64 n12, Value.int IntKind.u32 n13]))) w14 = Result.ok PUnit.unit w15 ∧
                       ∀ w16 : World,
                       (Drew w15 w16 →
                         ∃ I17 : World → Prop, (I17 w16 ∧
                          ∃ s18 : ByteArray, ((∀ w19 : World,
                           (I17 w19 →
                             World.cell? w19 (Addr.mk (Array.size (World.heap w9)) 0 none) = some (Value.string s18))) ∧
                           Calls Try.prog (21 : Nat) (Array.mk [Value.string s18]) (w16) (fun e20 w21 =>
                             ∃ b22 : Bool, (e20 = Ending.returned (Value.bool b22) ∧
                              (I17 w21 ∧
                               ((((!b22) = true →
                                  R (Value.tuple (Array.mk [Value.string (ByteArray.mk (Array.mk [])), Value.int IntKind.i64 4])) w21)) ∧
                                ((!b22) = false →
                                  (((decide (n8 > 0) = true →
                                     ((0 ≤ IntKind.wrap IntKind.i64 (n8 - 1) ∧
                                       IntKind.wrap IntKind.i64 (n8 - 1) < (↑l3.2 : Int)) ∧
                                      ∃ a23 : Addr, (l3.1 = some a23 ∧
                                       ∃ s24 : ByteArray, ((∀ w25 : World,
                                        (I17 w25 →
                                          World.cell? w25 (Addr.add a23 (Int.toNat (IntKind.wrap IntKind.i64 (n8 - 1)) * 3)) = some (Value.string s24))) ∧
                                        ∃ s26 : ByteArray, ((∀ w27 : World,
                                         (I17 w27 →
                                           World.cell? w27 (Addr.mk (Array.size (World.heap w9)) 0 none) = some (Value.string s26))) ∧
                                         ((((ByteArray.toList s24 == ByteArray.toList s26) = true →
                                            R (Value.tuple (Array.mk [Value.string (ByteArray.mk (Array.mk [])), Value.int IntKind.i64 4])) w21)) ∧
                                          ((ByteArray.toList s24 == ByteArray.toList s26) = false →
                                            ∃ n28 : Int, ((∀ w29 : World,
                                             (I17 w29 →
                                               World.cell? w29 (Addr.mk (Array.size (World.heap w9)) 1 none) = some (Value.int IntKind.i64 n28))) ∧
                                             (((decide (n28 < 0) = true →
                                                R (Value.tuple (Array.mk [Value.string (ByteArray.mk (Array.mk [])), Value.int IntKind.i64 4])) w21)) ∧
                                              (decide (n28 < 0) = false →
                                                ∃ n30 : Int, ((∀ w31 : World,
                                                 (I17 w31 →
                                                   World.cell? w31 (Addr.mk (Array.size (World.heap w9)) 1 none) = some (Value.int IntKind.i64 n30))) ∧
                                                 (((decide (n30 > 1099511627776) = true →
                                                    R (Value.tuple (Array.mk [Value.string (ByteArray.mk (Array.mk [])), Value.int IntKind.i64 4])) w21)) ∧
                                                  (decide (n30 > 1099511627776) = false →
                                                    (I6 (IntKind.wrap IntKind.i64 (n8 + 1)) w21 ∧
                                                     I7 (IntKind.wrap IntKind.i64 (n8 + 1)) w21 < I7 n8 w9))))))))))))))) ∧
                                   (decide (n8 > 0) = false →
                                     ∃ n32 : Int, ((∀ w33 : World,
                                      (I17 w33 →
                                        World.cell? w33 (Addr.mk (Array.size (World.heap w9)) 1 none) = some (Value.int IntKind.i64 n32))) ∧
                                      (((decide (n32 < 0) = true →
                                         R (Value.tuple (Array.mk [Value.string (ByteArray.mk (Array.mk [])), Value.int IntKind.i64 4])) w21)) ∧
                                       (decide (n32 < 0) = false →
                                         ∃ n34 : Int, ((∀ w35 : World,
                                          (I17 w35 →
                                            World.cell? w35 (Addr.mk (Array.size (World.heap w9)) 1 none) = some (Value.int IntKind.i64 n34))) ∧
                                          (((decide (n34 > 1099511627776) = true →
                                             R (Value.tuple (Array.mk [Value.string (ByteArray.mk (Array.mk [])), Value.int IntKind.i64 4])) w21)) ∧
                                           (decide (n34 > 1099511627776) = false →
                                             (I6 (IntKind.wrap IntKind.i64 (n8 + 1)) w21 ∧
                                              I7 (IntKind.wrap IntKind.i64 (n8 + 1)) w21 < I7 n8 w9)))))))))))))))))))))))) ∧
               (decide (n8 < (↑l3.2 : Int)) = false →
                 Calls Try.prog (22 : Nat) (Array.mk [Value.string x1]) (w9) (fun e36 w37 =>
                   ∃ s38 : ByteArray, ∃ b39 : Bool, (e36 = Ending.returned (Value.tuple (Array.mk [Value.string s38, Value.bool b39])) ∧
                    ((((!b39) = true →
                       R (Value.tuple (Array.mk [Value.string (ByteArray.mk (Array.mk [])), Value.int IntKind.i64 4])) w37)) ∧
                     ((!b39) = false →
                       (((((↑(ByteArray.size s38) : Int) != 20) = true →
                          R (Value.tuple (Array.mk [Value.string (ByteArray.mk (Array.mk [])), Value.int IntKind.i64 4])) w37)) ∧
                        (((↑(ByteArray.size s38) : Int) != 20) = false →
                          ∀ w40 : World,
                          (w40 = World.alloc w37 (Obj.cells (Array.mk [Value.int IntKind.i64 0, Value.int IntKind.i64 0, Value.int IntKind.i64 0, Value.int IntKind.i64 0, Value.int IntKind.i64 0, Value.int IntKind.i64 0, Value.int IntKind.i64 0, Value.int IntKind.i64 0, Value.int IntKind.i64 0, Value.int IntKind.i64 0, Value.int IntKind.i64 0, Value.int IntKind.i64 0, Value.int IntKind.i64 0, Value.int IntKind.i64 0, Value.int IntKind.i64 0, Value.int IntKind.i64 0, Value.int IntKind.i64 0, Value.int IntKind.i64 0, Value.int IntKind.i64 0, Value.int IntKind.i64 0, Value.int IntKind.i64 0, Value.int IntKind.i64 0, Value.int IntKind.i64 0, Value.int IntKind.i64 0, Value.int IntKind.i64 0, Value.int IntKind.i64 0, Value.int IntKind.i64 0, Value.int IntKind.i64 0, Value.int IntKind.i64 0, Value.int IntKind.i64 0, Value.int IntKind.i64 0, Value.int IntKind.i64 0, Value.int IntKind.i64 0, Value.int IntKind.i64 0, Value.int IntKind.i64 0, Value.int IntKind.i64 0, Value.int IntKind.i64 0, Value.int IntKind.i64 0, Value.int IntKind.i64 0, Value.int IntKind.i64 0, Value.int IntKind.i64 0, Value.int IntKind.i64 0, Value.int IntKind.i64 0, Value.int IntKind.i64 0, Value.int IntKind.i64 0, Value.int IntKind.i64 0, Value.int IntKind.i64 0, Value.int IntKind.i64 0, Value.int IntKind.i64 0, Value.int IntKind.i64 0, Value.int IntKind.i64 0, Value.int IntKind.i64 0, Value.int IntKind.i64 0, Value.int IntKind.i64 0, Value.int IntKind.i64 0, Value.int IntKind.i64 0, Value.int IntKind.i64 0, Value.int IntKind.i64 0, Value.int IntKind.i64 0, Value.int IntKind.i64 0, Value.int IntKind.i64 0, Value.int IntKind.i64 0, Value.int IntKind.i64 0, Value.int IntKind.i64 0, Value.int IntKind.i64 0, Value.int IntKind.i64 0, Value.int IntKind.i64 0, Value.int IntKind.i64 0, Value.int IntKind.i64 0, Value.int IntKind.i64 0, Value.int IntKind.i64 0, Value.int IntKind.i64 0, Value.int IntKind.i64 0, Value.int IntKind.i64 0, Value.int IntKind.i64 0, Value.int IntKind.i64 0, Value.int IntKind.i64 0, Value.int IntKind.i64 0, Value.int IntKind.i64 0, Value.int IntKind.i64 0, Value.int IntKind.i64 0, Value.int IntKind.i64 0, Value.int IntKind.i64 0, Value.int IntKind.i64 0, Value.int IntKind.i64 0, Value.int IntKind.i64 0, Value.int IntKind.i64 0, Value.int IntKind.i64 0, Value.int IntKind.i64 0, Value.int IntKind.i64 0, Value.int IntKind.i64 0, Value.int IntKind.i64 0, Value.int IntKind.i64 0, Value.int IntKind.i64 0, Value.int IntKind.i64 0, Value.int IntKind.i64 0, Value.int IntKind.i64 0, Value.int IntKind.i64 0, Value.int IntKind.i64 0, Value.int IntKind.i64 0, Value.int IntKind.i64 0, Value.int IntKind.i64 0, Value.int IntKind.i64 0, Value.int IntKind.i64 0, Value.int IntKind.i64 0, Value.int IntKind.i64 0, Value.int IntKind.i64 0, Value.int IntKind.i64 0, Value.int IntKind.i64 0, Value.int IntKind.i64 0, Value.int IntKind.i64 0, Value.int IntKind.i64 0, Value.int IntKind.i64 0, Value.int IntKind.i64 0, Value.int IntKind.i64 0, Value.int IntKind.i64 0, Value.int IntKind.i64 0, Value.int IntKind.i64 0, Value.int IntKind.i64 0, Value.int IntKind.i64 0, Value.int IntKind.i64 0, Value.int IntKind.i64 0, Value.int IntKind.i64 0, Value.int IntKind.i64 0, Value.int IntKind.i64 0, Value.int IntKind.i64 0, Value.int IntKind.i64 0, Value.int IntKind.i64 0, Value.int IntKind.i64 0, Value.int IntKind.i64 0, Value.int IntKind.i64 0, Value.int IntKind.i64 0, Value.int IntKind.i64 0, Value.int IntKind.i64 0, Value.int IntKind.i64 0, Value.int IntKind.i64 0, Value.int IntKind.i64 0, Value.int IntKind.i64 0, Value.int IntKind.i64 0, Value.int IntKind.i64 0, Value.int IntKind.i64 0, Value.int IntKind.i64 0, Value.int IntKind.i64 0, Value.int IntKind.i64 0, Value.int IntKind.i64 0, Value.int IntKind.i64 0, Value.int IntKind.i64 0, Value.int IntKind.i64 0, Value.int IntKind.i64 0, Value.int IntKind.i64 0, Value.int IntKind.i64 0, Value.int IntKind.i64 0, Value.int IntKind.i64 0, Value.int IntKind.i64 0, Value.int IntKind.i64 0, Value.int IntKind.i64 0, Value.int IntKind.i64 0, Value.int IntKind.i64 0, Value.int IntKind.i64 0, Value.int IntKind.i64 0, Value.int IntKind.i64 0, Value.int IntKind.i64 0, Value.int IntKind.i64 0, Value.int IntKind.i64 0, Value.int IntKind.i64 0, Value.int IntKind.i64 0, Value.int IntKind.i64 0, Value.int IntKind.i64 0, Value.int IntKind.i64 0, Value.int IntKind.i64 0, Value.int IntKind.i64 0, Value.int IntKind.i64 0, Value.int IntKind.i64 0, Value.int IntKind.i64 0, Value.int IntKind.i64 0, Value.int IntKind.i64 0, Value.int IntKind.i64 0, Value.int IntKind.i64 0, Value.int IntKind.i64 0, Value.int IntKind.i64 0, Value.int IntKind.i64 0, Value.int IntKind.i64 0, Value.int IntKind.i64 0, Value.int IntKind.i64 0, Value.int IntKind.i64 0, Value.int IntKind.i64 0, Value.int IntKind.i64 0, Value.int IntKind.i64 0, Value.int IntKind.i64 0, Value.int IntKind.i64 0, Value.int IntKind.i64 0, Value.int IntKind.i64 0, Value.int IntKind.i64 0, Value.int IntKind.i64 0, Value.int IntKind.i64 0, Value.int IntKind.i64 0, Value.int IntKind.i64 0, Value.int IntKind.i64 0, Value.int IntKind.i64 0, Value.int IntKind.i64 0, Value.int IntKind.i64 0, Value.int IntKind.i64 0, Value.int IntKind.i64 0, Value.int IntKind.i64 0, Value.int IntKind.i64 0, Value.int IntKind.i64 0, Value.int IntKind.i64 0, Value.int IntKind.i64 0, Value.int IntKind.i64 0, Value.int IntKind.i64 0, Value.int IntKind.i64 0, Value.int IntKind.i64 0, Value.int IntKind.i64 0, Value.int IntKind.i64 0, Value.int IntKind.i64 0, Value.int IntKind.i64 0, Value.int IntKind.i64 0, Value.int IntKind.i64 0, Value.int IntKind.i64 0, Value.int IntKind.i64 0, Value.int IntKind.i64 0, Value.int IntKind.i64 0, Value.int IntKind.i64 0, Value.int IntKind.i64 0, Value.int IntKind.i64 0, Value.int IntKind.i64 0, Value.int IntKind.i64 0, Value.int IntKind.i64 0, Value.int IntKind.i64 0, Value.int IntKind.i64 0, Value.int IntKind.i64 0, Value.int IntKind.i64 0, Value.int IntKind.i64 0, Value.int IntKind.i64 0, Value.int IntKind.i64 0, Value.int IntKind.i64 0, Value.int IntKind.i64 0, Value.int IntKind.i64 0, Value.int IntKind.i64 0, Value.int IntKind.i64 0, Value.int IntKind.i64 0, Value.int IntKind.i64 0, Value.int IntKind.i64 0, Value.int IntKind.i64 0, Value.int IntKind.i64 0, Value.int IntKind.i64 0, Value.int IntKind.i64 0, Value.int IntKind.i64 0, Value.int IntKind.i64 0, Value.int IntKind.i64 0, Value.int IntKind.i64 0, Value.int IntKind.i64 0, Value.int IntKind.i64 0, Value.int IntKind.i64 0, Value.int IntKind.i64 0, Value.int IntKind.i64 0]) 56) →
                            ∃ I41 : ByteArray → ByteArray → ByteArray → ByteArray → Int → World → Prop, ∃ I42 : ByteArray → ByteArray → ByteArray → ByteArray → Int → World → Nat, (I41 (ByteArray.mk (Array.mk [])) (ByteArray.mk (Array.mk [])) (ByteArray.mk (Array.mk [])) (ByteArray.mk (Array.mk [])) 0 w40 ∧
                             ∀ s43 : ByteArray,
                             ∀ s44 : ByteArray,
                             ∀ s45 : ByteArray,
                             ∀ s46 : ByteArray,
                             ∀ n47 : Int,
                             ∀ w48 : World,
                             (I41 s43 s44 s45 s46 n47 w48 →
                               (((decide (n47 < (↑l3.2 : Int)) = true →
                                  ((0 ≤ n47 ∧
                                    n47 < (↑l3.2 : Int)) ∧
                                   ∃ a49 : Addr, (l3.1 = some a49 ∧
                                    ∃ s50 : ByteArray, ∃ n51 : Int, ∃ n52 : Int, (Sem.run Try.prog (loadVar 32 (Addr.add a49 (Int.toNat n47 * 3))) w48 = Result.ok (Value.agg (Array.mk [Value.string s50, Value.int IntKind.i64 n51, Value.int IntKind.u32 n52])) w48 ∧
                                     ∀ w53 : World,
                                     (w53 = World.alloc w48 (Obj.cells (Array.mk [Value.string (ByteArray.mk (Array.mk [])), Value.int IntKind.i64 0, Value.int IntKind.u32 0]) 32) →
                                       ∃ w54 : World, (Sem.run Try.prog (storeVar 32 (Addr.mk (Array.size (World.heap w48)) 0 none) (Value.agg (Array.mk [Value.string s50, Value.int IntKind.i64 n51, Value.int IntKind.u32 n52]))) w53 = Result.ok PUnit.unit w54 ∧
                                        ∃ s55 : ByteArray, (World.cell? w54 (Addr.mk (Array.size (World.heap w48)) 0 none) = some (Value.string s55) ∧
                                         Calls Try.prog (22 : Nat) (Array.mk [Value.string s55]) (w54) (fun e56 w57 =>
                                           ∃ s58 : ByteArray, ∃ b59 : Bool, (e56 = Ending.returned (Value.tuple (Array.mk [Value.string s58, Value.bool b59])) ∧
                                            (((0 : Int) ≤ (0 : Int) ∧
                                              0 < (↑(ByteArray.size s58) : Int)) ∧
                                             ∃ I60 : Int → World → Prop, ∃ I61 : Int → World → Nat, (I60 (IntKind.wrap IntKind.i64 (byteAt s58 0)) w57 ∧
                                              ∀ n62 : Int,
                                              ∀ w63 : World,
                                              (I60 n62 w63 →
                                                (((decide (n62 < 256) = true →
                                                   ((0 ≤ n62 ∧
                                                     n62 < (↑256 : Int)) ∧
                                                    ∃ n64 : Int, (World.cell? w63 (Addr.add (Addr.mk (Array.size (World.heap w37)) 0 none) (Int.toNat n62 * 1)) = some (Value.int IntKind.i64 n64) ∧
                                                     ((0 ≤ n62 ∧
                                                       n62 < (↑256 : Int)) ∧
                                                      (Wr w63 (Addr.add (Addr.mk (Array.size (World.heap w37)) 0 none) (Int.toNat n62 * 1)) ∧
                                                       ∀ w65 : World,
                                                       (w65 = World.setCell w63 (Addr.add (Addr.mk (Array.size (World.heap w37)) 0 none) (Int.toNat n62 * 1)) (Value.int IntKind.i64 (IntKind.wrap IntKind.i64 (n64 + 1))) →
                                                         (I60 (IntKind.wrap IntKind.i64 (n62 + 1)) w65 ∧
                                                          I61 (IntKind.wrap IntKind.i64 (n62 + 1)) w65 < I61 n62 w63)))))))) ∧
                                                 (decide (n62 < 256) = false →
                                                   (ByteArray.size s43 + ByteArray.size s58 ≤ 9223372036854775807 ∧
                                                    ∃ n66 : Int, (World.cell? w63 (Addr.mk (Array.size (World.heap w48)) 2 none) = some (Value.int IntKind.u32 n66) ∧
                                                     Calls Try.prog (23 : Nat) (Array.mk [Value.int IntKind.u64 (IntKind.wrap IntKind.u64 n66), Value.int IntKind.i64 4]) (w63) (fun e67 w68 =>
                                                       ∃ s69 : ByteArray, (e67 = Ending.returned (Value.string s69) ∧
                                                        (ByteArray.size s44 + ByteArray.size s69 ≤ 9223372036854775807 ∧
                                                         ∃ I70 : Bool → World → Prop, ((∃ n71 : Int, (World.cell? w68 (Addr.mk (Array.size (World.heap w48)) 1 none) = some (Value.int IntKind.i64 n71) ∧
                                                           (((decide (n71 ≥ x2) = true →
                                                              I70 true w68)) ∧
                                                            (decide (n71 ≥ x2) = false →
                                                              ∃ n72 : Int, (World.cell? w68 (Addr.mk (Array.size (World.heap w48)) 1 none) = some (Value.int IntKind.i64 n72) ∧
                                                               I70 (decide (n72 ≥ 2147483648)) w68))))) ∧
                                                          ∀ b73 : Bool,
                                                          ∀ w74 : World,
                                                          (I70 b73 w74 →
                                                            (((b73 = true →
                                                               ((8 : Int) ≠ (0 : Int) ∧
                                                                Calls Try.prog (23 : Nat) (Array.mk [Value.int IntKind.u64 (IntKind.wrap IntKind.u64 (IntKind.wrap IntKind.i64 (2147483648 + IntKind.wrap IntKind.i64 (Int.tdiv (↑(ByteArray.size s46) : Int) 8)))), Value.int IntKind.i64 4]) (w74) (fun e75 w76 =>
                                                                  ∃ s77 : ByteArray, (e75 = Ending.returned (Value.string s77) ∧
                                                                   (ByteArray.size s45 + ByteArray.size s77 ≤ 9223372036854775807 ∧
                                                                    ∃ n78 : Int, (World.cell? w76 (Addr.mk (Array.size (World.heap w48)) 1 none) = some (Value.int IntKind.i64 n78) ∧
                                                                     Calls Try.prog (23 : Nat) (Array.mk [Value.int IntKind.u64 (IntKind.wrap IntKind.u64 n78), Value.int IntKind.i64 8]) (w76) (fun e79 w80 =>
                                                                       ∃ s81 : ByteArray, (e79 = Ending.returned (Value.string s81) ∧
                                                                        (ByteArray.size s46 + ByteArray.size s81 ≤ 9223372036854775807 ∧
                                                                         (I41 (s43 ++ s58) (s44 ++ s69) (s45 ++ s77) (s46 ++ s81) (IntKind.wrap IntKind.i64 (n47 + 1)) w80 ∧
                                                                          I42 (s43 ++ s58) (s44 ++ s69) (s45 ++ s77) (s46 ++ s81) (IntKind.wrap IntKind.i64 (n47 + 1)) w80 < I42 s43 s44 s45 s46 n47 w48))))))))))) ∧
                                                             (b73 = false →
                                                               ∃ n82 : Int, (World.cell? w74 (Addr.mk (Array.size (World.heap w48)) 1 none) = some (Value.int IntKind.i64 n82) ∧
                                                                Calls Try.prog (23 : Nat) (Array.mk [Value.int IntKind.u64 (IntKind.wrap IntKind.u64 n82), Value.int IntKind.i64 4]) (w74) (fun e83 w84 =>
                                                                  ∃ s85 : ByteArray, (e83 = Ending.returned (Value.string s85) ∧
                                                                   (ByteArray.size s45 + ByteArray.size s85 ≤ 9223372036854775807 ∧
                                                                    (I41 (s43 ++ s58) (s44 ++ s69) (s45 ++ s85) s46 (IntKind.wrap IntKind.i64 (n47 + 1)) w84 ∧
                                                                     I42 (s43 ++ s58) (s44 ++ s69) (s45 ++ s85) s46 (IntKind.wrap IntKind.i64 (n47 + 1)) w84 < I42 s43 s44 s45 s46 n47 w48))))))))))))))))))))))))))))) ∧
                                (decide (n47 < (↑l3.2 : Int)) = false →
                                  ∃ v86 : Value, (Sem.run Try.prog (loadVar 56 (Addr.mk (Array.size (World.heap w37)) 0 none)) w48 = Result.ok v86 w48 ∧
                                   ∃ I87 : ByteArray → Int → World → Prop, ∃ I88 : ByteArray → Int → World → Nat, (I87 (ByteArray.mk (Array.mk [255, 116, 79, 99, 0, 0, 0, 2])) 0 w48 ∧
                                    ∀ s89 : ByteArray,
                                    ∀ n90 : Int,
                                    ∀ w91 : World,
                                    (I87 s89 n90 w91 →
                                      (((decide (n90 < 256) = true →
                                         ∃ w92 : World, ∃ n93 : Int, (Sem.run Try.prog (Instr.index 56 v86 (Value.int IntKind.i64 n90)) w91 = Result.ok (Value.int IntKind.i64 n93) w92 ∧
                                          Calls Try.prog (23 : Nat) (Array.mk [Value.int IntKind.u64 (IntKind.wrap IntKind.u64 n93), Value.int IntKind.i64 4]) (w92) (fun e94 w95 =>
                                            ∃ s96 : ByteArray, (e94 = Ending.returned (Value.string s96) ∧
                                             (ByteArray.size s89 + ByteArray.size s96 ≤ 9223372036854775807 ∧
                                              (I87 (s89 ++ s96) (IntKind.wrap IntKind.i64 (n90 + 1)) w95 ∧
                                               I88 (s89 ++ s96) (IntKind.wrap IntKind.i64 (n90 + 1)) w95 < I88 s89 n90 w91))))))) ∧
                                       (decide (n90 < 256) = false →
                                         (ByteArray.size s43 + ByteArray.size s44 ≤ 9223372036854775807 ∧
                                          (ByteArray.size (s43 ++ s44) + ByteArray.size s45 ≤ 9223372036854775807 ∧
                                           (ByteArray.size (s43 ++ s44 ++ s45) + ByteArray.size s46 ≤ 9223372036854775807 ∧
                                            (ByteArray.size (s43 ++ s44 ++ s45 ++ s46) + ByteArray.size s38 ≤ 9223372036854775807 ∧
                                             (ByteArray.size s89 + ByteArray.size (s43 ++ s44 ++ s45 ++ s46 ++ s38) ≤ 9223372036854775807 ∧
                                              Calls Try.prog (24 : Nat) (Array.mk [Value.string (s89 ++ (s43 ++ s44 ++ s45 ++ s46 ++ s38))]) (w91) (fun e97 w98 =>
                                                ∃ s99 : ByteArray, (e97 = Ending.returned (Value.string s99) ∧
                                                 (ByteArray.size (s89 ++ (s43 ++ s44 ++ s45 ++ s46 ++ s38)) + ByteArray.size s99 ≤ 9223372036854775807 ∧
                                                  R (Value.tuple (Array.mk [Value.string (s89 ++ (s43 ++ s44 ++ s45 ++ s46 ++ s38) ++ s99), Value.int IntKind.i64 0])) w98))))))))))))))))))))))))))))))))))
theorem vc_packidx_Build_ok {x0a : Option Addr} {x0n : Nat} {x0c : Nat} {x1 : ByteArray} {x2 : Int} {w : World} {R : Value → World → Prop} {R' : Ending → World → Prop} (h : vc_packidx_Build x0a x0n x0c x1 x2 w R) (hR : ∀ v w', R v w' → R' (.returned v) w') :
    Calls Try.prog 6 #[.slice x0a x0n x0c, .string x1, .int .i64 x2] w R' :=
  calls_of_body (vs := [(.slice x0a x0n x0c, false), (.string x1, false), (.int .i64 x2, false)]) (ty := ty) (ann := ⟨[(27, [(123, .bool)])], [(6, [(35, .int .i64)]), (17, [(14, .str), (15, .str), (16, .str), (17, .str), (84, .int .i64)]), (21, [(22, .int .i64)]), (33, [(23, .str), (146, .int .i64)])], [(8, .held [(0, true), (1, true), (2, false), (3, true), (4, true), (5, true), (6, true), (7, true), (8, true), (9, true), (10, true), (11, true), (12, true), (13, true), (14, true), (15, true), (16, true), (17, true), (18, true), (19, true), (20, true), (21, true), (22, true), (23, true), (24, true), (25, true), (26, true), (27, true), (28, true)])], []⟩) (c := Try.f6.body.getD .skip) (by kernel_rfl) Try.func6 (by kernel_rfl) (by kernel_rfl) (Eq.mp (by kernel_rfl) h) hR
/-- packidx.Build$1 -/
def vc_packidx_Build_1 (x0_0 : ByteArray) (x0_1 : Int) (x0_2 : Int) (x1_0 : ByteArray) (x1_1 : Int) (x1_2 : Int) (w : World) (R : Value → World → Prop) : Prop :=
  ∀ w1 : World,
  (w1 = World.alloc w (Obj.cells (Array.mk [Value.string x0_0, Value.int IntKind.i64 x0_1, Value.int IntKind.u32 x0_2]) 32) →
    ∀ w2 : World,
    (w2 = World.alloc w1 (Obj.cells (Array.mk [Value.string x1_0, Value.int IntKind.i64 x1_1, Value.int IntKind.u32 x1_2]) 32) →
      ∃ s3 : ByteArray, (World.cell? w2 (Addr.mk (Array.size (World.heap w)) 0 none) = some (Value.string s3) ∧
       ∃ s4 : ByteArray, (World.cell? w2 (Addr.mk (Array.size (World.heap w1)) 0 none) = some (Value.string s4) ∧
        Calls Try.prog (20 : Nat) (Array.mk [Value.string s3, Value.string s4]) (w2) (fun e5 w6 =>
          ∃ n7 : Int, (e5 = Ending.returned (Value.int IntKind.i64 n7) ∧
           R (Value.int IntKind.i64 n7) w6))))))
theorem vc_packidx_Build_1_ok {x0_0 : ByteArray} {x0_1 : Int} {x0_2 : Int} {x1_0 : ByteArray} {x1_1 : Int} {x1_2 : Int} {w : World} {R : Value → World → Prop} {R' : Ending → World → Prop} (h : vc_packidx_Build_1 x0_0 x0_1 x0_2 x1_0 x1_1 x1_2 w R) (hR : ∀ v w', R v w' → R' (.returned v) w') :
    Calls Try.prog 19 #[.agg #[.string x0_0, .int .i64 x0_1, .int .u32 x0_2], .agg #[.string x1_0, .int .i64 x1_1, .int .u32 x1_2]] w R' :=
  calls_of_body (vs := [(.agg #[.string x0_0, .int .i64 x0_1, .int .u32 x0_2], false), (.agg #[.string x1_0, .int .i64 x1_1, .int .u32 x1_2], false)]) (ty := ty) (ann := ⟨[], [], [], []⟩) (c := Try.f19.body.getD .skip) (by kernel_rfl) Try.func19 (by kernel_rfl) (by kernel_rfl) (Eq.mp (by kernel_rfl) h) hR
/-- slices.Clone[[]packidx.Row,packidx.Row] -/
def vc_slices_Clone (x0a : Option Addr) (x0n : Nat) (x0c : Nat) (w : World) (R : Value → World → Prop) : Prop :=
  (((Option.isNone x0a = true →
     R (Value.slice none 0 0) w)) ∧
   (Option.isNone x0a = false →
     ∀ w1 : World,
     (w1 = World.alloc w (Obj.cells (Array.mk []) 32) →
       ∃ w2 : World, ∃ l3 : Sl, (Sem.run Try.prog (Builtin.append_ (Array.mk [22, 22]) 22 (Array.mk [Value.slice (some (Addr.mk (Array.size (World.heap w)) 0 none)) 0 0, Value.slice x0a x0n x0c])) w1 = Result.ok (Value.slice l3.1 l3.2 l3.3) w2 ∧
        R (Value.slice l3.1 l3.2 l3.3) w2))))
theorem vc_slices_Clone_ok {x0a : Option Addr} {x0n : Nat} {x0c : Nat} {w : World} {R : Value → World → Prop} {R' : Ending → World → Prop} (h : vc_slices_Clone x0a x0n x0c w R) (hR : ∀ v w', R v w' → R' (.returned v) w') :
    Calls Try.prog 17 #[.slice x0a x0n x0c] w R' :=
  calls_of_body (vs := [(.slice x0a x0n x0c, false)]) (ty := ty) (ann := ⟨[], [], [], []⟩) (c := Try.f17.body.getD .skip) (by kernel_rfl) Try.func17 (by kernel_rfl) (by kernel_rfl) (Eq.mp (by kernel_rfl) h) hR
end Go.Proofs.Ytoagdpjickippaa

/- packidx.Build: what rows have as bytes. Conditions: the names are no longer than memory. -/
set_option linter.unusedVariables false
namespace PkM
open SumM
theorem nearV_snoc (far : Int) : ∀ (k : Nat) (l : List Rw) (r : Rw), nearV far k (l ++ [r]) = nearV far k l ++ [if isFar far r = true then 2147483648 + k + (l.filter (isFar far)).length else r.2.1]
  | k, [], r => by
    show (if isFar far r = true then (2147483648 + k) :: nearV far (k + 1) [] else r.2.1 :: nearV far k []) = [] ++ [if isFar far r = true then 2147483648 + k + (([] : List Rw).filter (isFar far)).length else r.2.1]
    by_cases h : isFar far r = true
    · rw [if_pos h, if_pos h]; rfl
    · rw [if_neg h, if_neg h]; rfl
  | k, x :: l, r => by
    rw [List.cons_append, nearV, nearV]
    by_cases hx : isFar far x = true
    · rw [if_pos hx, if_pos hx, nearV_snoc far (k + 1) l r, List.filter_cons_of_pos hx, List.length_cons, show 2147483648 + (k + 1) + (l.filter (isFar far)).length = 2147483648 + k + ((l.filter (isFar far)).length + 1) by omega]; rfl
    · rw [if_neg hx, if_neg hx, nearV_snoc far k l r, List.filter_cons_of_neg hx]; rfl
theorem cnt_snoc (l : List Rw) (r : Rw) (c : Nat) : cnt (l ++ [r]) c = if hd0 r.1 ≤ c then cnt l c + 1 else cnt l c := by
  unfold cnt
  rw [List.filter_append, List.length_append]
  by_cases h : hd0 r.1 ≤ c
  · rw [if_pos h, List.filter_cons_of_pos (by simpa using h)]; rfl
  · rw [if_neg h, List.filter_cons_of_neg (by simpa using h)]; rfl
end PkM
namespace Go.Proofs.Ytoagdpjickippaa
open Go Vc HexM SumM ShaM Go.Proofs Go.Sort

theorem bs_cat (A B : List UInt8) : (⟨A.toArray⟩ : ByteArray) ++ ⟨B.toArray⟩ = ⟨(A ++ B).toArray⟩ := bs_ext (by rw [bs_app, bs_mk, bs_mk, bs_mk])
def cmpP (x y : PRow) : Int := Lib.compareBytes x.1.data.toList y.1.data.toList
theorem ltP (x y : PRow) : ltOf cmpP x y = decide (x.1.data.toList < y.1.data.toList) := decide_eq_decide.2 (cmp_lt _ _)
theorem swoP : SWO (ltOf cmpP) where
  irrefl x := by rw [ltP, decide_eq_false_iff_not]; exact List.lt_irrefl _
  trans x y z h1 h2 := by
    rw [ltP, decide_eq_true_eq] at *
    exact List.lt_trans h1 h2
  ntrans x y z h1 h2 := by
    rw [ltP, decide_eq_false_iff_not] at *
    intro h
    rcases lt_tri x.1.data.toList y.1.data.toList with h3 | h3 | h3
    · exact h1 h3
    · rw [h3] at h; exact h2 h
    · exact h2 (List.lt_trans h3 h)
theorem byId_spec (x y : PRow) (w : World) : Calls Try.prog F_packidx_Build_1 #[.agg (encP x).toArray, .agg (encP y).toArray] w fun e w' => e = .returned (.int .i64 (cmpP x y)) ∧ ∃ q os', w' = grow (w.drewN q) os' := by
  refine vc_packidx_Build_1_ok (R := fun v w' => v = .int .i64 (cmpP x y) ∧ ∃ q os', w' = grow (w.drewN q) os') ?_ (fun v w' h => ⟨by rw [h.1], h.2⟩)
  intro w1 h1 w2 h2
  have hb1 : w1.heap[w.heap.size]? = some (.cells (encP x).toArray T_packidx_Row (0, 0)) := by rw [h1]; exact alloc_new _ _
  have hb2 : w2.heap[w1.heap.size]? = some (.cells (encP y).toArray T_packidx_Row (0, 0)) := by rw [h2]; exact alloc_new _ _
  have hb1' : w2.heap[w.heap.size]? = some (.cells (encP x).toArray T_packidx_Row (0, 0)) := by rw [h2]; exact (Fr.alloc (fun _ => False) _ _).keep hb1 (by simp)
  refine ⟨x.1, by rw [cell_blk hb1']; rfl, y.1, by rw [cell_blk hb2]; rfl, (compare_spec _ _ w2).mono ?_⟩
  rintro e w6 ⟨rfl, rfl⟩
  refine ⟨_, rfl, rfl, 0, #[.cells (encP x).toArray T_packidx_Row (0, 0), .cells (encP y).toArray T_packidx_Row (0, 0)], ?_⟩
  rw [h2, h1, alloc_eq_grow, alloc_eq_grow, grow_grow]
  rfl
instance : Inhabited PRow := ⟨⟨#[]⟩, 0, 0⟩
/-- 'slices.SortFunc' of rows by their names. -/
theorem sortP_spec {w : World} {base : Nat} {e : TypeId} {l : Sl} {xs : List PRow} (h : OwnK encP 3 w base e l xs) (hsz : xs.length ≤ 1000000) :
    Calls Try.prog 18 #[.slice l.a l.len l.cap, .func (.func F_packidx_Build_1) #[] #[]] w fun r w' =>
      r = .returned (.tuple #[]) ∧ ∃ ys : List PRow, ys.Perm xs ∧ NearP ys ∧ OwnK encP 3 w' base e l ys ∧ Fr (At l) w w' := by
  have hlen := h.1
  cases ha : l.a with
  | none =>
    have hl0 : l.len = 0 ∧ l.cap = 0 := by
      rcases h.2.2 with ⟨hv, _⟩ | ⟨g, cap, cur, hv, _⟩
      · simp only [Value.slice.injEq] at hv; exact ⟨hv.2.1, hv.2.2⟩
      · simp only [Value.slice.injEq] at hv; rw [ha] at hv; cases hv.1
    have hx : xs = [] := List.length_eq_zero_iff.1 (by omega)
    subst hx
    rw [hl0.1, hl0.2]
    refine (AnyF.slices_SortFunc_none sortLays none 0 _ w).mono ?_
    rintro r w' ⟨rfl, rfl⟩
    exact ⟨rfl, [], List.Perm.refl _, List.Pairwise.nil, h, .refl _ _⟩
  | some ad =>
    obtain ⟨g, rfl⟩ : ∃ g, ad = ⟨g, 0, none⟩ := by
      rcases h.2.2 with ⟨hv, _⟩ | ⟨g, cap, cur, hv, _⟩
      · simp only [Value.slice.injEq] at hv; rw [ha] at hv; cases hv.1
      · simp only [Value.slice.injEq] at hv; rw [ha] at hv; exact ⟨g, Option.some.inj hv.1⟩
    obtain ⟨cur, hg, _⟩ := own_row h ha
    have hc := AnyQ.slices_SortFunc sortLays 3 Try.isAgg32 Try.sizeOf32 encP (fun _ => rfl) (fun x v hv => by
      simp only [encP, List.mem_cons, List.mem_nil_iff, or_false] at hv
      rcases hv with rfl | rfl | rfl <;> rfl) cmpP swoP F_packidx_Build_1 #[] g 0 l.cap xs.toArray w (enters_of (P := Try.prog) Try.func19 (by kernel_rfl) rfl)
      (fun m os dk _ x y => byId_spec x y _) (own_holds (fun _ => rfl) (by decide) h ha) (lt_blk hg) (by rw [List.size_toArray]; omega)
    have hl : l.len = xs.length := h.1.symm
    rw [hl]
    rw [List.size_toArray] at hc
    refine hc.mono ?_
    rintro r w' ⟨rfl, d', n, os, ⟨p1, _, p3⟩, p4, rfl⟩
    have p1 : d'.size = xs.length := by simpa using p1
    refine ⟨rfl, d'.toList, ?_, ?_, ?_, ?_⟩
    · have e1 : (d'.extract 0 xs.length).toList = d'.toList := by rw [← p1]; simp
      have e2 : (xs.toArray.extract 0 xs.length).toList = xs := by simp
      rw [e1, e2] at p3
      exact p3
    · unfold NearP
      rw [List.pairwise_iff_getElem]
      intro i j hi hj hij
      have := p4 i j (Nat.zero_le _) hij (by rw [Array.length_toList] at hj; omega)
      rw [Array.length_toList] at hi hj
      rw [getElem!_pos d' i hi, getElem!_pos d' j hj, ltP, decide_eq_false_iff_not] at this
      simpa using this
    · have := own_sorted (enc := encP) (k := 3) (fun _ => rfl) (by decide) h ha n d'.toList (by rw [Array.length_toList, p1]) os
      simpa using this
    · have := sort_fr (enc := encP) (k := 3) (w := w) (g := g) n d'.toList os
      exact (by simpa using this : Fr (· = g) w (sortWorldK encP 3 w g 0 n d' os)).mono fun q _ e => ⟨_, ha, e⟩
theorem cloneP_spec {w : World} {a : Option Addr} {n c : Nat} {xs : List PRow} (hr : ReadsK encP 3 w a xs) (hn : xs.length = n) (hl : n ≤ 1000000) : Calls Try.prog F_slices_Clone #[.slice a n c] w fun e w' =>
    ∃ l, e = .returned (.slice l.a l.len l.cap) ∧ OwnK encP 3 w' w.heap.size T_packidx_Row l xs ∧ Fr (fun _ => False) w w' := by
  refine vc_slices_Clone_ok (R := fun v w' => ∃ l : Sl, v = .slice l.a l.len l.cap ∧ OwnK encP 3 w' w.heap.size T_packidx_Row l xs ∧ Fr (fun _ => False) w w') ?_ (fun v w' ⟨l, h⟩ => ⟨l, by rw [h.1], h.2⟩)
  refine ⟨fun ha => ?_, fun ha w1 h1 => ?_⟩
  · have ha : a = none := by simpa using ha
    have hx : xs = [] := by
      cases xs with
      | nil => rfl
      | cons x r =>
        obtain ⟨ad, h, _⟩ := hr 0 x rfl
        rw [ha] at h; cases h
    subst hx
    exact ⟨⟨none, 0, 0⟩, rfl, .nil _ _ _, .refl _ _⟩
  · have hf1 : Fr (fun _ => False) w w1 := by rw [h1]; exact .alloc _ _ _
    have ho1 : OwnK encP 3 w1 w.heap.size T_packidx_Row ⟨some ⟨w.heap.size, 0, none⟩, 0, 0⟩ [] := by rw [h1]; exact .empty w _
    obtain ⟨w2, l3, hr2, ho2, hf2⟩ := append_allK elP ho1 c (hr.keep hf1 (by simp)) (by simp [maxLen]; omega) (by simp; omega) hf1.size hn
    exact ⟨w2, l3, hr2, l3, rfl, ho2, hf1.trans hf2 fun q hq ⟨y, hy, e⟩ => by cases hy; simp only at e; omega⟩
theorem boxP_run (w : World) (x : PRow) : (storeVar T_packidx_Row ⟨w.heap.size, 0, none⟩ (.agg #[.string x.1, .int .i64 x.2.1, .int .u32 x.2.2])).run Try.prog (w.alloc (.cells #[.string ⟨#[]⟩, .int .i64 0, .int .u32 0] T_packidx_Row)) = .ok () (w.alloc (.cells (encP x).toArray T_packidx_Row)) :=
  run_storeVar_new w T_packidx_Row _ _ (by kernel_rfl) rfl (by simp [Value.oneCell'])
theorem boxP_cell (w : World) (x : PRow) {w' : World} {X : Nat → Prop} (hf : Fr X (w.alloc (.cells (encP x).toArray T_packidx_Row)) w') (hx : ¬ X w.heap.size) {j : Nat} {v : Value} (hv : (encP x)[j]? = some v) : w'.cell? ⟨w.heap.size, j, none⟩ = some v :=
  hf.cell (by rw [cell_blk (alloc_new w _)]; simpa using hv) hx
/-- How many names are below a first byte. -/
def CntAt (w : World) (b : Nat) (F : Nat → Nat) : Prop := ∃ cs : Array Value, w.heap[b]? = some (.cells cs T_256_int (0, 0)) ∧ cs.size = 256 ∧ ∀ c, c < 256 → cs[c]? = some (.int .i64 (F c : Nat))
theorem CntAt.keep {w w1 : World} {b : Nat} {F : Nat → Nat} (h : CntAt w b F) {X : Nat → Prop} (hf : Fr X w w1) (hx : ¬ X b) : CntAt w1 b F := by
  obtain ⟨cs, h1, h2⟩ := h
  exact ⟨cs, hf.keep h1 hx, h2⟩
theorem CntAt.at {w : World} {b : Nat} {F : Nat → Nat} (h : CntAt w b F) {c : Nat} (hc : c < 256) : w.cell? ⟨b, c, none⟩ = some (.int .i64 (F c : Nat)) ∧ Wr w ⟨b, c, none⟩ := by
  obtain ⟨cs, h1, h2, h3⟩ := h
  exact ⟨by rw [cell_blk h1]; exact h3 c hc, wr_blk h1 (by omega)⟩
theorem CntAt.set {w : World} {b : Nat} {F G : Nat → Nat} (h : CntAt w b F) {c v : Nat} (hc : c < 256) (hG : ∀ k, k < 256 → G k = if k = c then v else F k) : CntAt (w.setCell ⟨b, c, none⟩ (.int .i64 (v : Nat))) b G := by
  obtain ⟨cs, h1, h2, h3⟩ := h
  refine ⟨_, set_blk h1 _ _, by simpa using h2, fun k hk => ?_⟩
  rw [Array.getElem?_setIfInBounds, hG k hk]
  by_cases hkc : k = c
  · rw [if_pos hkc.symm, if_pos (by omega), if_pos hkc]
  · rw [if_neg (fun e => hkc e.symm), if_neg hkc]; exact h3 k hk
theorem CntAt.load {w : World} {b : Nat} {F : Nat → Nat} (h : CntAt w b F) : (loadVar T_256_int ⟨b, 0, none⟩).run Try.prog w = .ok (.agg ((List.range 256).map fun c => .int .i64 (F c : Nat)).toArray) w := by
  refine load_agg (vs := (List.range 256).map fun c => Value.int .i64 (F c : Nat)) (agg_of (by kernel_rfl)) (by rw [List.length_map, List.length_range]; kernel_rfl) fun k v hv => ?_
  rw [add_lit, Nat.zero_add]
  rw [List.getElem?_map] at hv
  by_cases hk : k < 256
  · rw [List.getElem?_range hk, Option.map_some, Option.some.injEq] at hv
    rw [← hv]; exact (h.at hk).1
  · rw [List.getElem?_eq_none (by rw [List.length_range]; omega)] at hv; cases hv
theorem id_unhex (s : ByteArray) : isId s.data.toList = ((unhexL s.data.toList).isSome && decide ((unhexS s).size = 20)) := by
  unfold isId unhexS
  cases h : unhexL s.data.toList with
  | none => rfl
  | some r =>
    have := unhexL_len _ _ h
    show (true && (s.data.toList.length == 40)) = (true && decide ((⟨r.toArray⟩ : ByteArray).size = 20))
    rw [Bool.true_and, Bool.true_and, bs_mksize, Bool.eq_iff_iff, beq_iff_eq, decide_eq_true_eq]; omega
theorem unhexS_raw {s : ByteArray} (h : isId s.data.toList = true) : unhexS s = ⟨(rawB s).toArray⟩ ∧ (unhexS s).size = 20 ∧ (unhexL s.data.toList).isSome = true := by
  obtain ⟨h1, h2, h3⟩ := rawB_id h
  have : unhexS s = ⟨(rawB s).toArray⟩ := by unfold unhexS; rw [h1]
  exact ⟨this, by rw [this, bs_mksize, h2], by rw [h1]; rfl⟩
theorem digest_len (t : List UInt8) : (sha1D t).length = 20 := dig1_len t
end Go.Proofs.Ytoagdpjickippaa

/- Formulas of 1 Go functions of this seat (written by a program of the author's, vcgen.py), and that each is enough for the call. No condition. -/
set_option linter.unusedVariables false
namespace Go.Proofs.Ytoagdpjickippaa
open Go Vc Go.Proofs
set_option maxRecDepth 100000
/-- cartularyref07.Begins -/
def vc_cartularyref07_Begins (x0 : ByteArray) (x1 : ByteArray) (w : World) (R : Value → World → Prop) : Prop :=
  (((decide ((↑(ByteArray.size x0) : Int) ≥ (↑(ByteArray.size x1) : Int)) = true →
     ((0 ≤ (↑(ByteArray.size x1) : Int) ∧
       (↑(ByteArray.size x1) : Int) ≤ (↑(ByteArray.size x0) : Int)) ∧
      R (Value.bool (ByteArray.toList (ByteArray.extract x0 0 (Int.toNat (↑(ByteArray.size x1) : Int))) == ByteArray.toList x1)) w))) ∧
   (decide ((↑(ByteArray.size x0) : Int) ≥ (↑(ByteArray.size x1) : Int)) = false →
     R (Value.bool false) w))
theorem vc_cartularyref07_Begins_ok {x0 : ByteArray} {x1 : ByteArray} {w : World} {R : Value → World → Prop} {R' : Ending → World → Prop} (h : vc_cartularyref07_Begins x0 x1 w R) (hR : ∀ v w', R v w' → R' (.returned v) w') :
    Calls Try.prog 37 #[.string x0, .string x1] w R' :=
  calls_of_body (vs := [(.string x0, false), (.string x1, false)]) (ty := ty) (ann := ⟨[], [], [], []⟩) (c := Try.f37.body.getD .skip) (by kernel_rfl) Try.func37 (by kernel_rfl) (by kernel_rfl) (Eq.mp (by kernel_rfl) h) hR
end Go.Proofs.Ytoagdpjickippaa

/- The reference's Begins. No condition. -/
set_option linter.unusedVariables false
namespace Go.Proofs.Ytoagdpjickippaa
open Go Vc Go.Proofs

theorem begins_spec (s t : ByteArray) (w : World) : Calls Try.prog F_cartularyref07_Begins #[.string s, .string t] w fun e w' => e = .returned (.bool (begB s t)) ∧ w' = w := by
  refine vc_cartularyref07_Begins_ok (R := fun v w' => v = .bool (begB s t) ∧ w' = w) ?_ (fun v w' h => ⟨by rw [h.1], h.2⟩)
  refine ⟨fun h => ⟨⟨by omega, by have := of_decide_eq_true h; omega⟩, ?_, rfl⟩, fun h => ⟨?_, rfl⟩⟩
  · have h := of_decide_eq_true h
    rw [Int.toNat_natCast, begB_cut (by omega)]
  · rw [begB_short (by have := of_decide_eq_false h; omega)]
end Go.Proofs.Ytoagdpjickippaa

/- Formulas of 1 Go functions of this seat (written by a program of the author's, vcgen.py), and that each is enough for the call. No condition. -/
set_option linter.unusedVariables false
namespace Go.Proofs.Ytoagdpjickippaa
open Go Vc Go.Proofs
set_option maxRecDepth 100000
/-- cartularyref07.Same -/
def vc_cartularyref07_Same (x0a : Option Addr) (x0n : Nat) (x0c : Nat) (x1a : Option Addr) (x1n : Nat) (x1c : Nat) (w : World) (R : Value → World → Prop) : Prop :=
  (((((↑x0n : Int) != (↑x1n : Int)) = true →
     R (Value.bool false) w)) ∧
   (((↑x0n : Int) != (↑x1n : Int)) = false →
     ∃ I1 : Int → World → Prop, ∃ I2 : Int → World → Nat, (I1 0 w ∧
      ∀ n3 : Int,
      ∀ w4 : World,
      (I1 n3 w4 →
        (((decide (n3 < (↑x0n : Int)) = true →
           ((0 ≤ n3 ∧
             n3 < (↑x0n : Int)) ∧
            ∃ a5 : Addr, (x0a = some a5 ∧
             ∃ s6 : ByteArray, (World.cell? w4 (Addr.add a5 (Int.toNat n3 * 1)) = some (Value.string s6) ∧
              ((0 ≤ n3 ∧
                n3 < (↑x1n : Int)) ∧
               ∃ a7 : Addr, (x1a = some a7 ∧
                ∃ s8 : ByteArray, (World.cell? w4 (Addr.add a7 (Int.toNat n3 * 1)) = some (Value.string s8) ∧
                 ∀ w9 : World,
                 (Drew w4 w9 →
                   ((((!ByteArray.toList s6 == ByteArray.toList s8) = true →
                      R (Value.bool false) w9)) ∧
                    ((!ByteArray.toList s6 == ByteArray.toList s8) = false →
                      (I1 (IntKind.wrap IntKind.i64 (n3 + 1)) w9 ∧
                       I2 (IntKind.wrap IntKind.i64 (n3 + 1)) w9 < I2 n3 w4)))))))))))) ∧
         (decide (n3 < (↑x0n : Int)) = false →
           R (Value.bool true) w4))))))
theorem vc_cartularyref07_Same_ok {x0a : Option Addr} {x0n : Nat} {x0c : Nat} {x1a : Option Addr} {x1n : Nat} {x1c : Nat} {w : World} {R : Value → World → Prop} {R' : Ending → World → Prop} (h : vc_cartularyref07_Same x0a x0n x0c x1a x1n x1c w R) (hR : ∀ v w', R v w' → R' (.returned v) w') :
    Calls Try.prog 38 #[.slice x0a x0n x0c, .slice x1a x1n x1c] w R' :=
  calls_of_body (vs := [(.slice x0a x0n x0c, false), (.slice x1a x1n x1c, false)]) (ty := ty) (ann := ⟨[], [(4, [(13, .int .i64)])], [(6, .quiet)], []⟩) (c := Try.f38.body.getD .skip) (by kernel_rfl) Try.func38 (by kernel_rfl) (by kernel_rfl) (Eq.mp (by kernel_rfl) h) hR
end Go.Proofs.Ytoagdpjickippaa

/- The reference's Same. No condition. -/
set_option linter.unusedVariables false
namespace Go.Proofs.Ytoagdpjickippaa
open Go Vc Go.Proofs

theorem same07_spec {w : World} {a b : Option Addr} {n m c d : Nat} {xs ys : List ByteArray} (hx : Reads w a (strV xs)) (hy : Reads w b (strV ys)) (hn : xs.length = n) (hm : ys.length = m) (hl : n ≤ 1000000) : Calls Try.prog F_cartularyref07_Same #[.slice a n c, .slice b m d] w fun e w' => (∃ r : Bool, e = .returned (.bool r) ∧ (r = true ↔ xs = ys)) ∧ Drew w w' := by
  refine vc_cartularyref07_Same_ok (R := fun v w' => (∃ r : Bool, v = .bool r ∧ (r = true ↔ xs = ys)) ∧ Drew w w') ?_ (fun v w' ⟨⟨r, h1, h2⟩, h3⟩ => ⟨⟨r, by rw [h1], h2⟩, h3⟩)
  refine ⟨fun h => ⟨⟨false, rfl, fun h => (by cases h), fun e => ?_⟩, .refl _⟩, fun h => ?_⟩
  · rw [← hn, ← hm, e] at h; simp at h
  have hnm : n = m := by
    have : ((n : Int) != (m : Int)) = false := h
    have : (n : Int) = m := by simpa using this
    omega
  refine ⟨fun i w' => ∃ k : Nat, i = k ∧ k ≤ n ∧ xs.take k = ys.take k ∧ Drew w w', fun i _ => n - i.toNat, ⟨0, rfl, Nat.zero_le _, rfl, .refl _⟩, ?_⟩
  rintro i w4 ⟨k, rfl, hk, heq, d4⟩
  have e1 : IntKind.i64.wrap ((k : Int) + 1) = ((k + 1 : Nat) : Int) := by rw [wrap_i64 (by omega) (by omega)]; omega
  rw [e1]
  refine ⟨fun hlt => ?_, fun hge => ⟨⟨true, rfl, fun _ => ?_, fun _ => rfl⟩, d4⟩⟩
  · have hlt := of_decide_eq_true hlt
    have h1 : xs[k]? = some xs[k] := List.getElem?_eq_getElem (by omega)
    have h2 : ys[k]? = some ys[k] := List.getElem?_eq_getElem (by omega)
    generalize xs[k] = x at h1
    generalize ys[k] = y at h2
    have fd : Fr (fun _ => False) w w4 := .drew _ d4
    obtain ⟨ad, had, hc⟩ := hx k (.string x) (by simp [strV, h1])
    obtain ⟨bd, hbd, hc'⟩ := hy k (.string y) (by simp [strV, h2])
    refine ⟨⟨by omega, by omega⟩, ad, had, x, by rw [Int.toNat_natCast, Nat.mul_one]; exact fd.cell hc (by simp), ⟨by omega, by omega⟩, bd, hbd, y, by rw [Int.toNat_natCast, Nat.mul_one]; exact fd.cell hc' (by simp), fun w9 d9 => ⟨fun h => ⟨⟨false, rfl, fun h => (by cases h), fun e => ?_⟩, d4.trans d9⟩, fun h => ⟨⟨k + 1, rfl, by omega, ?_, d4.trans d9⟩, by dsimp only; omega⟩⟩⟩
    · rw [e, h2] at h1
      cases h1
      rw [bs_eq] at h; simp at h
    · rw [bs_eq] at h
      have h : x = y := by simpa using h
      rw [List.take_add_one, List.take_add_one, heq, h1, h2, h]
  · have hge := of_decide_eq_false hge
    have hk' : k = n := by omega
    rw [hk', List.take_of_length_le (by omega), List.take_of_length_le (by omega)] at heq
    exact heq
end Go.Proofs.Ytoagdpjickippaa

/- Formulas of 2 Go functions of this seat (written by a program of the author's, vcgen.py), and that each is enough for the call. No condition. -/
set_option linter.unusedVariables false
namespace Go.Proofs.Ytoagdpjickippaa
open Go Vc Go.Proofs
set_option maxRecDepth 100000
/-- cartularylaw12.is -/
def vc_cartularylaw12_is (x0 : Nat) (x1a : Option Addr) (x1n : Nat) (x1c : Nat) (x2 : ByteArray) (x3 : ByteArray) (w : World) (R : Value → World → Prop) : Prop :=
  (((Option.isNone (some (Addr.mk x0 0 none)) = true →
     R (Value.bool false) w)) ∧
   (Option.isNone (some (Addr.mk x0 0 none)) = false →
     Calls Try.prog (25 : Nat) (Array.mk [Value.pointer (some (Addr.mk x0 0 none))]) (w) (fun e1 w2 =>
       ∃ n3 : Int, (e1 = Ending.returned (Value.int IntKind.i64 n3) ∧
        ((((n3 != (↑x1n : Int)) = true →
           R (Value.bool false) w2)) ∧
         ((n3 != (↑x1n : Int)) = false →
           Calls Try.prog (35 : Nat) (Array.mk [Value.pointer (some (Addr.mk x0 0 none))]) (w2) (fun e4 w5 =>
             ∃ s6 : ByteArray, (e4 = Ending.returned (Value.string s6) ∧
              ((((!ByteArray.toList s6 == ByteArray.toList x2) = true →
                 R (Value.bool false) w5)) ∧
               ((!ByteArray.toList s6 == ByteArray.toList x2) = false →
                 ∀ w7 : World,
                 (w7 = World.alloc w5 (Obj.cells (Array.mk []) 9) →
                   ∀ w8 : World,
                   (w8 = World.alloc w7 (Obj.cells (Array.mk [Value.string (ByteArray.mk (Array.mk [])), Value.int IntKind.i64 0, Value.int IntKind.u32 0]) 44) →
                     ∃ w9 : World, (Sem.run Try.prog (storeVar 44 (Addr.mk (Array.size (World.heap w7)) 0 none) (Value.agg (Array.mk [Value.string (ByteArray.mk (Array.mk [])), Value.int IntKind.i64 0, Value.int IntKind.u32 0]))) w8 = Result.ok PUnit.unit w9 ∧
                      ∃ I10 : Sl → Int → World → Prop, ∃ I11 : Sl → Int → World → Nat, (I10 (Sl.mk (some (Addr.mk (Array.size (World.heap w5)) 0 none)) 0 0) 0 w9 ∧
                       ∀ l12 : Sl,
                       ∀ n13 : Int,
                       ∀ w14 : World,
                       (I10 l12 n13 w14 →
                         (((decide (n13 < (↑x1n : Int)) = true →
                            ((0 ≤ n13 ∧
                              n13 < (↑x1n : Int)) ∧
                             ∃ a15 : Addr, (x1a = some a15 ∧
                              ∃ s16 : ByteArray, ∃ n17 : Int, ∃ n18 : Int, (Sem.run Try.prog (loadVar 44 (Addr.add a15 (Int.toNat n13 * 3))) w14 = Result.ok (Value.agg (Array.mk [Value.string s16, Value.int IntKind.i64 n17, Value.int IntKind.u32 n18])) w14 ∧
                               ∀ w19 : World,
                               (w19 = World.alloc w14 (Obj.cells (Array.mk [Value.string (ByteArray.mk (Array.mk [])), Value.int IntKind.i64 0, Value.int IntKind.u32 0]) 44) →
                                 ∃ w20 : World, (Sem.run Try.prog (storeVar 44 (Addr.mk (Array.size (World.heap w14)) 0 none) (Value.agg (Array.mk [Value.string s16, Value.int IntKind.i64 n17, Value.int IntKind.u32 n18]))) w19 = Result.ok PUnit.unit w20 ∧
                                  Calls Try.prog (36 : Nat) (Array.mk [Value.pointer (some (Addr.mk x0 0 none)), Value.int IntKind.i64 n13]) (w20) (fun e21 w22 =>
                                    ∃ s23 : ByteArray, ∃ n24 : Int, ∃ n25 : Int, ∃ n26 : Int, (e21 = Ending.returned (Value.tuple (Array.mk [Value.agg (Array.mk [Value.string s23, Value.int IntKind.i64 n24, Value.int IntKind.u32 n25]), Value.int IntKind.i64 n26])) ∧
                                     ∀ w27 : World,
                                     (w27 = World.alloc w22 (Obj.cells (Array.mk [Value.string (ByteArray.mk (Array.mk [])), Value.int IntKind.i64 0, Value.int IntKind.u32 0]) 32) →
                                       ∃ w28 : World, (Sem.run Try.prog (storeVar 32 (Addr.mk (Array.size (World.heap w22)) 0 none) (Value.agg (Array.mk [Value.string s23, Value.int IntKind.i64 n24, Value.int IntKind.u32 n25]))) w27 = Result.ok PUnit.unit w28 ∧
                                        ((((n26 != 0) = true →
                                           R (Value.bool false) w28)) ∧
                                         ((n26 != 0) = false →
                                           ∃ s29 : ByteArray, ∃ n30 : Int, ∃ n31 : Int, (Sem.run Try.prog (loadVar 32 (Addr.mk (Array.size (World.heap w22)) 0 none)) w28 = Result.ok (Value.agg (Array.mk [Value.string s29, Value.int IntKind.i64 n30, Value.int IntKind.u32 n31])) w28 ∧
                                            ∃ s32 : ByteArray, ∃ n33 : Int, ∃ n34 : Int, (Sem.run Try.prog (loadVar 44 (Addr.mk (Array.size (World.heap w14)) 0 none)) w28 = Result.ok (Value.agg (Array.mk [Value.string s32, Value.int IntKind.i64 n33, Value.int IntKind.u32 n34])) w28 ∧
                                             ((((!(ByteArray.toList s29 == ByteArray.toList s32 && (n30 == n33 && n31 == n34))) = true →
                                                R (Value.bool false) w28)) ∧
                                              ((!(ByteArray.toList s29 == ByteArray.toList s32 && (n30 == n33 && n31 == n34))) = false →
                                                ∃ s35 : ByteArray, (World.cell? w28 (Addr.mk (Array.size (World.heap w14)) 0 none) = some (Value.string s35) ∧
                                                 Calls Try.prog (37 : Nat) (Array.mk [Value.string s35, Value.string x3]) (w28) (fun e36 w37 =>
                                                   ∃ b38 : Bool, (e36 = Ending.returned (Value.bool b38) ∧
                                                    (((b38 = true →
                                                       ∃ s39 : ByteArray, (World.cell? w37 (Addr.mk (Array.size (World.heap w14)) 0 none) = some (Value.string s39) ∧
                                                        ∀ w40 : World,
                                                        (w40 = World.alloc w37 (Obj.cells (Array.mk [Value.string s39]) 9) →
                                                          ∃ w41 : World, ∃ l42 : Sl, (Sem.run Try.prog (Builtin.append_ (Array.mk [35, 35]) 35 (Array.mk [Value.slice l12.1 l12.2 l12.3, Value.slice (some (Addr.mk (Array.size (World.heap w37)) 0 none)) 1 1])) w40 = Result.ok (Value.slice l42.1 l42.2 l42.3) w41 ∧
                                                           ∃ s43 : ByteArray, (World.cell? w41 (Addr.mk (Array.size (World.heap w14)) 0 none) = some (Value.string s43) ∧
                                                            ((((ByteArray.toList s43 == ByteArray.toList x3) = true →
                                                               ∃ s44 : ByteArray, ∃ n45 : Int, ∃ n46 : Int, (Sem.run Try.prog (loadVar 44 (Addr.mk (Array.size (World.heap w14)) 0 none)) w41 = Result.ok (Value.agg (Array.mk [Value.string s44, Value.int IntKind.i64 n45, Value.int IntKind.u32 n46])) w41 ∧
                                                                ∃ w47 : World, (Sem.run Try.prog (storeVar 44 (Addr.mk (Array.size (World.heap w7)) 0 none) (Value.agg (Array.mk [Value.string s44, Value.int IntKind.i64 n45, Value.int IntKind.u32 n46]))) w41 = Result.ok PUnit.unit w47 ∧
                                                                 (I10 (Sl.mk l42.1 l42.2 l42.3) (IntKind.wrap IntKind.i64 (n13 + 1)) w47 ∧
                                                                  I11 (Sl.mk l42.1 l42.2 l42.3) (IntKind.wrap IntKind.i64 (n13 + 1)) w47 < I11 l12 n13 w14))))) ∧
                                                             ((ByteArray.toList s43 == ByteArray.toList x3) = false →
                                                               (I10 (Sl.mk l42.1 l42.2 l42.3) (IntKind.wrap IntKind.i64 (n13 + 1)) w41 ∧
                                                                I11 (Sl.mk l42.1 l42.2 l42.3) (IntKind.wrap IntKind.i64 (n13 + 1)) w41 < I11 l12 n13 w14))))))))) ∧
                                                     (b38 = false →
                                                       ∃ s48 : ByteArray, (World.cell? w37 (Addr.mk (Array.size (World.heap w14)) 0 none) = some (Value.string s48) ∧
                                                        ((((ByteArray.toList s48 == ByteArray.toList x3) = true →
                                                           ∃ s49 : ByteArray, ∃ n50 : Int, ∃ n51 : Int, (Sem.run Try.prog (loadVar 44 (Addr.mk (Array.size (World.heap w14)) 0 none)) w37 = Result.ok (Value.agg (Array.mk [Value.string s49, Value.int IntKind.i64 n50, Value.int IntKind.u32 n51])) w37 ∧
                                                            ∃ w52 : World, (Sem.run Try.prog (storeVar 44 (Addr.mk (Array.size (World.heap w7)) 0 none) (Value.agg (Array.mk [Value.string s49, Value.int IntKind.i64 n50, Value.int IntKind.u32 n51]))) w37 = Result.ok PUnit.unit w52 ∧
                                                             (I10 (Sl.mk l12.1 l12.2 l12.3) (IntKind.wrap IntKind.i64 (n13 + 1)) w52 ∧
                                                              I11 (Sl.mk l12.1 l12.2 l12.3) (IntKind.wrap IntKind.i64 (n13 + 1)) w52 < I11 l12 n13 w14))))) ∧
                                                         ((ByteArray.toList s48 == ByteArray.toList x3) = false →
                                                           (I10 (Sl.mk l12.1 l12.2 l12.3) (IntKind.wrap IntKind.i64 (n13 + 1)) w37 ∧
                                                            I11 (Sl.mk l12.1 l12.2 l12.3) (IntKind.wrap IntKind.i64 (n13 + 1)) w37 < I11 l12 n13 w14)))))))))))))))))))))))))) ∧
                          (decide (n13 < (↑x1n : Int)) = false →
                            Calls Try.prog (9 : Nat) (Array.mk [Value.pointer (some (Addr.mk x0 0 none)), Value.string x3]) (w14) (fun e53 w54 =>
                              ∃ s55 : ByteArray, ∃ n56 : Int, ∃ n57 : Int, ∃ n58 : Int, (e53 = Ending.returned (Value.tuple (Array.mk [Value.agg (Array.mk [Value.string s55, Value.int IntKind.i64 n56, Value.int IntKind.u32 n57]), Value.int IntKind.i64 n58])) ∧
                               ∀ w59 : World,
                               (w59 = World.alloc w54 (Obj.cells (Array.mk [Value.string (ByteArray.mk (Array.mk [])), Value.int IntKind.i64 0, Value.int IntKind.u32 0]) 32) →
                                 ∃ w60 : World, (Sem.run Try.prog (storeVar 32 (Addr.mk (Array.size (World.heap w54)) 0 none) (Value.agg (Array.mk [Value.string s55, Value.int IntKind.i64 n56, Value.int IntKind.u32 n57]))) w59 = Result.ok PUnit.unit w60 ∧
                                  Calls Try.prog (36 : Nat) (Array.mk [Value.pointer (some (Addr.mk x0 0 none)), Value.int IntKind.i64 (-1)]) (w60) (fun e61 w62 =>
                                    ∃ s63 : ByteArray, ∃ n64 : Int, ∃ n65 : Int, ∃ n66 : Int, (e61 = Ending.returned (Value.tuple (Array.mk [Value.agg (Array.mk [Value.string s63, Value.int IntKind.i64 n64, Value.int IntKind.u32 n65]), Value.int IntKind.i64 n66])) ∧
                                     ∀ w67 : World,
                                     (w67 = World.alloc w62 (Obj.cells (Array.mk [Value.string (ByteArray.mk (Array.mk [])), Value.int IntKind.i64 0, Value.int IntKind.u32 0]) 32) →
                                       ∃ w68 : World, (Sem.run Try.prog (storeVar 32 (Addr.mk (Array.size (World.heap w62)) 0 none) (Value.agg (Array.mk [Value.string s63, Value.int IntKind.i64 n64, Value.int IntKind.u32 n65]))) w67 = Result.ok PUnit.unit w68 ∧
                                        Calls Try.prog (36 : Nat) (Array.mk [Value.pointer (some (Addr.mk x0 0 none)), Value.int IntKind.i64 (↑x1n : Int)]) (w68) (fun e69 w70 =>
                                          ∃ s71 : ByteArray, ∃ n72 : Int, ∃ n73 : Int, ∃ n74 : Int, (e69 = Ending.returned (Value.tuple (Array.mk [Value.agg (Array.mk [Value.string s71, Value.int IntKind.i64 n72, Value.int IntKind.u32 n73]), Value.int IntKind.i64 n74])) ∧
                                           ∀ w75 : World,
                                           (w75 = World.alloc w70 (Obj.cells (Array.mk [Value.string (ByteArray.mk (Array.mk [])), Value.int IntKind.i64 0, Value.int IntKind.u32 0]) 32) →
                                             ∃ w76 : World, (Sem.run Try.prog (storeVar 32 (Addr.mk (Array.size (World.heap w70)) 0 none) (Value.agg (Array.mk [Value.string s71, Value.int IntKind.i64 n72, Value.int IntKind.u32 n73]))) w75 = Result.ok PUnit.unit w76 ∧
                                              ∃ s77 : ByteArray, ∃ n78 : Int, ∃ n79 : Int, (Sem.run Try.prog (loadVar 32 (Addr.mk (Array.size (World.heap w54)) 0 none)) w76 = Result.ok (Value.agg (Array.mk [Value.string s77, Value.int IntKind.i64 n78, Value.int IntKind.u32 n79])) w76 ∧
                                               ∃ s80 : ByteArray, ∃ n81 : Int, ∃ n82 : Int, (Sem.run Try.prog (loadVar 44 (Addr.mk (Array.size (World.heap w7)) 0 none)) w76 = Result.ok (Value.agg (Array.mk [Value.string s80, Value.int IntKind.i64 n81, Value.int IntKind.u32 n82])) w76 ∧
                                                ((((ByteArray.toList s77 == ByteArray.toList s80 && (n78 == n81 && n79 == n82)) = true →
                                                   ∃ s83 : ByteArray, (World.cell? w76 (Addr.mk (Array.size (World.heap w7)) 0 none) = some (Value.string s83) ∧
                                                    (((((n58 == 0) == !ByteArray.toList s83 == ByteArray.toList (ByteArray.mk (Array.mk []))) = true →
                                                       ((((n58 == 0) = true →
                                                          ((((n66 == 7) = true →
                                                             ((((n74 == 7) = true →
                                                                Calls Try.prog (10 : Nat) (Array.mk [Value.pointer (some (Addr.mk x0 0 none)), Value.string x3]) (w76) (fun e84 w85 =>
                                                                  ∃ l86 : Sl, (e84 = Ending.returned (Value.slice l86.1 l86.2 l86.3) ∧
                                                                   Calls Try.prog (38 : Nat) (Array.mk [Value.slice l86.1 l86.2 l86.3, Value.slice l12.1 l12.2 l12.3]) (w85) (fun e87 w88 =>
                                                                     ∃ b89 : Bool, (e87 = Ending.returned (Value.bool b89) ∧
                                                                      R (Value.bool b89) w88)))))) ∧
                                                              ((n74 == 7) = false →
                                                                R (Value.bool false) w76)))) ∧
                                                           ((n66 == 7) = false →
                                                             R (Value.bool false) w76)))) ∧
                                                        ((n58 == 0) = false →
                                                          ((((n58 == 7) = true →
                                                             ((((n66 == 7) = true →
                                                                ((((n74 == 7) = true →
                                                                   Calls Try.prog (10 : Nat) (Array.mk [Value.pointer (some (Addr.mk x0 0 none)), Value.string x3]) (w76) (fun e90 w91 =>
                                                                     ∃ l92 : Sl, (e90 = Ending.returned (Value.slice l92.1 l92.2 l92.3) ∧
                                                                      Calls Try.prog (38 : Nat) (Array.mk [Value.slice l92.1 l92.2 l92.3, Value.slice l12.1 l12.2 l12.3]) (w91) (fun e93 w94 =>
                                                                        ∃ b95 : Bool, (e93 = Ending.returned (Value.bool b95) ∧
                                                                         R (Value.bool b95) w94)))))) ∧
                                                                 ((n74 == 7) = false →
                                                                   R (Value.bool false) w76)))) ∧
                                                              ((n66 == 7) = false →
                                                                R (Value.bool false) w76)))) ∧
                                                           ((n58 == 7) = false →
                                                             R (Value.bool false) w76)))))) ∧
                                                     (((n58 == 0) == !ByteArray.toList s83 == ByteArray.toList (ByteArray.mk (Array.mk []))) = false →
                                                       R (Value.bool false) w76))))) ∧
                                                 ((ByteArray.toList s77 == ByteArray.toList s80 && (n78 == n81 && n79 == n82)) = false →
                                                   R (Value.bool false) w76)))))))))))))))))))))))))))))))))
theorem vc_cartularylaw12_is_ok {x0 : Nat} {x1a : Option Addr} {x1n : Nat} {x1c : Nat} {x2 : ByteArray} {x3 : ByteArray} {w : World} {R : Value → World → Prop} {R' : Ending → World → Prop} (h : vc_cartularylaw12_is x0 x1a x1n x1c x2 x3 w R) (hR : ∀ v w', R v w' → R' (.returned v) w') :
    Calls Try.prog 13 #[.pointer (some ⟨x0, 0, none⟩), .slice x1a x1n x1c, .string x2, .string x3] w R' :=
  calls_of_body (vs := [(.pointer (some ⟨x0, 0, none⟩), true), (.slice x1a x1n x1c, false), (.string x2, false), (.string x3, false)]) (ty := ty) (ann := ⟨[], [(6, [(9, .slice), (40, .int .i64)])], [], []⟩) (c := Try.f13.body.getD .skip) (by kernel_rfl) Try.func13 (by kernel_rfl) (by kernel_rfl) (Eq.mp (by kernel_rfl) h) hR
/-- cartularylaw12.PackidxReads -/
def vc_cartularylaw12_PackidxReads (x0 : ByteArray) (x1 : ByteArray) (w : World) (R : Value → World → Prop) : Prop :=
  Calls Try.prog (11 : Nat) (Array.mk [Value.string x0, Value.int IntKind.i64 1600]) (w) (fun e1 w2 =>
    ∃ s3 : ByteArray, (e1 = Ending.returned (Value.string s3) ∧
     Calls Try.prog (8 : Nat) (Array.mk [Value.string s3]) (w2) (fun e4 w5 =>
       ∃ p6 : Option Addr, ∃ n7 : Int, (e4 = Ending.returned (Value.tuple (Array.mk [Value.pointer p6, Value.int IntKind.i64 n7])) ∧
        Calls Try.prog (12 : Nat) (Array.mk [Value.string s3]) (w5) (fun e8 w9 =>
          ∃ l10 : Sl, ∃ s11 : ByteArray, ∃ n12 : Int, (e8 = Ending.returned (Value.tuple (Array.mk [Value.slice l10.1 l10.2 l10.3, Value.string s11, Value.int IntKind.i64 n12])) ∧
           Calls Try.prog (7 : Nat) (Array.mk []) (w9) (fun e13 w14 =>
             ∃ b15 : Bool, (e13 = Ending.returned (Value.bool b15) ∧
              ((((!b15) = true →
                 R (Value.bool false) w14)) ∧
               ((!b15) = false →
                 ((((n7 != n12) = true →
                    R (Value.bool false) w14)) ∧
                  ((n7 != n12) = false →
                    ((((n12 != 0) = true →
                       R (Value.bool (Option.isNone p6)) w14)) ∧
                     ((n12 != 0) = false →
                       Calls Try.prog (13 : Nat) (Array.mk [Value.pointer p6, Value.slice l10.1 l10.2 l10.3, Value.string s11, Value.string x1]) (w14) (fun e16 w17 =>
                         ∃ b18 : Bool, (e16 = Ending.returned (Value.bool b18) ∧
                          R (Value.bool b18) w17))))))))))))))))
theorem vc_cartularylaw12_PackidxReads_ok {x0 : ByteArray} {x1 : ByteArray} {w : World} {R : Value → World → Prop} {R' : Ending → World → Prop} (h : vc_cartularylaw12_PackidxReads x0 x1 w R) (hR : ∀ v w', R v w' → R' (.returned v) w') :
    Calls Try.prog 4 #[.string x0, .string x1] w R' :=
  calls_of_body (vs := [(.string x0, false), (.string x1, false)]) (ty := ty) (ann := ⟨[], [], [], []⟩) (c := Try.f4.body.getD .skip) (by kernel_rfl) Try.func4 (by kernel_rfl) (by kernel_rfl) (Eq.mp (by kernel_rfl) h) hR
end Go.Proofs.Ytoagdpjickippaa

/- Has an index just these rows and this sum? Conditions: the rows rise, at most a thousand, and bear names. -/
set_option linter.unusedVariables false
namespace Go.Proofs.Ytoagdpjickippaa
open Go Vc HexM SumM ShaM Go.Proofs

theorem boxR_run (w : World) (x : PRow) : (storeVar T_cartularyref12_Row ⟨w.heap.size, 0, none⟩ (.agg #[.string x.1, .int .i64 x.2.1, .int .u32 x.2.2])).run Try.prog (w.alloc (.cells #[.string ⟨#[]⟩, .int .i64 0, .int .u32 0] T_cartularyref12_Row)) = .ok () (w.alloc (.cells (encP x).toArray T_cartularyref12_Row)) :=
  run_storeVar_new w T_cartularyref12_Row _ _ (by kernel_rfl) rfl (by simp [Value.oneCell'])
theorem boxR_store {w : World} {g : Nat} {cs : Array Value} (h : w.heap[g]? = some (.cells cs T_cartularyref12_Row (0, 0))) (hc : cs.size = 3) (x : PRow) :
    ∃ w', (storeVar T_cartularyref12_Row ⟨g, 0, none⟩ (.agg #[.string x.1, .int .i64 x.2.1, .int .u32 x.2.2])).run Try.prog w = .ok () w' ∧ w'.heap[g]? = some (.cells (encP x).toArray T_cartularyref12_Row (0, 0)) ∧ Fr (· = g) w w' :=
  ⟨_, run_storeVar_row (P := Try.prog) w g T_cartularyref12_Row T_cartularyref12_Row _ (encP x).toArray h (by kernel_rfl) (by rw [hc]; rfl) (by simp [encP, Value.oneCell']), setRow_heap w g _ (encP x).toArray T_cartularyref12_Row (0, 0) h, setRow_fr (· = g) w g _ rfl⟩
theorem boxR_load {w : World} {g : Nat} {x : PRow} (h : w.heap[g]? = some (.cells (encP x).toArray T_cartularyref12_Row (0, 0))) : (loadVar T_cartularyref12_Row ⟨g, 0, none⟩).run Try.prog w = .ok (.agg #[.string x.1, .int .i64 x.2.1, .int .u32 x.2.2]) w :=
  load_agg (vs := encP x) (agg_of (by kernel_rfl)) (by kernel_rfl) fun k v hv => by rw [add_lit, Nat.zero_add, cell_blk h]; simpa [encP] using hv
theorem box_name {w : World} {g : Nat} {x : PRow} {t : TypeId} (h : w.heap[g]? = some (.cells (encP x).toArray t (0, 0))) : w.cell? ⟨g, 0, none⟩ = some (.string x.1) := by rw [cell_blk h]; rfl
def fnd (xs : List PRow) (id : ByteArray) : PRow := (findP xs id).getD (⟨#[]⟩, 0, 0)
theorem fnd_hit {xs : List PRow} {x : PRow} {id : ByteArray} (h : x.1 = id) (hd : ∀ y ∈ xs, y.1 ≠ x.1) : fnd (xs ++ [x]) id = x := by
  unfold fnd findP
  rw [List.find?_append, List.find?_eq_none.2 fun y hy => by simpa [h] using hd y hy]
  simp [h]
theorem fnd_miss {xs : List PRow} {x : PRow} {id : ByteArray} (h : x.1 ≠ id) : fnd (xs ++ [x]) id = fnd xs id := by
  unfold fnd findP
  rw [List.find?_append]
  simp [h]
theorem match_snoc (xs : List PRow) (x : PRow) (id : ByteArray) : matchP (xs ++ [x]) id = if begB x.1 id = true then matchP xs id ++ [x.1] else matchP xs id := by
  unfold matchP
  rw [List.filter_append, List.map_append]
  split <;> simp_all
theorem is_spec {w : World} {b : Nat} {rows : List PRow} {sum : ByteArray} {a : Option Addr} {n c : Nat} (hI : IsIdx w b rows sum) (hr : ReadsK encP 3 w a rows) (hn : rows.length = n) (hl : n ≤ 1000) (hs : RiseP rows) (hne : ∀ r ∈ rows, r.1 ≠ ⟨#[]⟩) (id : ByteArray) :
    Calls Try.prog F_cartularylaw12_is #[.pointer (some ⟨b, 0, none⟩), .slice a n c, .string sum, .string id] w fun e w' => e = .returned (.bool true) ∧ Fr (fun _ => False) w w' := by
  refine vc_cartularylaw12_is_ok (R := fun v w' => v = .bool true ∧ Fr (fun _ => False) w w') ?_ (fun v w' h => ⟨by rw [h.1], h.2⟩)
  refine ⟨fun h => (by cases h), fun _ => (len_spec hI).mono ?_⟩
  rintro e w2 ⟨rfl, hw⟩
  replace hw := hw.symm
  subst hw
  refine ⟨_, rfl, fun h => by rw [hn] at h; simp at h, fun _ => (sumP_spec hI).mono ?_⟩
  rintro e w2 ⟨rfl, hw⟩
  replace hw := hw.symm
  subst hw
  refine ⟨_, rfl, fun h => (by rw [beq_self_eq_true] at h; cases h), fun _ w7 h7 w8 h8 => ?_⟩
  have hf7 : Fr (fun _ => False) w w7 := by rw [h7]; exact .alloc _ _ _
  have ho7 : Vc.Own w7 w.heap.size T_string ⟨some ⟨w.heap.size, 0, none⟩, 0, 0⟩ (strV []) := by rw [h7]; exact own_lit w T_string
  have hs7 : w7.heap.size = w.heap.size + 1 := by rw [h7]; exact Array.size_push _
  clear h7
  subst h8
  refine ⟨_, boxR_run w7 (⟨#[]⟩, 0, 0), ?_⟩
  have hfb : Fr (fun _ => False) w7 (w7.alloc (.cells (encP (⟨#[]⟩, 0, 0)).toArray T_cartularyref12_Row)) := .alloc _ _ _
  have hb9 : (w7.alloc (.cells (encP (⟨#[]⟩, 0, 0)).toArray T_cartularyref12_Row)).heap[w7.heap.size]? = some (.cells (encP (⟨#[]⟩, 0, 0)).toArray T_cartularyref12_Row (0, 0)) := alloc_new _ _
  generalize w7.alloc (.cells (encP (⟨#[]⟩, 0, 0)).toArray T_cartularyref12_Row) = w9 at hfb hb9 ⊢
  obtain ⟨g0, hg0⟩ : ∃ g, w7.heap.size = g := ⟨_, rfl⟩
  rw [hg0] at hb9 hs7 ⊢
  have hf9 := hf7.trans' hfb
  have ho9 := ho7.keep hfb (by simp)
  clear ho7 hfb
  refine ⟨fun l i w' => ∃ k : Nat, i = k ∧ k ≤ n ∧ Vc.Own w' w.heap.size T_string l (strV (matchP (rows.take k) id)) ∧ (∀ y, l.a = some y → y.block ≠ g0) ∧
      w'.heap[g0]? = some (.cells (encP (fnd (rows.take k) id)).toArray T_cartularyref12_Row (0, 0)) ∧ Fr (fun _ => False) w w', fun _ i _ => n - i.toNat,
    ⟨0, rfl, Nat.zero_le _, ho9, fun y hy => by cases hy; simp only; omega, hb9, hf9⟩, ?_⟩
  clear ho9 hb9 hf9 hf7
  rintro l i w14 ⟨k, rfl, hk, ho14, hna, hg14, hf14⟩
  refine ⟨fun hlt => ?_, fun hge => ?_⟩
  · have hlt := of_decide_eq_true hlt
    have hkl : k < rows.length := by omega
    have hx : rows[k]? = some rows[k] := List.getElem?_eq_getElem hkl
    generalize rows[k] = x at hx
    have e1 : IntKind.i64.wrap ((k : Int) + 1) = ((k + 1 : Nat) : Int) := by rw [wrap_i64 (by omega) (by omega)]; omega
    rw [e1]
    have htk : rows.take (k + 1) = rows.take k ++ [x] := by rw [List.take_add_one, hx]; rfl
    have hdist : ∀ y ∈ rows.take k, y.1 ≠ x.1 := fun y hy e => by
      obtain ⟨j, hj⟩ := List.mem_iff_getElem?.1 hy
      have hjk : j < k := by
        have := (List.getElem?_eq_some_iff.1 hj).1
        rw [List.length_take] at this; omega
      rw [List.getElem?_take_of_lt hjk] at hj
      obtain ⟨hjl, hje⟩ := List.getElem?_eq_some_iff.1 hj
      obtain ⟨hkl2, hke⟩ := List.getElem?_eq_some_iff.1 hx
      have := (List.pairwise_iff_getElem.1 (rise_dist hs)) j k hjl hkl2 hjk
      rw [hje, hke] at this
      exact this e
    obtain ⟨ad, had, hld⟩ := (hr.keep hf14 (by simp)).load elRP hx
    refine ⟨⟨by omega, by omega⟩, ad, had, x.1, x.2.1, x.2.2, by rw [Int.toNat_natCast]; exact hld, fun w19 h19 => ?_⟩
    subst h19
    refine ⟨_, boxR_run w14 x, ?_⟩
    have hfa : Fr (fun _ => False) w14 (w14.alloc (.cells (encP x).toArray T_cartularyref12_Row)) := .alloc _ _ _
    have hb20 : (w14.alloc (.cells (encP x).toArray T_cartularyref12_Row)).heap[w14.heap.size]? = some (.cells (encP x).toArray T_cartularyref12_Row (0, 0)) := alloc_new _ _
    generalize w14.alloc (.cells (encP x).toArray T_cartularyref12_Row) = w20 at hfa hb20 ⊢
    refine (atP_spec (hI.keep (hf14.trans' hfa)) (by omega) (k : Int)).mono ?_
    rintro e w22 ⟨rfl, hf22⟩
    rw [if_pos (by omega), Int.toNat_natCast, hx]
    refine ⟨x.1, x.2.1, x.2.2, 0, rfl, fun w27 h27 => ?_⟩
    subst h27
    refine ⟨_, boxP_run w22 x, fun h => (by cases h), fun _ => ?_⟩
    have hfc : Fr (fun _ => False) w22 (w22.alloc (.cells (encP x).toArray T_packidx_Row)) := .alloc _ _ _
    have hb28 : (w22.alloc (.cells (encP x).toArray T_packidx_Row)).heap[w22.heap.size]? = some (.cells (encP x).toArray T_packidx_Row (0, 0)) := alloc_new _ _
    generalize w22.alloc (.cells (encP x).toArray T_packidx_Row) = w28 at hfc hb28 ⊢
    have hf28' := (hfa.trans' hf22).trans' hfc
    have hb28' := (hf22.trans' hfc).keep hb20 (by simp)
    refine ⟨_, _, _, boxP_load hb28, _, _, _, boxR_load hb28', fun h => ?_, fun _ => ⟨x.1, box_name hb28', (begins_spec x.1 id w28).mono ?_⟩⟩
    · rw [beq_self_eq_true, beq_self_eq_true, beq_self_eq_true] at h; cases h
    rintro e w37 ⟨rfl, hw⟩
    replace hw := hw.symm
    subst hw
    have ho28 := ho14.keep hf28' (by simp)
    have hg28 := hf28'.keep hg14 (by simp)
    have hF28 := hf14.trans' hf28'
    have hml : (strV (matchP (rows.take k) id)).length ≤ k := by
      simp only [strV, List.length_map, matchP]
      refine Nat.le_trans (List.length_filter_le _ _) ?_
      rw [List.length_take]; omega
    have hlt14 := hf28'.size
    have hg0lt : g0 < w14.heap.size := lt_blk hg14
    refine ⟨_, rfl, fun hbt => ⟨x.1, box_name hb28', fun w40 h40 => ?_⟩, fun hbf => ⟨x.1, box_name hb28', ?_⟩⟩
    · obtain ⟨w41, l42, hr41, ho41, hf41, hsi⟩ := append_one' elString ho28 (v := .string x.1) rfl (by simp only [maxLen]; omega) (by omega) hF28.size h40
      have hb41 := hf41.keep hb28' fun ⟨y, hy, e⟩ => by have := (ho14.blk hy).2; omega
      have hg41 := hf41.keep hg28 fun ⟨y, hy, e⟩ => hna y hy e.symm
      have hmt : strV (matchP (rows.take (k + 1)) id) = strV (matchP (rows.take k) id) ++ [.string x.1] := by rw [htk, match_snoc, if_pos hbt]; simp [strV]
      have hF41 : Fr (fun _ => False) w w41 := hF28.trans hf41 fun q hq ⟨y, hy, e⟩ => by have := (ho14.blk hy).1; omega
      have hna42 : ∀ y, l42.a = some y → y.block ≠ g0 := fun y hy e => by
        rcases hsi y hy with ⟨z, hz, hzb⟩ | hnew
        · exact hna z hz (hzb.trans e)
        · omega
      refine ⟨w41, l42, hr41, x.1, box_name hb41, fun he => ⟨_, _, _, boxR_load hb41, ?_⟩, fun he => ⟨⟨k + 1, rfl, by omega, by rw [hmt]; exact ho41, hna42, ?_, hF41⟩, by dsimp only; omega⟩⟩
      · rw [bs_eq] at he
        have he := of_decide_eq_true he
        obtain ⟨w47, hr47, hb47, hf47⟩ := boxR_store hg41 rfl x
        refine ⟨w47, hr47, ⟨k + 1, rfl, by omega, by rw [hmt]; exact ho41.keep hf47 hna42, hna42, by rw [htk, fnd_hit he hdist]; exact hb47, hF41.trans hf47 fun q hq e => by omega⟩, by dsimp only; omega⟩
      · rw [bs_eq] at he
        rw [htk, fnd_miss (of_decide_eq_false he)]; exact hg41
    · have hmt : matchP (rows.take (k + 1)) id = matchP (rows.take k) id := by rw [htk, match_snoc, if_neg (by rw [hbf]; decide)]
      refine ⟨fun he => ⟨_, _, _, boxR_load hb28', ?_⟩, fun he => ⟨⟨k + 1, rfl, by omega, by rw [hmt]; exact ho28, hna, ?_, hF28⟩, by dsimp only; omega⟩⟩
      · rw [bs_eq] at he
        have he := of_decide_eq_true he
        obtain ⟨w47, hr47, hb47, hf47⟩ := boxR_store hg28 rfl x
        refine ⟨w47, hr47, ⟨k + 1, rfl, by omega, by rw [hmt]; exact ho28.keep hf47 hna, hna, by rw [htk, fnd_hit he hdist]; exact hb47, hF28.trans hf47 fun q hq e => by omega⟩, by dsimp only; omega⟩
      · rw [bs_eq] at he
        rw [htk, fnd_miss (of_decide_eq_false he)]; exact hg28
  · have hge := of_decide_eq_false hge
    have hkn : k = n := by omega
    have htk : rows.take k = rows := List.take_of_length_le (by omega)
    rw [htk] at ho14 hg14
    refine (findP_spec (hI.keep hf14) (by omega) hs id).mono ?_
    rintro e w54 ⟨rfl, hf54⟩
    obtain ⟨f, hf⟩ : ∃ f, fnd rows id = f := ⟨_, rfl⟩
    obtain ⟨m, hm⟩ : ∃ m : Int, m = if (findP rows id).isSome then 0 else 7 := ⟨_, rfl⟩
    have hmf : (m = 0 ∧ f.1 ≠ ⟨#[]⟩) ∨ (m = 7 ∧ f.1 = ⟨#[]⟩) := by
      rw [hm, ← hf]
      unfold fnd
      cases hh : findP rows id with
      | none => exact .inr ⟨rfl, rfl⟩
      | some y => exact .inl ⟨rfl, hne y (List.mem_of_find?_eq_some hh)⟩
    rw [hf] at hg14
    refine ⟨f.1, f.2.1, f.2.2, m, ?_, fun w59 h59 => ?_⟩
    · rw [hm, ← hf]
      unfold fnd
      cases findP rows id <;> rfl
    clear hm hf
    subst h59
    refine ⟨_, boxP_run w54 f, ?_⟩
    have hfa : Fr (fun _ => False) w54 (w54.alloc (.cells (encP f).toArray T_packidx_Row)) := .alloc _ _ _
    have hb60 : (w54.alloc (.cells (encP f).toArray T_packidx_Row)).heap[w54.heap.size]? = some (.cells (encP f).toArray T_packidx_Row (0, 0)) := alloc_new _ _
    generalize w54.alloc (.cells (encP f).toArray T_packidx_Row) = w60 at hfa hb60 ⊢
    have hF60 := hf54.trans' hfa
    refine (atP_spec (hI.keep (hf14.trans' hF60)) (by omega) (-1)).mono ?_
    rintro e w62 ⟨rfl, hf62⟩
    rw [if_neg (by decide)]
    refine ⟨_, _, _, _, rfl, fun w67 h67 => ?_⟩
    subst h67
    refine ⟨_, boxP_run w62 (⟨#[]⟩, 0, 0), ?_⟩
    have hfc : Fr (fun _ => False) w62 (w62.alloc (.cells (encP (⟨#[]⟩, 0, 0)).toArray T_packidx_Row)) := .alloc _ _ _
    generalize w62.alloc (.cells (encP (⟨#[]⟩, 0, 0)).toArray T_packidx_Row) = w68 at hfc ⊢
    have hF68 := hf62.trans' hfc
    refine (atP_spec (hI.keep ((hf14.trans' hF60).trans' hF68)) (by omega) (n : Int)).mono ?_
    rintro e w70 ⟨rfl, hf70⟩
    rw [if_pos (by omega), Int.toNat_natCast, List.getElem?_eq_none (by omega)]
    refine ⟨_, _, _, _, rfl, fun w75 h75 => ?_⟩
    subst h75
    refine ⟨_, boxP_run w70 (⟨#[]⟩, 0, 0), ?_⟩
    have hfd : Fr (fun _ => False) w70 (w70.alloc (.cells (encP (⟨#[]⟩, 0, 0)).toArray T_packidx_Row)) := .alloc _ _ _
    generalize w70.alloc (.cells (encP (⟨#[]⟩, 0, 0)).toArray T_packidx_Row) = w76 at hfd ⊢
    have hF76 := hF68.trans' (hf70.trans' hfd)
    have hb76 := hF76.keep hb60 (by simp)
    have hG76 := hF60.trans' hF76
    have hg76 := hG76.keep hg14 (by simp)
    have hW76 := hf14.trans' hG76
    have ho76 := ho14.keep hG76 (by simp)
    have fin : ∀ R' : Bool → World → Prop, (∀ w', Fr (fun _ => False) w w' → R' true w') → Calls Try.prog F_packidx_Idx_Match #[.pointer (some ⟨b, 0, none⟩), .string id] w76 fun e84 w85 => ∃ l86 : Sl, e84 = .returned (.slice l86.a l86.len l86.cap) ∧
        Calls Try.prog F_cartularyref07_Same #[.slice l86.a l86.len l86.cap, .slice l.a l.len l.cap] w85 fun e87 w88 => ∃ b89 : Bool, e87 = .returned (.bool b89) ∧ R' b89 w88 := fun R' hR' => by
      refine (matchP_spec (hI.keep hW76) (by omega) hs id).mono ?_
      rintro e w85 ⟨o, rfl, ho85, hf85⟩
      refine ⟨o, rfl, (same07_spec ho85.reads (ho76.keep hf85 (by simp)).reads (by rw [ho85.len]; simp [strV]) (by rw [ho76.len]; simp [strV]) ?_).mono ?_⟩
      · rw [ho85.len]
        simp only [strV, List.length_map, matchP]
        refine Nat.le_trans (List.length_filter_le _ _) ?_
        omega
      rintro e w88 ⟨⟨r, rfl, hrr⟩, d88⟩
      rw [hrr.2 rfl]
      exact ⟨true, rfl, hR' _ ((hW76.trans' hf85).trans' (.drew _ d88))⟩
    refine ⟨_, _, _, boxP_load hb76, _, _, _, boxR_load hg76, fun _ => ⟨f.1, box_name hg76, fun _ => ?_, fun h => ?_⟩, fun h => ?_⟩
    · rcases hmf with ⟨rfl, hfe⟩ | ⟨rfl, hfe⟩
      · exact ⟨fun _ => ⟨fun _ => ⟨fun _ => fin (fun b' w' => Value.bool b' = .bool true ∧ Fr (fun _ => False) w w') fun w' h => ⟨rfl, h⟩, fun h => by cases h⟩, fun h => by cases h⟩, fun h => by cases h⟩
      · exact ⟨fun h => (by cases h), fun _ => ⟨fun _ => ⟨fun _ => ⟨fun _ => fin (fun b' w' => Value.bool b' = .bool true ∧ Fr (fun _ => False) w w') fun w' h => ⟨rfl, h⟩, fun h => by cases h⟩, fun h => by cases h⟩, fun h => by cases h⟩⟩
    · rw [bs_eq] at h
      rcases hmf with ⟨rfl, hfe⟩ | ⟨rfl, hfe⟩
      · rw [decide_eq_false hfe] at h; cases h
      · rw [decide_eq_true hfe] at h; cases h
    · rw [beq_self_eq_true, beq_self_eq_true, beq_self_eq_true] at h; cases h
end Go.Proofs.Ytoagdpjickippaa

/- Formulas of 2 Go functions of this seat (written by a program of the author's, vcgen.py), and that each is enough for the call. No condition. -/
set_option linter.unusedVariables false
namespace Go.Proofs.Ytoagdpjickippaa
open Go Vc Go.Proofs
set_option maxRecDepth 100000
/-- cartularyref01.Hexed -/
def vc_cartularyref01_Hexed (x0 : ByteArray) (w : World) (R : Value → World → Prop) : Prop :=
  ∃ I1 : Int → World → Prop, ∃ I2 : Int → World → Nat, (I1 0 w ∧
   ∀ n3 : Int,
   ∀ w4 : World,
   (I1 n3 w4 →
     (((decide (n3 < (↑(ByteArray.size x0) : Int)) = true →
        ((0 ≤ n3 ∧
          n3 < (↑(ByteArray.size x0) : Int)) ∧
         (((decide (byteAt x0 n3 ≥ 48) = true →
            ((0 ≤ n3 ∧
              n3 < (↑(ByteArray.size x0) : Int)) ∧
             (((decide (byteAt x0 n3 ≤ 57) = true →
                (I1 (IntKind.wrap IntKind.i64 (n3 + 1)) w4 ∧
                 I2 (IntKind.wrap IntKind.i64 (n3 + 1)) w4 < I2 n3 w4))) ∧
              (decide (byteAt x0 n3 ≤ 57) = false →
                ((0 ≤ n3 ∧
                  n3 < (↑(ByteArray.size x0) : Int)) ∧
                 (((decide (byteAt x0 n3 ≥ 97) = true →
                    ((0 ≤ n3 ∧
                      n3 < (↑(ByteArray.size x0) : Int)) ∧
                     ((((!decide (byteAt x0 n3 ≤ 102)) = true →
                        R (Value.bool false) w4)) ∧
                      ((!decide (byteAt x0 n3 ≤ 102)) = false →
                        (I1 (IntKind.wrap IntKind.i64 (n3 + 1)) w4 ∧
                         I2 (IntKind.wrap IntKind.i64 (n3 + 1)) w4 < I2 n3 w4)))))) ∧
                  (decide (byteAt x0 n3 ≥ 97) = false →
                    R (Value.bool false) w4)))))))) ∧
          (decide (byteAt x0 n3 ≥ 48) = false →
            ((0 ≤ n3 ∧
              n3 < (↑(ByteArray.size x0) : Int)) ∧
             (((decide (byteAt x0 n3 ≥ 97) = true →
                ((0 ≤ n3 ∧
                  n3 < (↑(ByteArray.size x0) : Int)) ∧
                 ((((!decide (byteAt x0 n3 ≤ 102)) = true →
                    R (Value.bool false) w4)) ∧
                  ((!decide (byteAt x0 n3 ≤ 102)) = false →
                    (I1 (IntKind.wrap IntKind.i64 (n3 + 1)) w4 ∧
                     I2 (IntKind.wrap IntKind.i64 (n3 + 1)) w4 < I2 n3 w4)))))) ∧
              (decide (byteAt x0 n3 ≥ 97) = false →
                R (Value.bool false) w4)))))))) ∧
      (decide (n3 < (↑(ByteArray.size x0) : Int)) = false →
        ((2 : Int) ≠ (0 : Int) ∧
         R (Value.bool (Int.tmod (↑(ByteArray.size x0) : Int) 2 == 0)) w4)))))
theorem vc_cartularyref01_Hexed_ok {x0 : ByteArray} {w : World} {R : Value → World → Prop} {R' : Ending → World → Prop} (h : vc_cartularyref01_Hexed x0 w R) (hR : ∀ v w', R v w' → R' (.returned v) w') :
    Calls Try.prog 53 #[.string x0] w R' :=
  calls_of_body (vs := [(.string x0, false)]) (ty := ty) (ann := ⟨[], [(2, [(3, .int .i64)])], [], []⟩) (c := Try.f53.body.getD .skip) (by kernel_rfl) Try.func53 (by kernel_rfl) (by kernel_rfl) (Eq.mp (by kernel_rfl) h) hR
/-- cartularyref09.Id -/
def vc_cartularyref09_Id (x0 : ByteArray) (w : World) (R : Value → World → Prop) : Prop :=
  (((((↑(ByteArray.size x0) : Int) == 40) = true →
     Calls Try.prog (53 : Nat) (Array.mk [Value.string x0]) (w) (fun e1 w2 =>
       ∃ b3 : Bool, (e1 = Ending.returned (Value.bool b3) ∧
        R (Value.bool b3) w2)))) ∧
   (((↑(ByteArray.size x0) : Int) == 40) = false →
     R (Value.bool false) w))
theorem vc_cartularyref09_Id_ok {x0 : ByteArray} {w : World} {R : Value → World → Prop} {R' : Ending → World → Prop} (h : vc_cartularyref09_Id x0 w R) (hR : ∀ v w', R v w' → R' (.returned v) w') :
    Calls Try.prog 39 #[.string x0] w R' :=
  calls_of_body (vs := [(.string x0, false)]) (ty := ty) (ann := ⟨[], [], [], []⟩) (c := Try.f39.body.getD .skip) (by kernel_rfl) Try.func39 (by kernel_rfl) (by kernel_rfl) (Eq.mp (by kernel_rfl) h) hR
end Go.Proofs.Ytoagdpjickippaa

/- The reference's Hexed and Id. Conditions: as named. -/
set_option linter.unusedVariables false
namespace Go.Proofs.Ytoagdpjickippaa
open Go Vc HexM Go.Proofs

theorem hexed_ok {c : Nat} : (dg c).isSome = true ↔ (48 ≤ c ∧ c ≤ 57) ∨ (97 ≤ c ∧ c ≤ 102) := by
  unfold dg
  split
  · rename_i h; simp; omega
  · split
    · rename_i h; simp; omega
    · simp; omega
theorem digits_iff {s : ByteArray} : digits s.data.toList = true ↔ ∀ k, k < s.size → (dg (byt s k)).isSome = true := by
  unfold digits
  rw [List.all_eq_true]
  constructor
  · intro h k hk
    have := h _ (List.mem_of_getElem? (bs_get hk))
    rwa [toNat_of _ (byt_lt _ _)] at this
  · intro h x hx
    obtain ⟨k, hk, rfl⟩ := List.getElem_of_mem hx
    rw [bs_len] at hk
    have := h k hk
    rwa [bs_byt hk] at this
/-- The reference's 'Hexed'. -/
theorem hexed_spec (s : ByteArray) (hs : s.size ≤ 140737488355328) (w : World) : Calls Try.prog F_cartularyref01_Hexed #[.string s] w fun e w' => e = .returned (.bool (unhexL s.data.toList).isSome) ∧ w' = w := by
  refine vc_cartularyref01_Hexed_ok (R := fun v w' => v = .bool (unhexL s.data.toList).isSome ∧ w' = w) ?_ (fun v w' h => ⟨by rw [h.1], h.2⟩)
  refine ⟨fun n w' => w' = w ∧ ∃ k : Nat, n = k ∧ k ≤ s.size ∧ ∀ j, j < k → (dg (byt s j)).isSome = true, fun n _ => s.size - n.toNat, ⟨rfl, 0, rfl, Nat.zero_le _, fun j hj => by omega⟩, ?_⟩
  rintro n w4 ⟨hw, k, rfl, hk, hall⟩
  replace hw := hw.symm
  subst hw
  have e1 : IntKind.i64.wrap ((k : Int) + 1) = ((k + 1 : Nat) : Int) := by rw [wrap_i64 (by omega) (by omega)]; omega
  rw [e1]
  refine ⟨fun hlt => ?_, fun hge => ?_⟩
  · have hlt := of_decide_eq_true hlt
    rw [byteAt_nat]
    have step : (dg (byt s k)).isSome = true → (w = w ∧ ∃ k' : Nat, ((k + 1 : Nat) : Int) = k' ∧ k' ≤ s.size ∧ ∀ j, j < k' → (dg (byt s j)).isSome = true) ∧ s.size - (((k + 1 : Nat) : Int)).toNat < s.size - ((k : Int)).toNat := fun h =>
      ⟨⟨rfl, k + 1, rfl, by omega, fun j hj => by
        by_cases hjk : j = k
        · rw [hjk]; exact h
        · exact hall j (by omega)⟩, by omega⟩
    have bad : ¬ (dg (byt s k)).isSome = true → (Value.bool false = .bool (unhexL s.data.toList).isSome ∧ w = w) := fun h => by
      have := unhexL_bad k s.data.toList _ (bs_get (by omega)) (by rw [toNat_of _ (byt_lt _ _)]; simpa using h)
      rw [this]; exact ⟨rfl, rfl⟩
    rw [hexed_ok] at step bad
    refine ⟨⟨by omega, by omega⟩, fun h1 => ⟨⟨by omega, by omega⟩, fun h2 => step ?_, fun h2 => ⟨⟨by omega, by omega⟩, fun h3 => ⟨⟨by omega, by omega⟩, fun h4 => bad ?_, fun h4 => step ?_⟩, fun h3 => bad ?_⟩⟩, fun h1 => ⟨⟨by omega, by omega⟩, fun h3 => ⟨⟨by omega, by omega⟩, fun h4 => bad ?_, fun h4 => step ?_⟩, fun h3 => bad ?_⟩⟩
    all_goals (simp at *; omega)
  · have hge := of_decide_eq_false hge
    have : k = s.size := by omega
    subst this
    refine ⟨by decide, ?_, rfl⟩
    rw [unhexL_iff, digits_iff.2 hall, Bool.true_and, bs_len, show (2 : Int) = ((2 : Nat) : Int) from rfl, ← Int.ofNat_tmod]
    congr 1
    rw [Bool.eq_iff_iff, beq_iff_eq, beq_iff_eq]; omega
theorem rid_spec (s : ByteArray) (hs : s.size ≤ 140737488355328) (w : World) : Calls Try.prog F_cartularyref09_Id #[.string s] w fun e w' => e = .returned (.bool (isId s.data.toList)) ∧ w' = w := by
  refine vc_cartularyref09_Id_ok (R := fun v w' => v = .bool (isId s.data.toList) ∧ w' = w) ?_ (fun v w' h => ⟨by rw [h.1], h.2⟩)
  refine ⟨fun h => (hexed_spec s hs w).mono ?_, fun h => ⟨?_, rfl⟩⟩
  · rintro e w2 ⟨rfl, hw⟩
    refine ⟨_, rfl, ?_, hw⟩
    have h := eq_of_beq h
    unfold isId
    rw [bs_len, show (s.size == 40) = true by rw [beq_iff_eq]; omega, Bool.and_true]
  · unfold isId
    rw [bs_len, show (s.size == 40) = false by
      rw [beq_eq_false_iff_ne]; intro e; rw [e] at h; simp at h, Bool.and_false]
end Go.Proofs.Ytoagdpjickippaa

/- Formulas of 1 Go functions of this seat (written by a program of the author's, vcgen.py), and that each is enough for the call. No condition. -/
set_option linter.unusedVariables false
namespace Go.Proofs.Ytoagdpjickippaa
open Go Vc Go.Proofs
set_option maxRecDepth 100000
/-- cartularyref12.Text -/
def vc_cartularyref12_Text (x0a : Option Addr) (x0n : Nat) (x0c : Nat) (x1 : ByteArray) (x2 : Int) (w : World) (R : Value → World → Prop) : Prop :=
  Calls Try.prog (16 : Nat) (Array.mk [Value.slice x0a x0n x0c]) (w) (fun e1 w2 =>
    ∃ l3 : Sl, (e1 = Ending.returned (Value.slice l3.1 l3.2 l3.3) ∧
     ∃ I4 : ByteArray → Int → World → Prop, ∃ I5 : ByteArray → Int → World → Nat, (I4 (ByteArray.mk (Array.mk [])) 0 w2 ∧
      ∀ s6 : ByteArray,
      ∀ n7 : Int,
      ∀ w8 : World,
      (I4 s6 n7 w8 →
        (((decide (n7 < 256) = true →
           ∃ I9 : Int → Int → World → Prop, ∃ I10 : Int → Int → World → Nat, (I9 0 0 w8 ∧
            ∀ n11 : Int,
            ∀ n12 : Int,
            ∀ w13 : World,
            (I9 n11 n12 w13 →
              (((decide (n12 < (↑l3.2 : Int)) = true →
                 ((0 ≤ n12 ∧
                   n12 < (↑l3.2 : Int)) ∧
                  ∃ a14 : Addr, (l3.1 = some a14 ∧
                   ∃ s15 : ByteArray, ∃ n16 : Int, ∃ n17 : Int, (Sem.run Try.prog (loadVar 44 (Addr.add a14 (Int.toNat n12 * 3))) w13 = Result.ok (Value.agg (Array.mk [Value.string s15, Value.int IntKind.i64 n16, Value.int IntKind.u32 n17])) w13 ∧
                    ∀ w18 : World,
                    (w18 = World.alloc w13 (Obj.cells (Array.mk [Value.string (ByteArray.mk (Array.mk [])), Value.int IntKind.i64 0, Value.int IntKind.u32 0]) 44) →
                      ∃ w19 : World, (Sem.run Try.prog (storeVar 44 (Addr.mk (Array.size (World.heap w13)) 0 none) (Value.agg (Array.mk [Value.string s15, Value.int IntKind.i64 n16, Value.int IntKind.u32 n17]))) w18 = Result.ok PUnit.unit w19 ∧
                       ∀ w20 : World,
                       (Drew w19 w20 →
                         ∃ I21 : World → Prop, (I21 w20 ∧
                          ∃ s22 : ByteArray, ((∀ w23 : World,
                           (I21 w23 →
                             World.cell? w23 (Addr.mk (Array.size (World.heap w13)) 0 none) = some (Value.string s22))) ∧
                           (((0 : Int) ≤ (2 : Int) ∧
                             2 ≤ (↑(ByteArray.size s22) : Int)) ∧
                            (Calls Try.prog (40 : Nat) (Array.mk [Value.string (ByteArray.extract s22 0 (Int.toNat 2))]) (w20) (fun e24 w25 =>
                               ∃ s26 : ByteArray, (e24 = Ending.returned (Value.string s26) ∧
                                (I21 w25 ∧
                                 ∀ w27 : World,
                                 (w27 = World.alloc w25 (Obj.cells (Array.mk [Value.int IntKind.u8 (IntKind.wrap IntKind.u8 n7)]) 5) →
                                   (I21 w27 ∧
                                    ∃ w28 : World, ∃ s29 : ByteArray, (Sem.run Try.prog (convert 68 9 (Value.slice (some (Addr.mk (Array.size (World.heap w25)) 0 none)) 1 1)) w27 = Result.ok (Value.string s29) w28 ∧
                                     (I21 w28 ∧
                                      ((((Op.bytesLess (ByteArray.toList s26) (ByteArray.toList s29) || ByteArray.toList s26 == ByteArray.toList s29) = true →
                                         (I9 (IntKind.wrap IntKind.i64 (n11 + 1)) (IntKind.wrap IntKind.i64 (n12 + 1)) w28 ∧
                                          I10 (IntKind.wrap IntKind.i64 (n11 + 1)) (IntKind.wrap IntKind.i64 (n12 + 1)) w28 < I10 n11 n12 w13))) ∧
                                       ((Op.bytesLess (ByteArray.toList s26) (ByteArray.toList s29) || ByteArray.toList s26 == ByteArray.toList s29) = false →
                                         (I9 n11 (IntKind.wrap IntKind.i64 (n12 + 1)) w28 ∧
                                          I10 n11 (IntKind.wrap IntKind.i64 (n12 + 1)) w28 < I10 n11 n12 w13)))))))))) ∧
                             ∀ w30 : World,
                             (w30 = World.alloc w20 (Obj.cells (Array.mk [Value.int IntKind.u8 (IntKind.wrap IntKind.u8 n7)]) 5) →
                               (I21 w30 ∧
                                (Calls Try.prog (40 : Nat) (Array.mk [Value.string (ByteArray.extract s22 0 (Int.toNat 2))]) (w30) (fun e31 w32 =>
                                   ∃ s33 : ByteArray, (e31 = Ending.returned (Value.string s33) ∧
                                    (I21 w32 ∧
                                     ∃ w34 : World, ∃ s35 : ByteArray, (Sem.run Try.prog (convert 68 9 (Value.slice (some (Addr.mk (Array.size (World.heap w20)) 0 none)) 1 1)) w32 = Result.ok (Value.string s35) w34 ∧
                                      (I21 w34 ∧
                                       ((((Op.bytesLess (ByteArray.toList s33) (ByteArray.toList s35) || ByteArray.toList s33 == ByteArray.toList s35) = true →
                                          (I9 (IntKind.wrap IntKind.i64 (n11 + 1)) (IntKind.wrap IntKind.i64 (n12 + 1)) w34 ∧
                                           I10 (IntKind.wrap IntKind.i64 (n11 + 1)) (IntKind.wrap IntKind.i64 (n12 + 1)) w34 < I10 n11 n12 w13))) ∧
                                        ((Op.bytesLess (ByteArray.toList s33) (ByteArray.toList s35) || ByteArray.toList s33 == ByteArray.toList s35) = false →
                                          (I9 n11 (IntKind.wrap IntKind.i64 (n12 + 1)) w34 ∧
                                           I10 n11 (IntKind.wrap IntKind.i64 (n12 + 1)) w34 < I10 n11 n12 w13)))))))) ∧
                                 ∃ w36 : World, ∃ s37 : ByteArray, (Sem.run Try.prog (convert 68 9 (Value.slice (some (Addr.mk (Array.size (World.heap w20)) 0 none)) 1 1)) w30 = Result.ok (Value.string s37) w36 ∧
                                  (I21 w36 ∧
                                   Calls Try.prog (40 : Nat) (Array.mk [Value.string (ByteArray.extract s22 0 (Int.toNat 2))]) (w36) (fun e38 w39 =>
                                     ∃ s40 : ByteArray, (e38 = Ending.returned (Value.string s40) ∧
                                      (I21 w39 ∧
                                       ((((Op.bytesLess (ByteArray.toList s40) (ByteArray.toList s37) || ByteArray.toList s40 == ByteArray.toList s37) = true →
                                          (I9 (IntKind.wrap IntKind.i64 (n11 + 1)) (IntKind.wrap IntKind.i64 (n12 + 1)) w39 ∧
                                           I10 (IntKind.wrap IntKind.i64 (n11 + 1)) (IntKind.wrap IntKind.i64 (n12 + 1)) w39 < I10 n11 n12 w13))) ∧
                                        ((Op.bytesLess (ByteArray.toList s40) (ByteArray.toList s37) || ByteArray.toList s40 == ByteArray.toList s37) = false →
                                          (I9 n11 (IntKind.wrap IntKind.i64 (n12 + 1)) w39 ∧
                                           I10 n11 (IntKind.wrap IntKind.i64 (n12 + 1)) w39 < I10 n11 n12 w13))))))))))))))))))))))) ∧
               (decide (n12 < (↑l3.2 : Int)) = false →
                 Calls Try.prog (41 : Nat) (Array.mk [Value.int IntKind.u64 (IntKind.wrap IntKind.u64 n11), Value.int IntKind.i64 4]) (w13) (fun e41 w42 =>
                   ∃ s43 : ByteArray, (e41 = Ending.returned (Value.string s43) ∧
                    (ByteArray.size s6 + ByteArray.size s43 ≤ 9223372036854775807 ∧
                     (I4 (s6 ++ s43) (IntKind.wrap IntKind.i64 (n7 + 1)) w42 ∧
                      I5 (s6 ++ s43) (IntKind.wrap IntKind.i64 (n7 + 1)) w42 < I5 s6 n7 w8)))))))))) ∧
         (decide (n7 < 256) = false →
           ∃ I44 : ByteArray → ByteArray → ByteArray → ByteArray → Int → World → Prop, ∃ I45 : ByteArray → ByteArray → ByteArray → ByteArray → Int → World → Nat, (I44 (ByteArray.mk (Array.mk [])) (ByteArray.mk (Array.mk [])) (ByteArray.mk (Array.mk [])) (ByteArray.mk (Array.mk [])) 0 w8 ∧
            ∀ s46 : ByteArray,
            ∀ s47 : ByteArray,
            ∀ s48 : ByteArray,
            ∀ s49 : ByteArray,
            ∀ n50 : Int,
            ∀ w51 : World,
            (I44 s46 s47 s48 s49 n50 w51 →
              (((decide (n50 < (↑l3.2 : Int)) = true →
                 ((0 ≤ n50 ∧
                   n50 < (↑l3.2 : Int)) ∧
                  ∃ a52 : Addr, (l3.1 = some a52 ∧
                   ∃ s53 : ByteArray, ∃ n54 : Int, ∃ n55 : Int, (Sem.run Try.prog (loadVar 44 (Addr.add a52 (Int.toNat n50 * 3))) w51 = Result.ok (Value.agg (Array.mk [Value.string s53, Value.int IntKind.i64 n54, Value.int IntKind.u32 n55])) w51 ∧
                    ∀ w56 : World,
                    (w56 = World.alloc w51 (Obj.cells (Array.mk [Value.string (ByteArray.mk (Array.mk [])), Value.int IntKind.i64 0, Value.int IntKind.u32 0]) 44) →
                      ∃ w57 : World, (Sem.run Try.prog (storeVar 44 (Addr.mk (Array.size (World.heap w51)) 0 none) (Value.agg (Array.mk [Value.string s53, Value.int IntKind.i64 n54, Value.int IntKind.u32 n55]))) w56 = Result.ok PUnit.unit w57 ∧
                       ∃ s58 : ByteArray, (World.cell? w57 (Addr.mk (Array.size (World.heap w51)) 0 none) = some (Value.string s58) ∧
                        Calls Try.prog (40 : Nat) (Array.mk [Value.string s58]) (w57) (fun e59 w60 =>
                          ∃ s61 : ByteArray, (e59 = Ending.returned (Value.string s61) ∧
                           (ByteArray.size s46 + ByteArray.size s61 ≤ 9223372036854775807 ∧
                            ∃ n62 : Int, (World.cell? w60 (Addr.mk (Array.size (World.heap w51)) 2 none) = some (Value.int IntKind.u32 n62) ∧
                             Calls Try.prog (41 : Nat) (Array.mk [Value.int IntKind.u64 (IntKind.wrap IntKind.u64 n62), Value.int IntKind.i64 4]) (w60) (fun e63 w64 =>
                               ∃ s65 : ByteArray, (e63 = Ending.returned (Value.string s65) ∧
                                (ByteArray.size s47 + ByteArray.size s65 ≤ 9223372036854775807 ∧
                                 ∃ I66 : Bool → World → Prop, ((∃ n67 : Int, (World.cell? w64 (Addr.mk (Array.size (World.heap w51)) 1 none) = some (Value.int IntKind.i64 n67) ∧
                                   (((decide (n67 ≥ x2) = true →
                                      I66 true w64)) ∧
                                    (decide (n67 ≥ x2) = false →
                                      ∃ n68 : Int, (World.cell? w64 (Addr.mk (Array.size (World.heap w51)) 1 none) = some (Value.int IntKind.i64 n68) ∧
                                       I66 (decide (n68 ≥ 2147483648)) w64))))) ∧
                                  ∀ b69 : Bool,
                                  ∀ w70 : World,
                                  (I66 b69 w70 →
                                    (((b69 = true →
                                       ((8 : Int) ≠ (0 : Int) ∧
                                        Calls Try.prog (41 : Nat) (Array.mk [Value.int IntKind.u64 (IntKind.wrap IntKind.u64 (IntKind.wrap IntKind.i64 (2147483648 + IntKind.wrap IntKind.i64 (Int.tdiv (↑(ByteArray.size s49) : Int) 8)))), Value.int IntKind.i64 4]) (w70) (fun e71 w72 =>
                                          ∃ s73 : ByteArray, (e71 = Ending.returned (Value.string s73) ∧
                                           (ByteArray.size s48 + ByteArray.size s73 ≤ 9223372036854775807 ∧
                                            ∃ n74 : Int, (World.cell? w72 (Addr.mk (Array.size (World.heap w51)) 1 none) = some (Value.int IntKind.i64 n74) ∧
                                             Calls Try.prog (41 : Nat) (Array.mk [Value.int IntKind.u64 (IntKind.wrap IntKind.u64 n74), Value.int IntKind.i64 8]) (w72) (fun e75 w76 =>
                                               ∃ s77 : ByteArray, (e75 = Ending.returned (Value.string s77) ∧
                                                (ByteArray.size s49 + ByteArray.size s77 ≤ 9223372036854775807 ∧
                                                 (I44 (s46 ++ s61) (s47 ++ s65) (s48 ++ s73) (s49 ++ s77) (IntKind.wrap IntKind.i64 (n50 + 1)) w76 ∧
                                                  I45 (s46 ++ s61) (s47 ++ s65) (s48 ++ s73) (s49 ++ s77) (IntKind.wrap IntKind.i64 (n50 + 1)) w76 < I45 s46 s47 s48 s49 n50 w51))))))))))) ∧
                                     (b69 = false →
                                       ∃ n78 : Int, (World.cell? w70 (Addr.mk (Array.size (World.heap w51)) 1 none) = some (Value.int IntKind.i64 n78) ∧
                                        Calls Try.prog (41 : Nat) (Array.mk [Value.int IntKind.u64 (IntKind.wrap IntKind.u64 n78), Value.int IntKind.i64 4]) (w70) (fun e79 w80 =>
                                          ∃ s81 : ByteArray, (e79 = Ending.returned (Value.string s81) ∧
                                           (ByteArray.size s48 + ByteArray.size s81 ≤ 9223372036854775807 ∧
                                            (I44 (s46 ++ s61) (s47 ++ s65) (s48 ++ s81) s49 (IntKind.wrap IntKind.i64 (n50 + 1)) w80 ∧
                                             I45 (s46 ++ s61) (s47 ++ s65) (s48 ++ s81) s49 (IntKind.wrap IntKind.i64 (n50 + 1)) w80 < I45 s46 s47 s48 s49 n50 w51)))))))))))))))))))))))) ∧
               (decide (n50 < (↑l3.2 : Int)) = false →
                 ∀ w82 : World,
                 (Drew w51 w82 →
                   ∃ I83 : World → Prop, (I83 w82 ∧
                    ((∀ w84 : World,
                     (w84 = World.alloc w82 (Obj.cells (Array.mk [Value.int IntKind.u8 255, Value.int IntKind.u8 116, Value.int IntKind.u8 79, Value.int IntKind.u8 99, Value.int IntKind.u8 0, Value.int IntKind.u8 0, Value.int IntKind.u8 0, Value.int IntKind.u8 2]) 5) →
                       (I83 w84 ∧
                        ((∃ w85 : World, ∃ s86 : ByteArray, (Sem.run Try.prog (convert 68 9 (Value.slice (some (Addr.mk (Array.size (World.heap w82)) 0 none)) 8 8)) w84 = Result.ok (Value.string s86) w85 ∧
                          (I83 w85 ∧
                           (ByteArray.size s86 + ByteArray.size s6 ≤ 9223372036854775807 ∧
                            (ByteArray.size (s86 ++ s6) + ByteArray.size s46 ≤ 9223372036854775807 ∧
                             (ByteArray.size (s86 ++ s6 ++ s46) + ByteArray.size s47 ≤ 9223372036854775807 ∧
                              (ByteArray.size (s86 ++ s6 ++ s46 ++ s47) + ByteArray.size s48 ≤ 9223372036854775807 ∧
                               (ByteArray.size (s86 ++ s6 ++ s46 ++ s47 ++ s48) + ByteArray.size s49 ≤ 9223372036854775807 ∧
                                Calls Try.prog (40 : Nat) (Array.mk [Value.string x1]) (w85) (fun e87 w88 =>
                                  ∃ s89 : ByteArray, (e87 = Ending.returned (Value.string s89) ∧
                                   (I83 w88 ∧
                                    (ByteArray.size (s86 ++ s6 ++ s46 ++ s47 ++ s48 ++ s49) + ByteArray.size s89 ≤ 9223372036854775807 ∧
                                     Calls Try.prog (34 : Nat) (Array.mk [Value.string (s86 ++ s6 ++ s46 ++ s47 ++ s48 ++ s49 ++ s89)]) (w88) (fun e90 w91 =>
                                       ∃ s92 : ByteArray, (e90 = Ending.returned (Value.string s92) ∧
                                        (ByteArray.size (s86 ++ s6 ++ s46 ++ s47 ++ s48 ++ s49 ++ s89) + ByteArray.size s92 ≤ 9223372036854775807 ∧
                                         R (Value.string (s86 ++ s6 ++ s46 ++ s47 ++ s48 ++ s49 ++ s89 ++ s92)) w91))))))))))))))) ∧
                         Calls Try.prog (40 : Nat) (Array.mk [Value.string x1]) (w84) (fun e93 w94 =>
                           ∃ s95 : ByteArray, (e93 = Ending.returned (Value.string s95) ∧
                            (I83 w94 ∧
                             ∃ w96 : World, ∃ s97 : ByteArray, (Sem.run Try.prog (convert 68 9 (Value.slice (some (Addr.mk (Array.size (World.heap w82)) 0 none)) 8 8)) w94 = Result.ok (Value.string s97) w96 ∧
                              (I83 w96 ∧
                               (ByteArray.size s97 + ByteArray.size s6 ≤ 9223372036854775807 ∧
                                (ByteArray.size (s97 ++ s6) + ByteArray.size s46 ≤ 9223372036854775807 ∧
                                 (ByteArray.size (s97 ++ s6 ++ s46) + ByteArray.size s47 ≤ 9223372036854775807 ∧
                                  (ByteArray.size (s97 ++ s6 ++ s46 ++ s47) + ByteArray.size s48 ≤ 9223372036854775807 ∧
                                   (ByteArray.size (s97 ++ s6 ++ s46 ++ s47 ++ s48) + ByteArray.size s49 ≤ 9223372036854775807 ∧
                                    (ByteArray.size (s97 ++ s6 ++ s46 ++ s47 ++ s48 ++ s49) + ByteArray.size s95 ≤ 9223372036854775807 ∧
                                     Calls Try.prog (34 : Nat) (Array.mk [Value.string (s97 ++ s6 ++ s46 ++ s47 ++ s48 ++ s49 ++ s95)]) (w96) (fun e98 w99 =>
                                       ∃ s100 : ByteArray, (e98 = Ending.returned (Value.string s100) ∧
                                        (ByteArray.size (s97 ++ s6 ++ s46 ++ s47 ++ s48 ++ s49 ++ s95) + ByteArray.size s100 ≤ 9223372036854775807 ∧
                                         R (Value.string (s97 ++ s6 ++ s46 ++ s47 ++ s48 ++ s49 ++ s95 ++ s100)) w99)))))))))))))))))) ∧
                     Calls Try.prog (40 : Nat) (Array.mk [Value.string x1]) (w82) (fun e101 w102 =>
                       ∃ s103 : ByteArray, (e101 = Ending.returned (Value.string s103) ∧
                        (I83 w102 ∧
                         ∀ w104 : World,
                         (w104 = World.alloc w102 (Obj.cells (Array.mk [Value.int IntKind.u8 255, Value.int IntKind.u8 116, Value.int IntKind.u8 79, Value.int IntKind.u8 99, Value.int IntKind.u8 0, Value.int IntKind.u8 0, Value.int IntKind.u8 0, Value.int IntKind.u8 2]) 5) →
                           (I83 w104 ∧
                            ∃ w105 : World, ∃ s106 : ByteArray, (Sem.run Try.prog (convert 68 9 (Value.slice (some (Addr.mk (Array.size (World.heap w102)) 0 none)) 8 8)) w104 = Result.ok (Value.string s106) w105 ∧
                             (I83 w105 ∧
                              (ByteArray.size s106 + ByteArray.size s6 ≤ 9223372036854775807 ∧
                               (ByteArray.size (s106 ++ s6) + ByteArray.size s46 ≤ 9223372036854775807 ∧
                                (ByteArray.size (s106 ++ s6 ++ s46) + ByteArray.size s47 ≤ 9223372036854775807 ∧
                                 (ByteArray.size (s106 ++ s6 ++ s46 ++ s47) + ByteArray.size s48 ≤ 9223372036854775807 ∧
                                  (ByteArray.size (s106 ++ s6 ++ s46 ++ s47 ++ s48) + ByteArray.size s49 ≤ 9223372036854775807 ∧
                                   (ByteArray.size (s106 ++ s6 ++ s46 ++ s47 ++ s48 ++ s49) + ByteArray.size s103 ≤ 9223372036854775807 ∧
                                    Calls Try.prog (34 : Nat) (Array.mk [Value.string (s106 ++ s6 ++ s46 ++ s47 ++ s48 ++ s49 ++ s103)]) (w105) (fun e107 w108 =>
                                      ∃ s109 : ByteArray, (e107 = Ending.returned (Value.string s109) ∧
                                       (ByteArray.size (s106 ++ s6 ++ s46 ++ s47 ++ s48 ++ s49 ++ s103) + ByteArray.size s109 ≤ 9223372036854775807 ∧
                                        R (Value.string (s106 ++ s6 ++ s46 ++ s47 ++ s48 ++ s49 ++ s103 ++ s109)) w108)))))))))))))))))))))))))))))
theorem vc_cartularyref12_Text_ok {x0a : Option Addr} {x0n : Nat} {x0c : Nat} {x1 : ByteArray} {x2 : Int} {w : World} {R : Value → World → Prop} {R' : Ending → World → Prop} (h : vc_cartularyref12_Text x0a x0n x0c x1 x2 w R) (hR : ∀ v w', R v w' → R' (.returned v) w') :
    Calls Try.prog 15 #[.slice x0a x0n x0c, .string x1, .int .i64 x2] w R' :=
  calls_of_body (vs := [(.slice x0a x0n x0c, false), (.string x1, false), (.int .i64 x2, false)]) (ty := ty) (ann := ⟨[(20, [(74, .bool)])], [(4, [(8, .str), (13, .int .i64)]), (8, [(14, .int .i64), (28, .int .i64)]), (15, [(9, .str), (10, .str), (11, .str), (12, .str), (51, .int .i64)])], [(10, .tree (.rd 0 (.rd 1 (.rd 2 (.rd 4 (.rd 5 (.ef 3 (.ef 6 (.ef 7 (.rd 8 .done) .done) .done) (.ef 6 (.ef 3 (.ef 7 (.rd 8 .done) .done) (.ef 7 (.ef 3 (.rd 8 .done) .done) .done)) .done)))))))), (24, .tree (.rd 2 (.rd 4 (.rd 6 (.rd 8 (.rd 10 (.rd 12 (.ef 0 (.ef 1 (.rd 3 (.rd 5 (.rd 7 (.rd 9 (.rd 11 (.ef 13 (.rd 14 (.rd 15 .done)) .done)))))) (.ef 13 (.ef 1 (.rd 3 (.rd 5 (.rd 7 (.rd 9 (.rd 11 (.rd 14 (.rd 15 .done))))))) .done) .done)) (.ef 13 (.ef 0 (.ef 1 (.rd 3 (.rd 5 (.rd 7 (.rd 9 (.rd 11 (.rd 14 (.rd 15 .done))))))) .done) .done) .done)))))))))], []⟩) (c := Try.f15.body.getD .skip) (by kernel_rfl) Try.func15 (by kernel_rfl) (by kernel_rfl) (Eq.mp (by kernel_rfl) h) hR
end Go.Proofs.Ytoagdpjickippaa

/- The reference's Check and Sorted of rows. Conditions: as named. -/
set_option linter.unusedVariables false
namespace Go.Proofs.Ytoagdpjickippaa
open Go Vc HexM SumM ShaM Go.Proofs

/-- What Check says. -/
def CheckR (rs : List PRow) (sum : ByteArray) (v : Value) : Prop := (v = .int .i64 2 ∧ 1000 < rs.length) ∨ (v = .int .i64 4 ∧ rs.length ≤ 1000 ∧ ¬ (CheckP rs ∧ isId sum.data.toList = true)) ∨ (v = .int .i64 0 ∧ rs.length ≤ 1000 ∧ CheckP rs ∧ isId sum.data.toList = true)
theorem rcheck_spec {w : World} {a : Option Addr} {n c : Nat} {rs : List PRow} (hr : ReadsK encP 3 w a rs) (hn : rs.length = n) (hcap : n ≤ c) (hz : ∀ r ∈ rs, r.1.size ≤ 140737488355328) (sum : ByteArray) (hsz : sum.size ≤ 140737488355328) :
    Calls Try.prog F_cartularyref12_Check #[.slice a n c, .string sum] w fun e w' => ∃ v, e = .returned v ∧ CheckR rs sum v ∧ Fr (fun _ => False) w w' := by
  refine vc_cartularyref12_Check_ok (R := fun v w' => CheckR rs sum v ∧ Fr (fun _ => False) w w') ?_ (fun v w' h => ⟨v, rfl, h⟩)
  refine ⟨fun h => ⟨.inl ⟨rfl, by have := of_decide_eq_true h; omega⟩, .refl _ _⟩, fun h => ?_⟩
  have hl : n ≤ 1000 := by have := of_decide_eq_false h; omega
  refine ⟨fun i w' => ∃ k : Nat, i = k ∧ k ≤ n ∧ (∀ j x, j < k → rs[j]? = some x → okRow x) ∧ (∀ j j' x y, j < j' → j' < k → rs[j]? = some x → rs[j']? = some y → x.1 ≠ y.1) ∧ Fr (fun _ => False) w w', fun i _ => n - i.toNat,
    ⟨0, rfl, Nat.zero_le _, fun j x h => by omega, fun j j' x y _ h => by omega, .refl _ _⟩, ?_⟩
  rintro i w4 ⟨k, rfl, hk, hok, hdist, hf4⟩
  have bad : ∀ {w' : World}, Fr (fun _ => False) w w' → ¬ (CheckP rs ∧ isId sum.data.toList = true) → CheckR rs sum (.int .i64 4) ∧ Fr (fun _ => False) w w' := fun hf hno => ⟨.inr (.inl ⟨rfl, by omega, hno⟩), hf⟩
  refine ⟨fun hlt => ?_, fun hge => ?_⟩
  · have hlt := of_decide_eq_true hlt
    have hkl : k < rs.length := by omega
    have hx : rs[k]? = some rs[k] := List.getElem?_eq_getElem hkl
    have hxm : rs[k] ∈ rs := List.getElem_mem hkl
    generalize rs[k] = x at hx hxm
    have e1 : IntKind.i64.wrap ((k : Int) + 1) = ((k + 1 : Nat) : Int) := by rw [wrap_i64 (by omega) (by omega)]; omega
    rw [e1]
    obtain ⟨ad, had, hld⟩ := (hr.keep hf4 (by simp)).load elRP hx
    refine ⟨⟨by omega, by omega⟩, ad, had, x.1, x.2.1, x.2.2, by rw [Int.toNat_natCast]; exact hld, fun w9 h9 => ?_⟩
    subst h9
    refine ⟨_, boxR_run w4 x, ?_⟩
    have hfa : Fr (fun _ => False) w4 (w4.alloc (.cells (encP x).toArray T_cartularyref12_Row)) := .alloc _ _ _
    have hb10 : (w4.alloc (.cells (encP x).toArray T_cartularyref12_Row)).heap[w4.heap.size]? = some (.cells (encP x).toArray T_cartularyref12_Row (0, 0)) := alloc_new _ _
    generalize w4.alloc (.cells (encP x).toArray T_cartularyref12_Row) = w10 at hfa hb10 ⊢
    generalize w4.heap.size = g at hb10 ⊢
    have hf10 := hf4.trans' hfa
    have nochk : ¬ okRow x → ¬ (CheckP rs ∧ isId sum.data.toList = true) := fun h hh => h (hh.1.1 x hxm)
    refine ⟨x.1, box_name hb10, (rid_spec x.1 (hz x hxm) w10).mono ?_⟩
    rintro e w13 ⟨rfl, hw⟩
    replace hw := hw.symm
    subst hw
    have hbx1 : w10.cell? ⟨g, 1, none⟩ = some (.int .i64 x.2.1) := by rw [cell_blk hb10]; rfl
    refine ⟨_, rfl, fun hid => bad hf10 (nochk fun h => by rw [h.1] at hid; cases hid), fun hid => ⟨_, hbx1, fun h1 => bad hf10 (nochk fun h => by have := of_decide_eq_true h1; have := h.2.1; omega), fun h1 => ⟨_, hbx1, fun h2 => bad hf10 (nochk fun h => by have := of_decide_eq_true h2; have := h.2.2; omega), fun h2 => ⟨⟨by omega, by omega⟩, ?_⟩⟩⟩⟩
    have hidx : isId x.1.data.toList = true := by simpa using hid
    have hokx : okRow x := ⟨hidx, by have := of_decide_eq_false h1; omega, by have := of_decide_eq_false h2; omega⟩
    refine ⟨fun i w' => ∃ m : Nat, i = m ∧ m ≤ k ∧ (∀ j y, j < m → rs[j]? = some y → y.1 ≠ x.1) ∧ Fr (fun _ => False) w10 w', fun i _ => k - i.toNat, ⟨0, rfl, Nat.zero_le _, fun j y h => by omega, .refl _ _⟩, ?_⟩
    rintro i w20 ⟨m, rfl, hm, hne, hf20⟩
    have e2 : IntKind.i64.wrap ((m : Int) + 1) = ((m + 1 : Nat) : Int) := by rw [wrap_i64 (by omega) (by omega)]; omega
    rw [e2, Int.toNat_natCast, Int.toNat_natCast]
    refine ⟨fun hlt2 => ?_, fun hge2 => ?_⟩
    · have hlt2 := of_decide_eq_true hlt2
      have hml : m < rs.length := by omega
      have hy : rs[m]? = some rs[m] := List.getElem?_eq_getElem hml
      generalize rs[m] = y at hy
      have hf20' := hf10.trans' hf20
      have hs := (hr.keep hf20' (by simp)).sub (cap := c) (by omega) 0
      rw [List.drop_zero] at hs
      obtain ⟨ad2, had2, hld2⟩ := hs.load elRP hy
      refine ⟨⟨by omega, by omega⟩, ad2, had2, y.1, y.2.1, y.2.2, hld2, fun w25 h25 => ?_⟩
      subst h25
      refine ⟨_, boxR_run w20 y, ?_⟩
      have hfb : Fr (fun _ => False) w20 (w20.alloc (.cells (encP y).toArray T_cartularyref12_Row)) := .alloc _ _ _
      have hb26 : (w20.alloc (.cells (encP y).toArray T_cartularyref12_Row)).heap[w20.heap.size]? = some (.cells (encP y).toArray T_cartularyref12_Row (0, 0)) := alloc_new _ _
      generalize w20.alloc (.cells (encP y).toArray T_cartularyref12_Row) = w26 at hfb hb26 ⊢
      have hbg := (hf20.trans' hfb).keep hb10 (by simp)
      refine ⟨y.1, box_name hb26, x.1, box_name hbg, ?_⟩
      rw [bs_eq]
      refine ⟨fun he => bad (hf20'.trans' hfb) fun hh => ?_, fun he => ⟨⟨m + 1, rfl, by omega, fun j z hj hzz => ?_, hf20.trans' hfb⟩, by dsimp only; omega⟩⟩
      · have he := of_decide_eq_true he
        have := (List.pairwise_iff_getElem.1 hh.1.2) m k hml hkl (by omega)
        rw [(List.getElem?_eq_some_iff.1 hx).2, (List.getElem?_eq_some_iff.1 hy).2] at this
        exact this he
      · by_cases hjm : j < m
        · exact hne j z hjm hzz
        · rw [show j = m by omega, hy] at hzz
          cases hzz
          exact of_decide_eq_false he
    · have hge2 := of_decide_eq_false hge2
      refine ⟨⟨k + 1, rfl, by omega, fun j y hj hy => ?_, fun j j' y z hjj hj' hy hz2 => ?_, hf10.trans' hf20⟩, by dsimp only; omega⟩
      · by_cases hjk : j < k
        · exact hok j y hjk hy
        · rw [show j = k by omega, hx] at hy
          cases hy
          exact hokx
      · by_cases hjk : j' < k
        · exact hdist j j' y z hjj hjk hy hz2
        · rw [show j' = k by omega, hx] at hz2
          cases hz2
          exact hne j y (by omega) hy
  · have hge := of_decide_eq_false hge
    have hk' : k = n := by omega
    subst hk'
    have hchk : CheckP rs := ⟨fun r hrm => by
      obtain ⟨j, hj⟩ := List.mem_iff_getElem?.1 hrm
      exact hok j r (by have := (List.getElem?_eq_some_iff.1 hj).1; omega) hj, List.pairwise_iff_getElem.2 fun i j hi hj hij => hdist i j _ _ hij (by omega) (List.getElem?_eq_getElem hi) (List.getElem?_eq_getElem hj)⟩
    refine (rid_spec sum hsz w4).mono ?_
    rintro e w30 ⟨rfl, hw⟩
    replace hw := hw.symm
    subst hw
    refine ⟨_, rfl, fun h => bad hf4 fun hh => (by rw [hh.2] at h; cases h), fun h => ⟨.inr (.inr ⟨rfl, by omega, hchk, by simpa using h⟩), hf4⟩⟩
end Go.Proofs.Ytoagdpjickippaa

/- The reference's Sorted of rows. Condition: at most a thousand. -/
set_option linter.unusedVariables false
namespace Go.Proofs.Ytoagdpjickippaa
open Go Vc HexM SumM ShaM Go.Proofs

theorem insP_len (r : PRow) (xs : List PRow) : (insP r xs).length = xs.length + 1 := (insP_perm r xs).length_eq
theorem fold_len : ∀ (rs o : List PRow), (rs.foldl (fun o r => insP r o) o).length = o.length + rs.length
  | [], o => rfl
  | r :: rs, o => by rw [List.foldl_cons, fold_len rs, insP_len, List.length_cons]; omega
theorem rsorted_spec {w : World} {a : Option Addr} {n c : Nat} {rs : List PRow} (hr : ReadsK encP 3 w a rs) (hn : rs.length = n) (hl : n ≤ 1000) :
    Calls Try.prog F_cartularyref12_Sorted #[.slice a n c] w fun e w' => ∃ l : Sl, e = .returned (.slice l.a l.len l.cap) ∧ OwnK encP 3 w' w.heap.size T_cartularyref12_Row l (sortP rs) ∧ Fr (fun _ => False) w w' := by
  refine vc_cartularyref12_Sorted_ok (R := fun v w' => ∃ l : Sl, v = .slice l.a l.len l.cap ∧ OwnK encP 3 w' w.heap.size T_cartularyref12_Row l (sortP rs) ∧ Fr (fun _ => False) w w') ?_ (fun v w' ⟨l, h⟩ => ⟨l, by rw [h.1], h.2⟩)
  intro w1 h1
  have hf1 : Fr (fun _ => False) w w1 := by rw [h1]; exact .alloc _ _ _
  have ho1 : OwnK encP 3 w1 w.heap.size T_cartularyref12_Row ⟨some ⟨w.heap.size, 0, none⟩, 0, 0⟩ [] := by rw [h1]; exact .empty w _
  clear h1
  refine ⟨fun l i w' => ∃ k : Nat, i = k ∧ k ≤ n ∧ OwnK encP 3 w' w.heap.size T_cartularyref12_Row l ((rs.take k).foldl (fun o r => insP r o) []) ∧ Fr (fun _ => False) w w', fun _ i _ => n - i.toNat, ⟨0, rfl, Nat.zero_le _, ho1, hf1⟩, ?_⟩
  clear ho1 hf1
  rintro l4 i w6 ⟨k, rfl, hk, ho6, hf6⟩
  refine ⟨fun hlt => ?_, fun hge => ?_⟩
  · have hlt := of_decide_eq_true hlt
    have hkl : k < rs.length := by omega
    have hx : rs[k]? = some rs[k] := List.getElem?_eq_getElem hkl
    generalize rs[k] = r at hx
    have e1 : IntKind.i64.wrap ((k : Int) + 1) = ((k + 1 : Nat) : Int) := by rw [wrap_i64 (by omega) (by omega)]; omega
    rw [e1]
    have htk : (rs.take (k + 1)).foldl (fun o r => insP r o) [] = insP r ((rs.take k).foldl (fun o r => insP r o) []) := by rw [List.take_add_one, hx, List.foldl_append]; rfl
    have hol := fold_len (rs.take k) []
    rw [List.length_take, List.length_nil] at hol
    generalize (rs.take k).foldl (fun o r => insP r o) [] = o at ho6 htk hol
    have hl4 : l4.len = o.length := ho6.len
    obtain ⟨ad, had, hld⟩ := (hr.keep hf6 (by simp)).load elRP hx
    refine ⟨⟨by omega, by omega⟩, ad, had, r.1, r.2.1, r.2.2, by rw [Int.toNat_natCast]; exact hld, fun w11 h11 => ?_⟩
    subst h11
    refine ⟨_, boxR_run w6 r, ?_⟩
    have hfa : Fr (fun _ => False) w6 (w6.alloc (.cells (encP r).toArray T_cartularyref12_Row)) := .alloc _ _ _
    have hb12 : (w6.alloc (.cells (encP r).toArray T_cartularyref12_Row)).heap[w6.heap.size]? = some (.cells (encP r).toArray T_cartularyref12_Row (0, 0)) := alloc_new _ _
    generalize w6.alloc (.cells (encP r).toArray T_cartularyref12_Row) = w12 at hfa hb12 ⊢
    have hf12 := hf6.trans' hfa
    have ho12 := ho6.keep hfa (by simp)
    have hs6 : ∀ {x}, l4.a = some x → x.block < w6.heap.size := fun hx => (ho6.blk hx).2
    intro w13 h13
    have hf13 : Fr (fun _ => False) w12 w13 := by rw [h13]; exact .alloc _ _ _
    have ho13 : OwnK encP 3 w13 w12.heap.size T_cartularyref12_Row ⟨some ⟨w12.heap.size, 0, none⟩, 0, 0⟩ [] := by rw [h13]; exact .empty w12 _
    clear h13
    refine ⟨fun l b i w' => ∃ (j : Nat) (next : List PRow), i = j ∧ j ≤ o.length ∧ OwnK encP 3 w' w12.heap.size T_cartularyref12_Row l next ∧ next.length ≤ j + 1 ∧ (b = true → next ++ o.drop j = insP r o) ∧ (b = false → next = o.take j ∧ insP r o = o.take j ++ insP r (o.drop j)) ∧ Fr (fun _ => False) w12 w', fun _ _ i _ => o.length - i.toNat,
      ⟨0, [], rfl, Nat.zero_le _, ho13, by simp, fun h => (by cases h), fun _ => ⟨by simp, by simp⟩, hf13⟩, ?_⟩
    clear ho13 hf13
    rintro l16 b17 i w19 ⟨j, next, rfl, hj, ho19, hnl, hT, hF, hf19⟩
    refine ⟨fun hlt2 => ?_, fun hge2 => ?_⟩
    · have hlt2 := of_decide_eq_true hlt2
      have hjl : j < o.length := by omega
      have hy : o[j]? = some o[j] := List.getElem?_eq_getElem hjl
      have hdj : o.drop j = o[j] :: o.drop (j + 1) := List.drop_eq_getElem_cons hjl
      generalize o[j] = y at hy hdj
      have e2 : IntKind.i64.wrap ((j : Int) + 1) = ((j + 1 : Nat) : Int) := by rw [wrap_i64 (by omega) (by omega)]; omega
      rw [e2]
      obtain ⟨ad2, had2, hld2⟩ := ((ho12.reads fun _ => rfl).keep hf19 (by simp)).load elRP hy
      refine ⟨⟨by omega, by omega⟩, ad2, had2, y.1, y.2.1, y.2.2, by rw [Int.toNat_natCast]; exact hld2, fun w24 h24 => ?_⟩
      subst h24
      refine ⟨_, boxR_run w19 y, ?_⟩
      have hfb : Fr (fun _ => False) w19 (w19.alloc (.cells (encP y).toArray T_cartularyref12_Row)) := .alloc _ _ _
      have hb25 : (w19.alloc (.cells (encP y).toArray T_cartularyref12_Row)).heap[w19.heap.size]? = some (.cells (encP y).toArray T_cartularyref12_Row (0, 0)) := alloc_new _ _
      generalize w19.alloc (.cells (encP y).toArray T_cartularyref12_Row) = w25 at hfb hb25 ⊢
      have hf25 := hf19.trans' hfb
      have hbr := hf25.keep hb12 (by simp)
      have ho25 := ho19.keep hfb (by simp)
      have hlt19 : ∀ {x}, l16.a = some x → x.block < w19.heap.size := fun hx => (ho19.blk hx).2
      have hbd : w12.heap.size ≤ w25.heap.size := hf25.size
      have push : ∀ (b : Bool) (hT' : b = true → (next ++ [y]) ++ o.drop (j + 1) = insP r o) (hF' : b = false → next ++ [y] = o.take (j + 1) ∧ insP r o = o.take (j + 1) ++ insP r (o.drop (j + 1))),
          ∃ s46 : ByteArray, ∃ n47 n48 : Int, (loadVar T_cartularyref12_Row ⟨w19.heap.size, 0, none⟩).run Try.prog w25 = .ok (.agg #[.string s46, .int .i64 n47, .int .u32 n48]) w25 ∧ ∀ w49, w49 = w25.alloc (.cells #[.string s46, .int .i64 n47, .int .u32 n48] T_cartularyref12_Row) → ∃ w50 l51, (Builtin.append_ #[T_S_cartularyref12_Row, T_S_cartularyref12_Row] T_S_cartularyref12_Row #[.slice l16.a l16.len l16.cap, .slice (some ⟨w25.heap.size, 0, none⟩) 1 1]).run Try.prog w49 = .ok (.slice l51.a l51.len l51.cap) w50 ∧
            ((∃ (j' : Nat) (next : List PRow), ((j + 1 : Nat) : Int) = j' ∧ j' ≤ o.length ∧ OwnK encP 3 w50 w12.heap.size T_cartularyref12_Row l51 next ∧ next.length ≤ j' + 1 ∧ (b = true → next ++ o.drop j' = insP r o) ∧ (b = false → next = o.take j' ∧ insP r o = o.take j' ++ insP r (o.drop j')) ∧ Fr (fun _ => False) w12 w50) ∧ o.length - ((j + 1 : Nat) : Int).toNat < o.length - ((j : Nat) : Int).toNat) := fun b hT' hF' => by
        refine ⟨y.1, y.2.1, y.2.2, boxR_load hb25, fun w49 h49 => ?_⟩
        obtain ⟨w50, l51, hr50, ho50, hf50, _⟩ := append_oneK elRP ho25 (x := y) (by simp only [maxLen]; omega) (by omega) hbd h49
        exact ⟨w50, l51, hr50, ⟨j + 1, next ++ [y], rfl, by omega, ho50, by rw [List.length_append]; simp; omega, hT', hF', hf25.trans hf50 fun q hq ⟨z, hz, e⟩ => by have := (ho19.blk hz).1; omega⟩, by omega⟩
      refine ⟨fun hb => ?_, fun hb => push b17 (fun h => ?_) (fun h => by rw [h] at hb; cases hb)⟩
      · have hb : b17 = false := by simpa using hb
        obtain ⟨hnx, hin⟩ := hF hb
        rw [hdj, insP] at hin
        refine ⟨y.1, box_name hb25, r.1, box_name hbr, ?_⟩
        have hcmp : (!(Op.bytesLess (ByteArray.toList y.1) (ByteArray.toList r.1) || ByteArray.toList y.1 == ByteArray.toList r.1)) = decide (r.1.data.toList < y.1.data.toList) := by
          rw [bs_eq, ByteArray.toList_eq, ByteArray.toList_eq, Proofs.bytesLess_eq]
          rcases lt_tri r.1.data.toList y.1.data.toList with h | h | h
          · rw [decide_eq_true h, decide_eq_false (fun h2 => List.lt_asymm h h2), decide_eq_false (fun e => by rw [e] at h; exact List.lt_irrefl _ h)]; rfl
          · have := bs_ext h
            rw [this, decide_eq_false (List.lt_irrefl _), decide_eq_true rfl]; rfl
          · rw [decide_eq_true h, decide_eq_false (fun h2 => List.lt_asymm h h2)]; rfl
        rw [hcmp]
        refine ⟨fun hrl => ?_, fun hrl => push b17 (fun h => by rw [h] at hb; cases hb) fun _ => ?_⟩
        · have hrl := of_decide_eq_true hrl
          rw [if_pos hrl] at hin
          refine ⟨r.1, r.2.1, r.2.2, boxR_load hbr, fun w31 h31 => ?_⟩
          obtain ⟨w32, l33, hr32, ho32, hf32, hs32⟩ := append_oneK elRP ho25 (x := r) (by simp only [maxLen]; omega) (by omega) hbd h31
          have hb32 := hf32.keep hb25 fun ⟨z, hz, e⟩ => by have := hlt19 hz; omega
          have hf32' : Fr (fun _ => False) w12 w32 := hf25.trans hf32 fun q hq ⟨z, hz, e⟩ => by have := (ho19.blk hz).1; omega
          refine ⟨w32, l33, hr32, y.1, y.2.1, y.2.2, boxR_load hb32, fun w37 h37 => ?_⟩
          obtain ⟨w38, l39, hr38, ho38, hf38, _⟩ := append_oneK elRP ho32 (x := y) (by rw [List.length_append]; simp only [maxLen, List.length_singleton]; omega) (by rw [List.length_append]; simp only [List.length_singleton]; omega) hf32'.size h37
          refine ⟨w38, l39, hr38, ⟨j + 1, next ++ [r] ++ [y], rfl, by omega, ho38, ?_, fun _ => ?_, fun h => (by cases h), hf32'.trans hf38 fun q hq ⟨z, hz, e⟩ => by have := (ho32.blk hz).1; omega⟩, by dsimp only; omega⟩
          · rw [hnx]; simp; omega
          · rw [hin, hnx]; simp
        · have hrl := of_decide_eq_false hrl
          rw [if_neg hrl] at hin
          have htj : o.take (j + 1) = o.take j ++ [y] := by rw [List.take_add_one, hy]; rfl
          exact ⟨by rw [htj, hnx], by rw [hin, htj]; simp⟩
      · have := hT h
        rw [← this, hdj]; simp
    · have hge2 := of_decide_eq_false hge2
      have hj' : j = o.length := by omega
      have hbr := hf19.keep hb12 (by simp)
      have hF19 := hf12.trans' hf19
      have hbd : w12.heap.size ≤ w19.heap.size := hf19.size
      refine ⟨fun hb => ?_, fun hb => ⟨⟨k + 1, rfl, by omega, ?_, hF19⟩, by dsimp only; omega⟩⟩
      · have hb : b17 = false := by simpa using hb
        obtain ⟨hnx, hin⟩ := hF hb
        rw [List.drop_eq_nil_of_le (by omega), insP, List.take_of_length_le (by omega)] at hin
        rw [List.take_of_length_le (by omega)] at hnx
        subst hnx
        refine ⟨r.1, r.2.1, r.2.2, boxR_load hbr, fun w55 h55 => ?_⟩
        obtain ⟨w56, l57, hr56, ho56, hf56, _⟩ := append_oneK elRP ho19 (x := r) (by simp only [maxLen]; omega) (by omega) hbd h55
        exact ⟨w56, l57, hr56, ⟨k + 1, rfl, by omega, by rw [htk, hin]; exact ho56.mono hf12.size, hF19.trans hf56 fun q hq ⟨z, hz, e⟩ => by have := (ho19.blk hz).1; have := hf12.size; omega⟩, by dsimp only; omega⟩
      · have hb : b17 = true := by simpa using hb
        have := hT hb
        rw [List.drop_eq_nil_of_le (by omega), List.append_nil] at this
        rw [htk, ← this]
        exact ho19.mono hf12.size
  · have hge := of_decide_eq_false hge
    have hk' : k = rs.length := by omega
    rw [hk', List.take_length] at ho6
    exact ⟨l4, rfl, ho6, hf6⟩
end Go.Proofs.Ytoagdpjickippaa

/- The reference's Unhex of a text of digits. Condition: at most a thousand letters. -/
set_option linter.unusedVariables false
namespace Go.Proofs.Ytoagdpjickippaa
open Go Vc HexM SumM Go.Proofs

theorem hex_at {r : List UInt8} {k : Nat} {c : UInt8} (h : r[k]? = some c) : ((hexL r).drop (2 * k)).take 2 = [UInt8.ofNat (hx (c.toNat / 16)), UInt8.ofNat (hx (c.toNat % 16))] :=
  PkM.sl_flat (f := fun c : UInt8 => [UInt8.ofNat (hx (c.toNat / 16)), UInt8.ofNat (hx (c.toNat % 16))]) (k := 2) r k c (fun _ _ => rfl) h
theorem runhex_spec (s : ByteArray) (r : List UInt8) (h : hexL r = s.data.toList) (hs : s.size ≤ 1000) (w : World) : Calls Try.prog F_cartularyref01_Unhex #[.string s] w fun e w' => e = .returned (.string ⟨r.toArray⟩) ∧ Fr (fun _ => False) w w' := by
  refine vc_cartularyref01_Unhex_ok (R := fun v w' => v = .string ⟨r.toArray⟩ ∧ Fr (fun _ => False) w w') ?_ (fun v w' h => ⟨by rw [h.1], h.2⟩)
  have hlen : s.size = 2 * r.length := by rw [← bs_len, ← h, hexL_length]
  intro w1 h1
  have hf1 : Fr (fun _ => False) w w1 := h1 ▸ Fr.alloc _ _ _
  have ho1 : Own w1 w.heap.size T_uint8 ⟨some ⟨w.heap.size, 0, none⟩, 0, 0⟩ (byteV []) := h1 ▸ own_empty w T_uint8
  refine ⟨fun l i w' => ∃ k : Nat, i = ((2 * k : Nat) : Int) ∧ k ≤ r.length ∧ Own w' w.heap.size T_uint8 l (byteV (r.take k)) ∧ Fr (fun _ => False) w w', fun _ i _ => s.size - i.toNat, ⟨0, rfl, Nat.zero_le _, ho1, hf1⟩, ?_⟩
  rintro l i w6 ⟨k, rfl, hk, ho, hf⟩
  have e1 : IntKind.i64.wrap (((2 * k : Nat) : Int) + 1) = ((2 * k + 1 : Nat) : Int) := by rw [wrap_i64 (by omega) (by omega)]; omega
  have e2 : IntKind.i64.wrap (((2 * k : Nat) : Int) + 2) = ((2 * k + 2 : Nat) : Int) := by rw [wrap_i64 (by omega) (by omega)]; omega
  rw [e1, e2, Int.toNat_natCast, Int.toNat_natCast]
  refine ⟨fun hlt => ?_, fun hge => ?_⟩
  · have hlt := of_decide_eq_true hlt
    have hkl : k < r.length := by omega
    have hc : r[k]? = some r[k] := List.getElem?_eq_getElem hkl
    generalize r[k] = c at hc
    have hcl := UInt8.toNat_lt c
    obtain ⟨w7, l8, hr7, ho7, hf7⟩ := bytes_of (P := Try.prog) (src := T_string) (dst := T_S_uint8) (e := T_uint8) (by kernel_rfl) (by kernel_rfl) (by kernel_rfl) (s.extract (2 * k) (2 * k + 2)) (by simp [maxLen]; omega) w6
    have hex2 : (s.extract (2 * k) (2 * k + 2)).data.toList = [UInt8.ofNat (hx (c.toNat / 16)), UInt8.ofNat (hx (c.toNat % 16))] := by
      rw [bs_extract, ← h, show 2 * k + 2 - 2 * k = 2 by omega]; exact hex_at hc
    rw [hex2] at ho7
    have hl8 : l8.len = 2 := ho7.len
    have hrd := ho7.reads
    have hF7 := hf.trans' hf7
    obtain ⟨hi, hhi⟩ : ∃ hi, c.toNat / 16 = hi := ⟨_, rfl⟩
    obtain ⟨lo, hlo⟩ : ∃ lo, c.toNat % 16 = lo := ⟨_, rfl⟩
    rw [hhi, hlo] at hrd
    have dig : ∀ d : Nat, d < 16 → ∀ v : Nat, v ≤ 15 → ((decide (((hx d : Nat) : Int) > 57) = true → IntKind.i64.wrap (IntKind.i64.wrap (16 * (v : Int)) + IntKind.i64.wrap (IntKind.u8.wrap (IntKind.u8.wrap (((hx d : Nat) : Int) - 39) - 48))) = ((16 * v + d : Nat) : Int)) ∧
        (decide (((hx d : Nat) : Int) > 57) = false → IntKind.i64.wrap (IntKind.i64.wrap (16 * (v : Int)) + IntKind.i64.wrap (IntKind.u8.wrap (((hx d : Nat) : Int) - 48))) = ((16 * v + d : Nat) : Int))) := fun d hd v hv => by
      have hxd := hx.eq_1 d
      refine ⟨fun h => ?_, fun h => ?_⟩
      · have h := of_decide_eq_true h
        have hx2 : hx d = 87 + d := by
          rw [hxd]
          by_cases h10 : d < 10
          · rw [hxd, if_pos h10] at h; omega
          · rw [if_neg h10]
        rw [hx2, wrap_u8 (x := ((87 + d : Nat) : Int) - 39) (by omega) (by omega), wrap_u8 (by omega) (by omega), wrap_i64 (x := 16 * (v : Int)) (by omega) (by omega), wrap_i64 (x := ((87 + d : Nat) : Int) - 39 - 48) (by omega) (by omega), wrap_i64 (by omega) (by omega)]; omega
      · have h := of_decide_eq_false h
        have hx2 : hx d = 48 + d := by
          rw [hxd]
          by_cases h10 : d < 10
          · rw [if_pos h10]
          · rw [hxd, if_neg h10] at h; omega
        rw [hx2, wrap_u8 (by omega) (by omega), wrap_i64 (x := 16 * (v : Int)) (by omega) (by omega), wrap_i64 (x := ((48 + d : Nat) : Int) - 48) (by omega) (by omega), wrap_i64 (by omega) (by omega)]; omega
    refine ⟨⟨by omega, by omega, by omega⟩, w7, l8, hr7, fun v j w' => ∃ m : Nat, j = m ∧ m ≤ 2 ∧ v = ((if m = 0 then 0 else if m = 1 then hi else c.toNat : Nat) : Int) ∧ w' = w7, fun _ j _ => 2 - j.toNat, ⟨0, rfl, by decide, rfl, rfl⟩, ?_⟩
    rintro v j w13 ⟨m, rfl, hm, rfl, hw⟩
    replace hw := hw.symm
    subst hw
    have e3 : IntKind.i64.wrap ((m : Int) + 1) = ((m + 1 : Nat) : Int) := by rw [wrap_i64 (by omega) (by omega)]; omega
    rw [e3, Int.toNat_natCast, Nat.mul_one]
    refine ⟨fun hj => ?_, fun hj w16 h16 => ?_⟩
    · have hj := of_decide_eq_true hj
      have hm2 : m = 0 ∨ m = 1 := by omega
      rcases hm2 with rfl | rfl
      · obtain ⟨ad, had, hcl2⟩ := hrd 0 (.int .u8 ((hx hi : Nat) : Int)) (by simp [toNat_of _ (hx_lt (show hi < 16 by omega))])
        obtain ⟨d1, d2⟩ := dig hi (by omega) 0 (by decide)
        rw [show 16 * 0 + hi = hi by omega] at d1 d2
        refine ⟨⟨by omega, by omega⟩, ad, had, _, hcl2, fun hb => ⟨⟨1, rfl, by decide, ?_, rfl⟩, by dsimp only; omega⟩, fun hb => ⟨⟨1, rfl, by decide, ?_, rfl⟩, by dsimp only; omega⟩⟩
        · exact d1 hb
        · exact d2 hb
      · obtain ⟨ad, had, hcl2⟩ := hrd 1 (.int .u8 ((hx lo : Nat) : Int)) (by simp [toNat_of _ (hx_lt (show lo < 16 by omega))])
        obtain ⟨d1, d2⟩ := dig lo (by omega) hi (by omega)
        rw [show 16 * hi + lo = c.toNat by omega] at d1 d2
        refine ⟨⟨by omega, by omega⟩, ad, had, _, hcl2, fun hb => ⟨⟨2, rfl, by decide, ?_, rfl⟩, by dsimp only; omega⟩, fun hb => ⟨⟨2, rfl, by decide, ?_, rfl⟩, by dsimp only; omega⟩⟩
        · exact d1 hb
        · exact d2 hb
    · have hj := of_decide_eq_false hj
      have hm2 : m = 2 := by omega
      subst hm2
      have e4 : IntKind.u8.wrap ((if 2 = 0 then 0 else if 2 = 1 then hi else c.toNat : Nat) : Int) = ((c.toNat : Nat) : Int) := wrap_u8 (x := ((c.toNat : Nat) : Int)) (by omega) (by omega)
      rw [e4] at h16
      have ho13 := ho.keep hf7 (by simp)
      have hln : (byteV (r.take k)).length = k := by simp [byteV]; omega
      obtain ⟨w17, l18, hr17, ho17, hf17, _⟩ := append_one' elByte ho13 (v := .int .u8 ((c.toNat : Nat) : Int)) rfl (by rw [hln]; unfold maxLen; omega) (by rw [hln]; omega) hF7.size h16
      have htk : r.take (k + 1) = r.take k ++ [UInt8.ofNat c.toNat] := by rw [List.take_add_one, hc, UInt8.ofNat_toNat]; rfl
      rw [byteV_snoc _ _ hcl, ← htk] at ho17
      have e5 : ((2 * k + 2 : Nat) : Int) = ((2 * (k + 1) : Nat) : Int) := by omega
      refine ⟨w17, l18, hr17, ⟨k + 1, e5, by omega, ho17, hF7.trans hf17 fun q hq ⟨y, hy, e⟩ => by have := (ho.blk hy).1; omega⟩, by dsimp only; omega⟩
  · have hge := of_decide_eq_false hge
    have hk' : k = r.length := by omega
    subst hk'
    rw [List.take_length] at ho
    exact ⟨_, _, bytes_str (e := T_uint8) (by kernel_rfl) (by kernel_rfl) (by kernel_rfl) l.cap ho.reads (by rw [ho.len]; simp [byteV]), rfl, hf⟩
end Go.Proofs.Ytoagdpjickippaa

/- packidx.Build walked. Conditions: the names are no longer than memory. -/
set_option linter.unusedVariables false
namespace Go.Proofs.Ytoagdpjickippaa
open Go Vc HexM SumM ShaM Go.Proofs

/-- What Build hands back. -/
def BuildR (rs : List PRow) (sum : ByteArray) (far : Int) (w : World) (v : Value) (w' : World) : Prop := Fr (fun _ => False) w w' ∧
  ((v = .tuple #[.string ⟨#[]⟩, .int .i64 2] ∧ 1000 < rs.length) ∨
   (rs.length ≤ 1000 ∧ ((v = .tuple #[.string ⟨#[]⟩, .int .i64 4] ∧ ¬ (CheckP rs ∧ isId sum.data.toList = true)) ∨
     (v = .tuple #[.string ⟨(PkM.textT sha1D far ((sortP rs).map rawOf) (rawB sum)).toArray⟩, .int .i64 0] ∧ CheckP rs ∧ isId sum.data.toList = true))))
theorem cnt_new {w w1 : World} {cs : Array Value} (h : w1 = w.alloc (.cells cs T_256_int)) (hc : cs.toList = List.replicate 256 (.int .i64 0)) : CntAt w1 w.heap.size (fun _ => 0) := by
  refine ⟨cs, by rw [h]; exact alloc_new _ _, by rw [← Array.length_toList, hc, List.length_replicate], fun c hc' => ?_⟩
  rw [← Array.getElem?_toList, hc, List.getElem?_replicate, if_pos hc']; rfl
theorem cat_size (A B : List UInt8) (h : A.length + B.length ≤ 1000000000) : (⟨A.toArray⟩ : ByteArray).size + (⟨B.toArray⟩ : ByteArray).size ≤ 9223372036854775807 := by rw [bs_mksize, bs_mksize]; omega
set_option maxHeartbeats 1000000 in
theorem build_spec {w : World} {a : Option Addr} {n c : Nat} {rs : List PRow} (hr : ReadsK encP 3 w a rs) (hn : rs.length = n) (hz : ∀ r ∈ rs, r.1.size ≤ 140737488355328) (hfit : ∀ r ∈ rs, Fits r) (sum : ByteArray) (hsz : sum.size ≤ 140737488355328) (far : Int) :
    Calls Try.prog F_packidx_Build #[.slice a n c, .string sum, .int .i64 far] w fun e w' => ∃ v, e = .returned v ∧ BuildR rs sum far w v w' := by
  refine vc_packidx_Build_ok (R := BuildR rs sum far w) ?_ (fun v w' h => ⟨v, rfl, h⟩)
  refine ⟨fun h => ⟨.refl _ _, .inl ⟨rfl, by have := of_decide_eq_true h; omega⟩⟩, fun h => ?_⟩
  have hl : n ≤ 1000 := by have := of_decide_eq_false h; omega
  refine (cloneP_spec hr hn (by omega)).mono ?_
  rintro e w2 ⟨l, rfl, ho2, hf2⟩
  refine ⟨l, rfl, (sortP_spec ho2 (by omega)).mono ?_⟩
  rintro e w5 ⟨rfl, ys, hp, hnear, ho5, hf5⟩
  have hF5 : Fr (fun _ => False) w w5 := hf2.trans hf5 fun q hq ⟨y, hy, e⟩ => by have := (ho2.blk hy).1; omega
  have hyl : ys.length = n := by rw [hp.length_eq, hn]
  have hll : l.len = ys.length := ho5.len
  have hr5 := ho5.reads fun _ => rfl
  have hyz : ∀ r ∈ ys, r.1.size ≤ 140737488355328 := fun r hrm => hz r (hp.subset hrm)
  have hyf : ∀ r ∈ ys, Fits r := fun r hrm => hfit r (hp.subset hrm)
  have bad : ∀ {w' : World}, Fr (fun _ => False) w5 w' → ¬ (CheckP ys ∧ isId sum.data.toList = true) → BuildR rs sum far w (.tuple #[.string ⟨#[]⟩, .int .i64 4]) w' := fun hf hno =>
    ⟨hF5.trans' hf, .inr ⟨by omega, .inl ⟨rfl, fun hh => hno ⟨checkP_perm hp.symm hh.1, hh.2⟩⟩⟩⟩
  refine ⟨rfl, fun i w' => ∃ k : Nat, i = k ∧ k ≤ n ∧ (∀ j x, j < k → ys[j]? = some x → okRow x) ∧ (∀ j x y, j + 1 < k → ys[j]? = some x → ys[j + 1]? = some y → x.1 ≠ y.1) ∧ Fr (fun _ => False) w5 w', fun i _ => n - i.toNat,
    ⟨0, rfl, Nat.zero_le _, fun j x h => by omega, fun j x y h => by omega, .refl _ _⟩, ?_⟩
  rintro i w9 ⟨k, rfl, hk, hok, hadj, hf9⟩
  refine ⟨fun hlt => ?_, fun hge => ?_⟩
  · have hlt := of_decide_eq_true hlt
    have hkl : k < ys.length := by omega
    have hx : ys[k]? = some ys[k] := List.getElem?_eq_getElem hkl
    have hxm : ys[k] ∈ ys := List.getElem_mem hkl
    generalize ys[k] = x at hx hxm
    have e1 : IntKind.i64.wrap ((k : Int) + 1) = ((k + 1 : Nat) : Int) := by rw [wrap_i64 (by omega) (by omega)]; omega
    have e2 : 0 < k → IntKind.i64.wrap ((k : Int) - 1) = ((k - 1 : Nat) : Int) := fun h0 => by rw [wrap_i64 (by omega) (by omega)]; omega
    rw [e1]
    obtain ⟨ad, had, hload⟩ := (hr5.keep hf9 (by simp)).load elP hx
    refine ⟨⟨by omega, by omega⟩, ad, had, x.1, x.2.1, x.2.2, by rw [Int.toNat_natCast]; exact hload, fun w14 h14 => ?_⟩
    subst h14
    have hfa : Fr (fun _ => False) w9 (w9.alloc (.cells (encP x).toArray T_packidx_Row)) := .alloc _ _ _
    have hbx0 := boxP_cell w9 x (.refl (fun _ => False) _) (by simp) (j := 0) rfl
    have hbx1 := boxP_cell w9 x (.refl (fun _ => False) _) (by simp) (j := 1) rfl
    refine ⟨_, boxP_run w9 x, fun w16 d16 => ?_⟩
    generalize w9.alloc (.cells (encP x).toArray T_packidx_Row) = w15 at hfa hbx0 hbx1 d16
    have hf16 := hf9.trans' hfa
    refine ⟨fun w' => Fr (fun _ => False) w15 w', .drew _ d16, x.1, fun w19 h19 => h19.cell hbx0 (by simp), (id_spec x.1 (hyz x hxm) w16).mono ?_⟩
    rintro e w21 ⟨rfl, hf21⟩
    have hfS : Fr (fun _ => False) w15 w21 := (Fr.drew _ d16).trans' hf21
    have hF21 := hf16.trans' hfS
    have nochk : ¬ okRow x → ¬ (CheckP ys ∧ isId sum.data.toList = true) := fun h hh => h (hh.1.1 x hxm)
    refine ⟨_, rfl, hfS, fun hid => bad hF21 (nochk fun h => by rw [h.1] at hid; cases hid), fun hid => ?_⟩
    have hid : isId x.1.data.toList = true := by simpa using hid
    have rest : (∀ y, 0 < k → ys[k - 1]? = some y → y.1 ≠ x.1) → ∃ n28 : Int, ((∀ w29, Fr (fun _ => False) w15 w29 → w29.cell? ⟨w9.heap.size, 1, none⟩ = some (.int .i64 n28)) ∧
        ((decide (n28 < 0) = true → BuildR rs sum far w (.tuple #[.string ⟨#[]⟩, .int .i64 4]) w21) ∧
         (decide (n28 < 0) = false → ∃ n30 : Int, ((∀ w31, Fr (fun _ => False) w15 w31 → w31.cell? ⟨w9.heap.size, 1, none⟩ = some (.int .i64 n30)) ∧
          ((decide (n30 > 1099511627776) = true → BuildR rs sum far w (.tuple #[.string ⟨#[]⟩, .int .i64 4]) w21) ∧
           (decide (n30 > 1099511627776) = false → (∃ k' : Nat, ((k + 1 : Nat) : Int) = k' ∧ k' ≤ n ∧ (∀ j x, j < k' → ys[j]? = some x → okRow x) ∧ (∀ j x y, j + 1 < k' → ys[j]? = some x → ys[j + 1]? = some y → x.1 ≠ y.1) ∧ Fr (fun _ => False) w5 w21) ∧ n - ((k + 1 : Nat) : Int).toNat < n - ((k : Nat) : Int).toNat)))))) := fun hne => by
      refine ⟨x.2.1, fun w29 h29 => h29.cell hbx1 (by simp), fun h => bad hF21 (nochk fun hh => by have := of_decide_eq_true h; have := hh.2.1; omega), fun h => ⟨x.2.1, fun w31 h31 => h31.cell hbx1 (by simp), fun h2 => bad hF21 (nochk fun hh => by have := of_decide_eq_true h2; have := hh.2.2; omega), fun h2 => ⟨⟨k + 1, rfl, by omega, fun j y hj hy => ?_, fun j y z hj hy hz => ?_, hF21⟩, by omega⟩⟩⟩
      · by_cases hjk : j < k
        · exact hok j y hjk hy
        · rw [show j = k by omega, hx] at hy
          cases hy
          exact ⟨hid, by have := of_decide_eq_false h; omega, by have := of_decide_eq_false h2; omega⟩
      · by_cases hjk : j + 1 < k
        · exact hadj j y z hjk hy hz
        · have hj' : j + 1 = k := by omega
          rw [hj', hx] at hz
          cases hz
          exact hne y (by omega) (by rw [show k - 1 = j by omega]; exact hy)
    refine ⟨fun h0 => ?_, fun h0 => rest fun y h => by have := of_decide_eq_false h0; omega⟩
    have h0 : 0 < k := by have := of_decide_eq_true h0; omega
    rw [e2 h0]
    have hy : ys[k - 1]? = some ys[k - 1] := List.getElem?_eq_getElem (by omega)
    generalize ys[k - 1] = y at hy
    obtain ⟨ad', had', hcy⟩ := hr5 (k - 1) y hy
    have hcy0 := hcy 0 (.string y.1) rfl
    rw [show (ad'.add ((k - 1) * 3)).add 0 = ad'.add ((k - 1) * 3) by rw [add_add]; rfl] at hcy0
    refine ⟨⟨by omega, by omega⟩, ad', had', y.1, fun w25 h25 => by rw [Int.toNat_natCast]; exact (hf16.trans' h25).cell hcy0 (by simp), x.1, fun w27 h27 => h27.cell hbx0 (by simp), ?_⟩
    rw [bs_eq]
    refine ⟨fun he => bad hF21 fun hh => ?_, fun hne => rest fun z _ hz => ?_⟩
    · have he : y.1 = x.1 := of_decide_eq_true he
      have := (List.pairwise_iff_getElem.1 hh.1.2) (k - 1) k (by omega) hkl (by omega)
      rw [(List.getElem?_eq_some_iff.1 hx).2, (List.getElem?_eq_some_iff.1 hy).2] at this
      exact this he
    · rw [hy] at hz
      cases hz
      exact of_decide_eq_false hne
  · have hge := of_decide_eq_false hge
    have hk' : k = n := by omega
    subst hk'
    have hrise : RiseP ys := adj_rise hnear fun j x y hx hy => hadj j x y (by have := (List.getElem?_eq_some_iff.1 hy).1; omega) hx hy
    have hchk : CheckP ys := ⟨fun r hrm => by
      obtain ⟨j, hj⟩ := List.mem_iff_getElem?.1 hrm
      exact hok j r (by have := (List.getElem?_eq_some_iff.1 hj).1; omega) hj, rise_dist hrise⟩
    have hchkr := checkP_perm hp hchk
    have hsort : sortP rs = ys := riseP_eq (near_rise (sortP_near rs) (checkP_perm (sortP_perm rs).symm hchkr).2) hrise ((sortP_perm rs).trans hp.symm)
    clear hok hadj hge
    refine (unhex_spec sum hsz w9).mono ?_
    rintro e w37 ⟨rfl, hf37⟩
    have hf37' := hf9.trans' hf37
    have hidu := id_unhex sum
    refine ⟨_, _, rfl, fun hb => bad hf37' fun hh => ?_, fun hb => ⟨fun hs => bad hf37' fun hh => ?_, fun hs w40 h40 => ?_⟩⟩
    · rw [hh.2] at hidu
      have := (Bool.and_eq_true_iff.1 hidu.symm).1
      rw [this] at hb; cases hb
    · rw [hh.2] at hidu
      have := of_decide_eq_true (Bool.and_eq_true_iff.1 hidu.symm).2
      rw [this] at hs; simp at hs
    have hid : isId sum.data.toList = true := by
      rw [hidu]
      have h1 : (unhexL sum.data.toList).isSome = true := by simpa using hb
      have h2 : (unhexS sum).size = 20 := by
        have : ((unhexS sum).size : Int) = 20 := by simpa using hs
        omega
      rw [h1, h2]; rfl
    obtain ⟨hu1, hu2, _⟩ := unhexS_raw hid
    rw [hu1]
    have hraw20 : (rawB sum).length = 20 := (rawB_id hid).2.1
    have hgood := raw_good hchk hrise hyf (by omega)
    have htext : PkM.textT sha1D far ((sortP rs).map rawOf) (rawB sum) = PkM.textT sha1D far (ys.map rawOf) (rawB sum) := by rw [hsort]
    obtain ⟨q1, q2, q3, q4, q5, q6⟩ := PkM.body_parts (far := far) hgood hraw20
    obtain ⟨b, hb⟩ : ∃ b, w37.heap.size = b := ⟨_, rfl⟩
    have hf40 : Fr (fun _ => False) w37 w40 := by rw [h40]; exact .alloc _ _ _
    have hc40 : CntAt w40 b (fun _ => 0) := by rw [← hb]; exact cnt_new h40 (by kernel_rfl)
    clear h40
    rw [hb]
    have hsB : ∀ {w' w2 : World}, Fr (fun _ => False) w37 w' → Fr (· = b) w' w2 → Fr (fun _ => False) w37 w2 := fun h h' => h.trans h' fun q hq e => by omega
    have hrawm : ys.map rawOf = ys.map rawOf := rfl
    obtain ⟨l0, hl0⟩ : ∃ l0, ys.map rawOf = l0 := ⟨_, rfl⟩
    rw [hl0] at htext hgood q1 q2 q3 q4 q5 q6
    clear hrawm
    have hl0l : l0.length = ys.length := by rw [← hl0, List.length_map]
    refine ⟨fun s43 s44 s45 s46 i w' => ∃ k : Nat, i = (k : Int) ∧ k ≤ ys.length ∧ s43 = ⟨((l0.take k).flatMap (·.1)).toArray⟩ ∧ s44 = ⟨((l0.take k).flatMap (fun r => bigB 4 r.2.2)).toArray⟩ ∧ s45 = ⟨((PkM.nearV far 0 (l0.take k)).flatMap (bigB 4)).toArray⟩ ∧
        s46 = ⟨(((l0.take k).filter (PkM.isFar far)).flatMap (fun r => bigB 8 r.2.1)).toArray⟩ ∧ CntAt w' b (PkM.cnt (l0.take k)) ∧ Fr (fun _ => False) w37 w', fun _ _ _ _ i _ => ys.length - i.toNat,
      ⟨0, rfl, Nat.zero_le _, rfl, rfl, rfl, rfl, hc40, hf40⟩, ?_⟩
    clear hc40 hf40
    rintro s43 s44 s45 s46 i w48 ⟨m, rfl, hm, rfl, rfl, rfl, rfl, hc48, hf48⟩
    have hpart : ∀ (l : List PkM.Rw), (∀ r ∈ l, r.1.length = 20) → l.length ≤ 1000 → (l.flatMap (·.1)).length ≤ 20000 ∧ (l.flatMap (fun r => bigB 4 r.2.2)).length ≤ 4000 ∧ ((PkM.nearV far 0 l).flatMap (bigB 4)).length ≤ 4000 ∧ ((l.filter (PkM.isFar far)).flatMap (fun r => bigB 8 r.2.1)).length = 8 * (l.filter (PkM.isFar far)).length ∧ (l.filter (PkM.isFar far)).length ≤ 1000 := fun l h1 h2 => by
      have g1 := PkM.flat_size (f := fun r : PkM.Rw => r.1) (k := 20) l h1
      have g2 := PkM.flat_size (f := fun r : PkM.Rw => bigB 4 r.2.2) (k := 4) l fun r _ => bigB_length _ _
      have g3 := PkM.flat_size (f := bigB 4) (k := 4) (PkM.nearV far 0 l) fun r _ => bigB_length _ _
      have g4 := PkM.flat_size (f := fun r : PkM.Rw => bigB 8 r.2.1) (k := 8) (l.filter (PkM.isFar far)) fun r _ => bigB_length _ _
      have g5 := List.length_filter_le (PkM.isFar far) l
      rw [PkM.nearV_len] at g3
      exact ⟨by omega, by omega, by omega, g4, by omega⟩
    obtain ⟨z1, z2, z3, z4, z5⟩ := hpart (l0.take m) (fun r h => hgood.raw r (List.mem_of_mem_take h)) (by rw [List.length_take]; have := hgood.few; omega)
    refine ⟨fun hlt => ?_, fun hge => ?_⟩
    · have hlt := of_decide_eq_true hlt
      have hkl : m < ys.length := by omega
      have hx : ys[m]? = some ys[m] := List.getElem?_eq_getElem hkl
      have hxm : ys[m] ∈ ys := List.getElem_mem hkl
      generalize ys[m] = x at hx hxm
      have hrx : l0[m]? = some (rawOf x) := by rw [← hl0, List.getElem?_map, hx]; rfl
      have htk : l0.take (m + 1) = l0.take m ++ [rawOf x] := by rw [List.take_add_one, hrx]; rfl
      have e1 : IntKind.i64.wrap ((m : Int) + 1) = ((m + 1 : Nat) : Int) := by rw [wrap_i64 (by omega) (by omega)]; omega
      rw [e1]
      have hf548 : Fr (fun _ => False) w5 w48 := hf37'.trans' hf48
      obtain ⟨ad, had, hload⟩ := (hr5.keep hf548 (by simp)).load elP hx
      obtain ⟨ox1, ox2, ox3⟩ := hchk.1 x hxm
      have fx := hyf x hxm
      obtain ⟨xu1, xu2, _⟩ := unhexS_raw ox1
      have xr20 := (rawB_id ox1).2.1
      refine ⟨⟨by omega, by omega⟩, ad, had, x.1, x.2.1, x.2.2, by rw [Int.toNat_natCast]; exact hload, fun w53 h53 => ?_⟩
      subst h53
      have hfa : Fr (fun _ => False) w48 (w48.alloc (.cells (encP x).toArray T_packidx_Row)) := .alloc _ _ _
      have hbx0 := boxP_cell w48 x (.refl (fun _ => False) _) (by simp) (j := 0) rfl
      have hbx1 := boxP_cell w48 x (.refl (fun _ => False) _) (by simp) (j := 1) rfl
      have hbx2 := boxP_cell w48 x (.refl (fun _ => False) _) (by simp) (j := 2) rfl
      refine ⟨_, boxP_run w48 x, x.1, hbx0, ?_⟩
      have hc54 := hc48.keep hfa (by simp)
      have hgb : w48.heap.size ≠ b := by
        obtain ⟨cs, k1, _⟩ := hc48
        have := lt_blk k1; omega
      generalize w48.alloc (.cells (encP x).toArray T_packidx_Row) = w54 at hfa hbx0 hbx1 hbx2 hc54
      generalize w48.heap.size = g at hbx0 hbx1 hbx2 hgb
      have hf54 := hf48.trans' hfa
      refine (unhex_spec x.1 (hyz x hxm) w54).mono ?_
      rintro e w57 ⟨rfl, hf57⟩
      rw [xu1]
      have hf57' := hf54.trans' hf57
      have hc57 := hc54.keep hf57 (by simp)
      have hbt : IntKind.i64.wrap (byteAt ⟨(rawB x.1).toArray⟩ 0) = ((PkM.hd0 (rawB x.1) : Nat) : Int) := by
        rw [show (0 : Int) = ((0 : Nat) : Int) from rfl, byteAt_nat, hd0_byt, bs_mk]
        have : PkM.hd0 (rawB x.1) < 256 := UInt8.toNat_lt _
        exact wrap_i64 (by omega) (by omega)
      refine ⟨_, _, rfl, ⟨by decide, by rw [bs_mksize, xr20]; decide⟩, ?_⟩
      rw [hbt]
      have hh : PkM.hd0 (rawB x.1) < 256 := UInt8.toNat_lt _
      obtain ⟨h0, hh0⟩ : ∃ h0, PkM.hd0 (rawB x.1) = h0 := ⟨_, rfl⟩
      rw [hh0] at hh ⊢
      have hcs : ∀ c, PkM.cnt (l0.take (m + 1)) c = if h0 ≤ c then PkM.cnt (l0.take m) c + 1 else PkM.cnt (l0.take m) c := fun c => by
        rw [htk, PkM.cnt_snoc, show PkM.hd0 (rawOf x).1 = h0 from hh0]
      refine ⟨fun q w' => ∃ p : Nat, q = p ∧ h0 ≤ p ∧ p ≤ 256 ∧ CntAt w' b (fun c => if h0 ≤ c ∧ c < p then PkM.cnt (l0.take m) c + 1 else PkM.cnt (l0.take m) c) ∧ Fr (· = b) w57 w', fun q _ => 256 - q.toNat,
        ⟨h0, rfl, Nat.le_refl _, by omega, ?_, .refl _ _⟩, ?_⟩
      · obtain ⟨cs, k1, k2, k3⟩ := hc57
        refine ⟨cs, k1, k2, fun c hc => ?_⟩
        have e : (if h0 ≤ c ∧ c < h0 then PkM.cnt (l0.take m) c + 1 else PkM.cnt (l0.take m) c) = PkM.cnt (l0.take m) c := if_neg fun hh => by omega
        show cs[c]? = some (.int .i64 ((if h0 ≤ c ∧ c < h0 then PkM.cnt (l0.take m) c + 1 else PkM.cnt (l0.take m) c : Nat) : Int))
        rw [e]
        exact k3 c hc
      rintro q w63 ⟨p, rfl, hp1, hp2, hc63, hf63⟩
      refine ⟨fun hlt => ?_, fun hge => ?_⟩
      · have hlt := of_decide_eq_true hlt
        obtain ⟨k1, k2⟩ := hc63.at (c := p) (by omega)
        rw [if_neg (fun hh => by omega)] at k1
        rw [Int.toNat_natCast, add_lit, Nat.zero_add, Nat.mul_one]
        have hcl := PkM.cnt_le (l0.take m) p
        rw [List.length_take] at hcl
        have e3 : IntKind.i64.wrap (((PkM.cnt (l0.take m) p : Nat) : Int) + 1) = ((PkM.cnt (l0.take m) p + 1 : Nat) : Int) := by rw [wrap_i64 (by omega) (by omega)]; omega
        have e4 : IntKind.i64.wrap ((p : Int) + 1) = ((p + 1 : Nat) : Int) := by rw [wrap_i64 (by omega) (by omega)]; omega
        refine ⟨⟨by omega, by omega⟩, _, k1, ⟨by omega, by omega⟩, k2, fun w65 h65 => ?_⟩
        rw [e3] at h65
        rw [e4]
        refine ⟨⟨p + 1, rfl, by omega, by omega, ?_, hf63.trans' (by rw [h65]; exact Fr.set (· = b) _ _ rfl)⟩, by dsimp only; omega⟩
        rw [h65]
        refine hc63.set (c := p) (by omega) fun c hc => ?_
        by_cases hcp : c = p
        · subst hcp
          rw [if_pos rfl, if_pos ⟨by omega, by omega⟩]
        · rw [if_neg hcp]
          by_cases hin : h0 ≤ c ∧ c < p
          · rw [if_pos hin, if_pos ⟨hin.1, by omega⟩]
          · rw [if_neg hin, if_neg (fun hh => hin ⟨hh.1, by omega⟩)]
      · have hge := of_decide_eq_false hge
        have hp' : p = 256 := by omega
        subst hp'
        have hc63' : CntAt w63 b (PkM.cnt (l0.take (m + 1))) := by
          obtain ⟨cs, k1, k2, k3⟩ := hc63
          refine ⟨cs, k1, k2, fun c hc => ?_⟩
          have k4 := k3 c hc
          simp only at k4
          rw [k4, hcs]
          by_cases hin : h0 ≤ c
          · rw [if_pos ⟨hin, hc⟩, if_pos hin]
          · rw [if_neg (fun hh => hin hh.1), if_neg hin]
        clear hc63
        have hb63 : ∀ {j v}, w54.cell? ⟨g, j, none⟩ = some v → w63.cell? ⟨g, j, none⟩ = some v := fun h => hf63.cell (hf57.cell h (by simp)) (fun e => hgb e)
        have hf63' := hsB hf57' hf63
        obtain ⟨cr, hcr⟩ : ∃ cr : Nat, x.2.2 = cr := ⟨x.2.2.toNat, (Int.toNat_of_nonneg fx.1).symm⟩
        obtain ⟨pl, hpl⟩ : ∃ pl : Nat, x.2.1 = pl := ⟨x.2.1.toNat, (Int.toNat_of_nonneg ox2).symm⟩
        have hraw : rawOf x = (rawB x.1, pl, cr) := by unfold rawOf; rw [hcr, hpl, Int.toNat_natCast, Int.toNat_natCast]
        have hcrl : cr < 4294967296 := by have := fx.2; omega
        have hpll : pl ≤ 1099511627776 := by omega
        refine ⟨cat_size _ _ (by omega), _, hb63 hbx2, ?_⟩
        rw [hcr, wrap_u64 (by omega) (by omega)]
        refine (big_spec cr 4 (by omega) (by decide) w63).mono ?_
        rintro e w68 ⟨rfl, hf68⟩
        have hb68 : ∀ {j v}, w54.cell? ⟨g, j, none⟩ = some v → w68.cell? ⟨g, j, none⟩ = some v := fun h => hf68.cell (hb63 h) (by simp)
        have hc68 := hc63'.keep hf68 (by simp)
        have hf68' := hf63'.trans' hf68
        have hb4 : (bigB 4 cr).length = 4 := bigB_length _ _
        have hfr : PkM.isFar far (rawOf x) = (decide (far ≤ (pl : Int)) || decide (2147483648 ≤ pl)) := by rw [hraw]; rfl
        refine ⟨_, rfl, cat_size _ _ (by omega), fun bb w' => bb = PkM.isFar far (rawOf x) ∧ w' = w68, ⟨_, hb68 hbx1, fun h => ⟨?_, rfl⟩, fun h => ⟨_, hb68 hbx1, ?_, rfl⟩⟩, ?_⟩
        · rw [hpl] at h
          rw [hfr, decide_eq_true (show far ≤ (pl : Int) by have := of_decide_eq_true h; omega), Bool.true_or]
        · rw [hpl] at h
          rw [hfr, decide_eq_false (show ¬ far ≤ (pl : Int) by have := of_decide_eq_false h; omega), Bool.false_or, hpl]
          exact decide_eq_decide.2 (by omega)
        rintro bb w74 ⟨rfl, hw⟩
        replace hw := hw.symm
        subst hw
        have fN : ⟨((l0.take m).flatMap (·.1)).toArray⟩ ++ (⟨(rawB x.1).toArray⟩ : ByteArray) = ⟨((l0.take (m + 1)).flatMap (·.1)).toArray⟩ := by rw [bs_cat, htk, List.flatMap_append, hraw]; simp
        have fC : ⟨((l0.take m).flatMap (fun r => bigB 4 r.2.2)).toArray⟩ ++ (⟨(bigB 4 cr).toArray⟩ : ByteArray) = ⟨((l0.take (m + 1)).flatMap (fun r => bigB 4 r.2.2)).toArray⟩ := by rw [bs_cat, htk, List.flatMap_append, hraw]; simp
        have fV : ∀ v, (if PkM.isFar far (rawOf x) = true then 2147483648 + 0 + ((l0.take m).filter (PkM.isFar far)).length else (rawOf x).2.1) = v → ⟨((PkM.nearV far 0 (l0.take m)).flatMap (bigB 4)).toArray⟩ ++ (⟨(bigB 4 v).toArray⟩ : ByteArray) = ⟨((PkM.nearV far 0 (l0.take (m + 1))).flatMap (bigB 4)).toArray⟩ := fun v hv => by
          rw [bs_cat, htk, PkM.nearV_snoc, List.flatMap_append, hv]; simp
        refine ⟨fun hfar => ⟨by decide, ?_⟩, fun hnear => ⟨_, hb68 hbx1, ?_⟩⟩
        · have e5 : IntKind.u64.wrap (IntKind.i64.wrap (2147483648 + IntKind.i64.wrap (Int.tdiv ((ByteArray.size ⟨(((l0.take m).filter (PkM.isFar far)).flatMap (fun r => bigB 8 r.2.1)).toArray⟩ : Nat) : Int) 8))) = ((2147483648 + 0 + ((l0.take m).filter (PkM.isFar far)).length : Nat) : Int) := by
            rw [bs_mksize, z4, Int.tdiv_eq_ediv_of_nonneg (Int.natCast_nonneg _)]
            generalize ((l0.take m).filter (PkM.isFar far)).length = u at z5
            rw [show ((8 * u : Nat) : Int) / 8 = (u : Int) by omega, wrap_i64 (x := (u : Int)) (by omega) (by omega), wrap_i64 (by omega) (by omega), wrap_u64 (by omega) (by omega)]; omega
          rw [e5]
          refine (big_spec _ 4 (by omega) (by decide) w68).mono ?_
          rintro e w76 ⟨rfl, hf76⟩
          have hb8 : ∀ v, (bigB 4 v).length = 4 := fun v => bigB_length _ _
          refine ⟨_, rfl, cat_size _ _ (by rw [hb8]; omega), _, hf76.cell (hb68 hbx1) (by simp), ?_⟩
          rw [hpl, wrap_u64 (by omega) (by omega)]
          refine (big_spec pl 8 (by omega) (by decide) w76).mono ?_
          rintro e w80 ⟨rfl, hf80⟩
          refine ⟨_, rfl, cat_size _ _ (by rw [bigB_length, z4]; omega), ⟨m + 1, rfl, by omega, fN, fC, fV _ (by rw [if_pos hfar]), ?_, (hc68.keep hf76 (by simp)).keep hf80 (by simp), (hf68'.trans' hf76).trans' hf80⟩, by dsimp only; omega⟩
          rw [bs_cat, htk, List.filter_append, List.filter_cons_of_pos hfar, List.filter_nil, List.flatMap_append, hraw]; simp
        · rw [hpl, wrap_u64 (by omega) (by omega)]
          refine (big_spec pl 4 (by omega) (by decide) w68).mono ?_
          rintro e w84 ⟨rfl, hf84⟩
          refine ⟨_, rfl, cat_size _ _ (by rw [bigB_length]; omega), ⟨m + 1, rfl, by omega, fN, fC, fV _ (by rw [if_neg (by rw [hnear]; decide), hraw]), ?_, hc68.keep hf84 (by simp), hf68'.trans' hf84⟩, by dsimp only; omega⟩
          rw [htk, List.filter_append, List.filter_cons_of_neg (by rw [hnear]; decide), List.filter_nil, List.append_nil]
    · have hge := of_decide_eq_false hge
      have hm' : m = l0.length := by omega
      subst hm'
      rw [List.take_length] at hc48 z1 z2 z3 z4 z5 ⊢
      refine ⟨_, hc48.load, fun s i w' => ∃ k : Nat, i = (k : Int) ∧ k ≤ 256 ∧ s = ⟨(PkM.magic ++ (List.range k).flatMap fun c => bigB 4 (PkM.cnt l0 c)).toArray⟩ ∧ Fr (fun _ => False) w37 w', fun _ i _ => 256 - i.toNat, ⟨0, rfl, Nat.zero_le _, rfl, hf48⟩, ?_⟩
      rintro s89 i w91 ⟨k, rfl, hk, rfl, hf91⟩
      have hFl := PkM.flat_size (f := fun c => bigB 4 (PkM.cnt l0 c)) (k := 4) (List.range k) fun c _ => bigB_length _ _
      rw [List.length_range] at hFl
      refine ⟨fun hlt => ?_, fun hge => ?_⟩
      · have hlt := of_decide_eq_true hlt
        have e1 : IntKind.i64.wrap ((k : Int) + 1) = ((k + 1 : Nat) : Int) := by rw [wrap_i64 (by omega) (by omega)]; omega
        rw [e1]
        have hix := index_agg (P := Try.prog) (w := w91) T_256_int T_int 256 ((List.range 256).map fun c => Value.int .i64 (PkM.cnt l0 c : Nat)) .i64 k (by kernel_rfl) (by kernel_rfl) (by rw [List.length_map, List.length_range]) (by omega) (by kernel_rfl)
        have hgd : ((List.range 256).map fun c => Value.int .i64 (PkM.cnt l0 c : Nat)).getD k undef = .int .i64 (PkM.cnt l0 k : Nat) := by
          rw [List.getD_eq_getElem?_getD, List.getElem?_map, List.getElem?_range (by omega)]; rfl
        rw [hgd] at hix
        have hcl := PkM.cnt_le l0 k
        have := hgood.few
        refine ⟨w91, _, hix, ?_⟩
        rw [wrap_u64 (by omega) (by omega)]
        refine (big_spec _ 4 (by omega) (by decide) w91).mono ?_
        rintro e w95 ⟨rfl, hf95⟩
        refine ⟨_, rfl, cat_size _ _ (by rw [bigB_length, List.length_append, hFl]; show 8 + _ + _ ≤ _; omega), ⟨k + 1, rfl, by omega, ?_, hf91.trans' hf95⟩, by dsimp only; omega⟩
        rw [bs_cat, List.range_succ, List.flatMap_append, List.append_assoc]; simp
      · have hge := of_decide_eq_false hge
        have hk' : k = 256 := by omega
        subst hk'
        have hbody : (⟨(PkM.magic ++ (List.range 256).flatMap fun c => bigB 4 (PkM.cnt l0 c)).toArray⟩ : ByteArray) ++ (⟨(l0.flatMap (·.1)).toArray⟩ ++ ⟨(l0.flatMap (fun r => bigB 4 r.2.2)).toArray⟩ ++ ⟨((PkM.nearV far 0 l0).flatMap (bigB 4)).toArray⟩ ++ ⟨((l0.filter (PkM.isFar far)).flatMap (fun r => bigB 8 r.2.1)).toArray⟩ ++ ⟨(rawB sum).toArray⟩) = ⟨(PkM.bodyT far l0 (rawB sum)).toArray⟩ := by
          rw [bs_cat, bs_cat, bs_cat, bs_cat, bs_cat]
          unfold PkM.bodyT
          simp only [List.append_assoc]
        rw [hbody]
        rw [bs_cat, bs_cat, bs_cat]
        have hml : PkM.magic.length = 8 := rfl
        refine ⟨cat_size _ _ (by omega), ?_, ?_, ?_, ?_, ?_⟩
        · exact cat_size _ _ (by rw [List.length_append]; omega)
        · exact cat_size _ _ (by rw [List.length_append, List.length_append]; omega)
        · exact cat_size _ _ (by rw [List.length_append, List.length_append, List.length_append]; omega)
        · rw [bs_cat]
          exact cat_size _ _ (by rw [List.length_append, List.length_append, List.length_append, List.length_append, List.length_append, q1]; omega)
        refine (sum1_spec _ (by rw [bs_mksize, q6]; omega) w91).mono ?_
        rintro e w98 ⟨rfl, hf98⟩
        rw [bs_mk]
        refine ⟨_, rfl, cat_size _ _ (by have := digest_len (PkM.bodyT far l0 (rawB sum)); unfold sha1D at this; rw [this, q6]; omega), (hF5.trans' hf37').trans' (hf91.trans' hf98), .inr ⟨by omega, .inr ⟨?_, hchkr, hid⟩⟩⟩
        rw [bs_cat, htext]
        rfl
end Go.Proofs.Ytoagdpjickippaa

/- Formulas of 1 Go functions of this seat (written by a program of the author's, vcgen.py), and that each is enough for the call. No condition. -/
set_option linter.unusedVariables false
namespace Go.Proofs.Ytoagdpjickippaa
open Go Vc Go.Proofs
set_option maxRecDepth 100000
/-- cartularylaw12.awake -/
def vc_cartularylaw12_awake (w : World) (R : Value → World → Prop) : Prop :=
  ∀ w1 : World,
  (w1 = World.alloc w (Obj.cells (Array.mk [Value.string (ByteArray.mk (Array.mk [101, 54, 57, 100, 101, 50, 57, 98, 98, 50, 100, 49, 100, 54, 52, 51, 52, 98, 56, 98, 50, 57, 97, 101, 55, 55, 53, 97, 100, 56, 99, 50, 101, 52, 56, 99, 53, 51, 57, 49])), Value.int IntKind.i64 12, Value.int IntKind.u32 7]) 32) →
    Calls Try.prog (6 : Nat) (Array.mk [Value.slice (some (Addr.mk (Array.size (World.heap w)) 0 none)) 1 1, Value.string (ByteArray.mk (Array.mk [52, 98, 56, 50, 53, 100, 99, 54, 52, 50, 99, 98, 54, 101, 98, 57, 97, 48, 54, 48, 101, 53, 52, 98, 102, 56, 100, 54, 57, 50, 56, 56, 102, 98, 101, 101, 52, 57, 48, 52])), Value.int IntKind.i64 0]) (w1) (fun e2 w3 =>
      ∃ s4 : ByteArray, ∃ n5 : Int, (e2 = Ending.returned (Value.tuple (Array.mk [Value.string s4, Value.int IntKind.i64 n5])) ∧
       Calls Try.prog (8 : Nat) (Array.mk [Value.string s4]) (w3) (fun e6 w7 =>
         ∃ p8 : Option Addr, ∃ n9 : Int, (e6 = Ending.returned (Value.tuple (Array.mk [Value.pointer p8, Value.int IntKind.i64 n9])) ∧
          ((((n5 != 0) = true →
             R (Value.bool false) w7)) ∧
           ((n5 != 0) = false →
             ((((n9 != 0) = true →
                R (Value.bool false) w7)) ∧
              ((n9 != 0) = false →
                (((Option.isNone p8 = true →
                   R (Value.bool false) w7)) ∧
                 (Option.isNone p8 = false →
                   (((((↑(ByteArray.size s4) : Int) != 1108) = true →
                      R (Value.bool false) w7)) ∧
                    (((↑(ByteArray.size s4) : Int) != 1108) = false →
                      Calls Try.prog (9 : Nat) (Array.mk [Value.pointer p8, Value.string (ByteArray.mk (Array.mk [101, 54, 57, 100, 101, 50, 57, 98, 98, 50, 100, 49, 100, 54, 52, 51, 52, 98, 56, 98, 50, 57, 97, 101, 55, 55, 53, 97, 100, 56, 99, 50, 101, 52, 56, 99, 53, 51, 57, 49]))]) (w7) (fun e10 w11 =>
                        ∃ s12 : ByteArray, ∃ n13 : Int, ∃ n14 : Int, ∃ n15 : Int, (e10 = Ending.returned (Value.tuple (Array.mk [Value.agg (Array.mk [Value.string s12, Value.int IntKind.i64 n13, Value.int IntKind.u32 n14]), Value.int IntKind.i64 n15])) ∧
                         ∀ w16 : World,
                         (w16 = World.alloc w11 (Obj.cells (Array.mk [Value.string (ByteArray.mk (Array.mk [])), Value.int IntKind.i64 0, Value.int IntKind.u32 0]) 32) →
                           ∃ w17 : World, (Sem.run Try.prog (storeVar 32 (Addr.mk (Array.size (World.heap w11)) 0 none) (Value.agg (Array.mk [Value.string s12, Value.int IntKind.i64 n13, Value.int IntKind.u32 n14]))) w16 = Result.ok PUnit.unit w17 ∧
                            ((((n15 == 0) = true →
                               ∃ n18 : Int, (World.cell? w17 (Addr.mk (Array.size (World.heap w11)) 1 none) = some (Value.int IntKind.i64 n18) ∧
                                ((((n18 == 12) = true →
                                   ∃ n19 : Int, (World.cell? w17 (Addr.mk (Array.size (World.heap w11)) 2 none) = some (Value.int IntKind.u32 n19) ∧
                                    ((((n19 == 7) = true →
                                       Calls Try.prog (25 : Nat) (Array.mk [Value.pointer p8]) (w17) (fun e20 w21 =>
                                         ∃ n22 : Int, (e20 = Ending.returned (Value.int IntKind.i64 n22) ∧
                                          R (Value.bool (n22 == 1)) w21)))) ∧
                                     ((n19 == 7) = false →
                                       R (Value.bool false) w17))))) ∧
                                 ((n18 == 12) = false →
                                   R (Value.bool false) w17))))) ∧
                             ((n15 == 0) = false →
                               R (Value.bool false) w17)))))))))))))))))))
theorem vc_cartularylaw12_awake_ok {w : World} {R : Value → World → Prop} {R' : Ending → World → Prop} (h : vc_cartularylaw12_awake w R) (hR : ∀ v w', R v w' → R' (.returned v) w') :
    Calls Try.prog 7 #[] w R' :=
  calls_of_body (vs := []) (ty := ty) (ann := ⟨[], [], [], []⟩) (c := Try.f7.body.getD .skip) (by kernel_rfl) Try.func7 (by kernel_rfl) (by kernel_rfl) (Eq.mp (by kernel_rfl) h) hR
end Go.Proofs.Ytoagdpjickippaa

/- Formulas of 1 Go functions of this seat (written by a program of the author's, vcgen.py), and that each is enough for the call. No condition. -/
set_option linter.unusedVariables false
namespace Go.Proofs.Ytoagdpjickippaa
open Go Vc Go.Proofs
set_option maxRecDepth 100000
/-- cartularylaw12.PackidxFinds -/
def vc_cartularylaw12_PackidxFinds (x0a : Option Addr) (x0n : Nat) (x0c : Nat) (x1 : ByteArray) (x2 : Int) (w : World) (R : Value → World → Prop) : Prop :=
  ∃ I1 : Sl → World → Prop, ((((decide ((↑x0n : Int) > 30) = true →
      (((0 : Int) ≤ (30 : Int) ∧
        30 ≤ (↑x0c : Int)) ∧
       I1 (Sl.mk (subA x0a x0c 0 3) (Int.toNat 30) x0c) w))) ∧
    (decide ((↑x0n : Int) > 30) = false →
      I1 (Sl.mk x0a x0n x0c) w)) ∧
   ∀ l2 : Sl,
   ∀ w3 : World,
   (I1 l2 w3 →
     Calls Try.prog (6 : Nat) (Array.mk [Value.slice l2.1 l2.2 l2.3, Value.string x1, Value.int IntKind.i64 2147483648]) (w3) (fun e4 w5 =>
       ∃ s6 : ByteArray, ∃ n7 : Int, (e4 = Ending.returned (Value.tuple (Array.mk [Value.string s6, Value.int IntKind.i64 n7])) ∧
        ((((n7 != 0) = true →
           Calls Try.prog (7 : Nat) (Array.mk []) (w5) (fun e8 w9 =>
             ∃ b10 : Bool, (e8 = Ending.returned (Value.bool b10) ∧
              (((b10 = true →
                 R (Value.bool (ByteArray.toList s6 == ByteArray.toList (ByteArray.mk (Array.mk [])))) w9)) ∧
               (b10 = false →
                 R (Value.bool false) w9)))))) ∧
         ((n7 != 0) = false →
           Calls Try.prog (8 : Nat) (Array.mk [Value.string s6]) (w5) (fun e11 w12 =>
             ∃ p13 : Option Addr, ∃ n14 : Int, (e11 = Ending.returned (Value.tuple (Array.mk [Value.pointer p13, Value.int IntKind.i64 n14])) ∧
              ((((n14 != 0) = true →
                 R (Value.bool false) w12)) ∧
               ((n14 != 0) = false →
                 (((Option.isNone p13 = true →
                    R (Value.bool false) w12)) ∧
                  (Option.isNone p13 = false →
                    ∃ I15 : Int → World → Prop, ∃ I16 : Int → World → Nat, (I15 0 w12 ∧
                     ∀ n17 : Int,
                     ∀ w18 : World,
                     (I15 n17 w18 →
                       (((decide (n17 < (↑l2.2 : Int)) = true →
                          ((0 ≤ n17 ∧
                            n17 < (↑l2.2 : Int)) ∧
                           ∃ a19 : Addr, (l2.1 = some a19 ∧
                            ∃ s20 : ByteArray, ∃ n21 : Int, ∃ n22 : Int, (Sem.run Try.prog (loadVar 32 (Addr.add a19 (Int.toNat n17 * 3))) w18 = Result.ok (Value.agg (Array.mk [Value.string s20, Value.int IntKind.i64 n21, Value.int IntKind.u32 n22])) w18 ∧
                             ∀ w23 : World,
                             (w23 = World.alloc w18 (Obj.cells (Array.mk [Value.string (ByteArray.mk (Array.mk [])), Value.int IntKind.i64 0, Value.int IntKind.u32 0]) 32) →
                               ∃ w24 : World, (Sem.run Try.prog (storeVar 32 (Addr.mk (Array.size (World.heap w18)) 0 none) (Value.agg (Array.mk [Value.string s20, Value.int IntKind.i64 n21, Value.int IntKind.u32 n22]))) w23 = Result.ok PUnit.unit w24 ∧
                                ∃ s25 : ByteArray, (World.cell? w24 (Addr.mk (Array.size (World.heap w18)) 0 none) = some (Value.string s25) ∧
                                 Calls Try.prog (9 : Nat) (Array.mk [Value.pointer p13, Value.string s25]) (w24) (fun e26 w27 =>
                                   ∃ s28 : ByteArray, ∃ n29 : Int, ∃ n30 : Int, ∃ n31 : Int, (e26 = Ending.returned (Value.tuple (Array.mk [Value.agg (Array.mk [Value.string s28, Value.int IntKind.i64 n29, Value.int IntKind.u32 n30]), Value.int IntKind.i64 n31])) ∧
                                    ∀ w32 : World,
                                    (w32 = World.alloc w27 (Obj.cells (Array.mk [Value.string (ByteArray.mk (Array.mk [])), Value.int IntKind.i64 0, Value.int IntKind.u32 0]) 32) →
                                      ∃ w33 : World, (Sem.run Try.prog (storeVar 32 (Addr.mk (Array.size (World.heap w27)) 0 none) (Value.agg (Array.mk [Value.string s28, Value.int IntKind.i64 n29, Value.int IntKind.u32 n30]))) w32 = Result.ok PUnit.unit w33 ∧
                                       ∃ s34 : ByteArray, (World.cell? w33 (Addr.mk (Array.size (World.heap w18)) 0 none) = some (Value.string s34) ∧
                                        (((0 ≤ if (if 40 < x2 then 40 else x2) > 0 then if 40 < x2 then 40 else x2 else 0) ∧
                                          ((if (if 40 < x2 then 40 else x2) > 0 then if 40 < x2 then 40 else x2 else 0) ≤ (↑(ByteArray.size s34) : Int))) ∧
                                         Calls Try.prog (10 : Nat) ((Array.mk [Value.pointer p13, Value.string (ByteArray.extract s34 0 (Int.toNat (if (if 40 < x2 then 40 else x2) > 0 then if 40 < x2 then 40 else x2 else 0)))])) (w33) (fun e35 w36 =>
                                           ∃ l37 : Sl, (e35 = Ending.returned (Value.slice l37.1 l37.2 l37.3) ∧
                                            ∃ I38 : Bool → Int → World → Prop, ∃ I39 : Bool → Int → World → Nat, (I38 false 0 w36 ∧
                                             ∀ b40 : Bool,
                                             ∀ n41 : Int,
                                             ∀ w42 : World,
                                             (I38 b40 n41 w42 →
                                               (((decide (n41 < (↑l37.2 : Int)) = true →
                                                  ((0 ≤ n41 ∧
                                                    n41 < (↑l37.2 : Int)) ∧
                                                   ∃ a43 : Addr, (l37.1 = some a43 ∧
                                                    ∃ s44 : ByteArray, (World.cell? w42 (Addr.add a43 (Int.toNat n41 * 1)) = some (Value.string s44) ∧
                                                     ∃ I45 : Bool → World → Prop, ((((b40 = true →
                                                         I45 true w42)) ∧
                                                       (b40 = false →
                                                         ∃ s46 : ByteArray, (World.cell? w42 (Addr.mk (Array.size (World.heap w18)) 0 none) = some (Value.string s46) ∧
                                                          I45 (ByteArray.toList s44 == ByteArray.toList s46) w42))) ∧
                                                      ∀ b47 : Bool,
                                                      ∀ w48 : World,
                                                      (I45 b47 w48 →
                                                        (((decide (n41 > 0) = true →
                                                           ((0 ≤ IntKind.wrap IntKind.i64 (n41 - 1) ∧
                                                             IntKind.wrap IntKind.i64 (n41 - 1) < (↑l37.2 : Int)) ∧
                                                            ∃ a49 : Addr, (l37.1 = some a49 ∧
                                                             ∃ s50 : ByteArray, (World.cell? w48 (Addr.add a49 (Int.toNat (IntKind.wrap IntKind.i64 (n41 - 1)) * 1)) = some (Value.string s50) ∧
                                                              ((((!Op.bytesLess (ByteArray.toList s50) (ByteArray.toList s44)) = true →
                                                                 R (Value.bool false) w48)) ∧
                                                               ((!Op.bytesLess (ByteArray.toList s50) (ByteArray.toList s44)) = false →
                                                                 (I38 b47 (IntKind.wrap IntKind.i64 (n41 + 1)) w48 ∧
                                                                  I39 b47 (IntKind.wrap IntKind.i64 (n41 + 1)) w48 < I39 b40 n41 w42)))))))) ∧
                                                         (decide (n41 > 0) = false →
                                                           (I38 b47 (IntKind.wrap IntKind.i64 (n41 + 1)) w48 ∧
                                                            I39 b47 (IntKind.wrap IntKind.i64 (n41 + 1)) w48 < I39 b40 n41 w42)))))))))) ∧
                                                (decide (n41 < (↑l37.2 : Int)) = false →
                                                  ((((n31 != 0) = true →
                                                     R (Value.bool false) w42)) ∧
                                                   ((n31 != 0) = false →
                                                     ∃ s51 : ByteArray, ∃ n52 : Int, ∃ n53 : Int, (Sem.run Try.prog (loadVar 32 (Addr.mk (Array.size (World.heap w27)) 0 none)) w42 = Result.ok (Value.agg (Array.mk [Value.string s51, Value.int IntKind.i64 n52, Value.int IntKind.u32 n53])) w42 ∧
                                                      ∃ s54 : ByteArray, ∃ n55 : Int, ∃ n56 : Int, (Sem.run Try.prog (loadVar 32 (Addr.mk (Array.size (World.heap w18)) 0 none)) w42 = Result.ok (Value.agg (Array.mk [Value.string s54, Value.int IntKind.i64 n55, Value.int IntKind.u32 n56])) w42 ∧
                                                       ((((!(ByteArray.toList s51 == ByteArray.toList s54 && (n52 == n55 && n53 == n56))) = true →
                                                          R (Value.bool false) w42)) ∧
                                                        ((!(ByteArray.toList s51 == ByteArray.toList s54 && (n52 == n55 && n53 == n56))) = false →
                                                          ((((!b40) = true →
                                                             R (Value.bool false) w42)) ∧
                                                           ((!b40) = false →
                                                             (I15 (IntKind.wrap IntKind.i64 (n17 + 1)) w42 ∧
                                                              I16 (IntKind.wrap IntKind.i64 (n17 + 1)) w42 < I16 n17 w18))))))))))))))))))))))))))))) ∧
                        (decide (n17 < (↑l2.2 : Int)) = false →
                          Calls Try.prog (7 : Nat) (Array.mk []) (w18) (fun e57 w58 =>
                            ∃ b59 : Bool, (e57 = Ending.returned (Value.bool b59) ∧
                             (((b59 = true →
                                Calls Try.prog (10 : Nat) (Array.mk [Value.pointer p13, Value.string (ByteArray.mk (Array.mk [103]))]) (w58) (fun e60 w61 =>
                                  ∃ l62 : Sl, (e60 = Ending.returned (Value.slice l62.1 l62.2 l62.3) ∧
                                   (((((↑l62.2 : Int) == 0) = true →
                                      Calls Try.prog (10 : Nat) (Array.mk [Value.pointer p13, Value.string (ByteArray.mk (Array.mk []))]) (w61) (fun e63 w64 =>
                                        ∃ l65 : Sl, (e63 = Ending.returned (Value.slice l65.1 l65.2 l65.3) ∧
                                         R (Value.bool ((↑l65.2 : Int) == (↑l2.2 : Int))) w64)))) ∧
                                    (((↑l62.2 : Int) == 0) = false →
                                      R (Value.bool false) w61)))))) ∧
                              (b59 = false →
                                R (Value.bool false) w58))))))))))))))))))))
theorem vc_cartularylaw12_PackidxFinds_ok {x0a : Option Addr} {x0n : Nat} {x0c : Nat} {x1 : ByteArray} {x2 : Int} {w : World} {R : Value → World → Prop} {R' : Ending → World → Prop} (h : vc_cartularylaw12_PackidxFinds x0a x0n x0c x1 x2 w R) (hR : ∀ v w', R v w' → R' (.returned v) w') :
    Calls Try.prog 3 #[.slice x0a x0n x0c, .string x1, .int .i64 x2] w R' :=
  calls_of_body (vs := [(.slice x0a x0n x0c, false), (.string x1, false), (.int .i64 x2, false)]) (ty := ty) (ann := ⟨[(3, [(0, .slice)]), (19, [(16, .bool)])], [(10, [(50, .int .i64)]), (16, [(16, .bool), (71, .int .i64)])], [], []⟩) (c := Try.f3.body.getD .skip) (by kernel_rfl) Try.func3 (by kernel_rfl) (by kernel_rfl) (Eq.mp (by kernel_rfl) h) hR
end Go.Proofs.Ytoagdpjickippaa

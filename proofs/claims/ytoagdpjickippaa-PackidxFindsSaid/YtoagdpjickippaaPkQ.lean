/- Names looked for in an index: At, Find, Match. Conditions: the rows rise. -/
import Derived.Test.YtoagdpjickippaaPkP
import Derived.Test.YtoagdpjickippaaCmpS
import Derived.Test.YtoagdpjickippaaPreS
import Derived.Test.YtoagdpjickippaaStrE
import Derived.Test.YtoagdpjickippaaPk3
set_option linter.unusedVariables false
namespace Go.Proofs.Ytoagdpjickippaa
open Go Vc HexM SumM ShaM Go.Proofs

theorem riseP_lt {xs : List PRow} (h : RiseP xs) {i j : Nat} {x y : PRow} (hx : xs[i]? = some x) (hy : xs[j]? = some y) (hij : i ≤ j) {p : List UInt8} (hp : y.1.data.toList < p) : x.1.data.toList < p := by
  by_cases he : i = j
  · subst he; rw [hx] at hy; cases hy; exact hp
  · have := (List.pairwise_iff_getElem.1 h) i j (List.getElem?_eq_some_iff.1 hx).1 (List.getElem?_eq_some_iff.1 hy).1 (by omega)
    rw [(List.getElem?_eq_some_iff.1 hx).2, (List.getElem?_eq_some_iff.1 hy).2] at this
    exact List.lt_trans this hp
theorem cmpfind_spec (x : PRow) (t : ByteArray) (w : World) : Calls Try.prog F_packidx_Idx_Find_1 #[.agg (encP x).toArray, .string t] w fun e w' => e = .returned (.int .i64 (Lib.compareBytes x.1.data.toList t.data.toList)) ∧ Fr (fun _ => False) w w' := by
  refine vc_packidx_Idx_Find_1_ok (R := fun v w' => v = .int .i64 (Lib.compareBytes x.1.data.toList t.data.toList) ∧ Fr (fun _ => False) w w') ?_ (fun v w' h => ⟨by rw [h.1], h.2⟩)
  intro w1 h1
  have hf1 : Fr (fun _ => False) w w1 := by rw [h1]; exact .alloc _ _ _
  have hb1 : w1.heap[w.heap.size]? = some (.cells (encP x).toArray T_packidx_Row (0, 0)) := by rw [h1]; exact alloc_new _ _
  refine ⟨x.1, by rw [cell_blk hb1]; rfl, (compare_spec _ _ w1).mono ?_⟩
  rintro e w4 ⟨rfl, hw⟩
  replace hw := hw.symm
  subst hw
  exact ⟨_, rfl, rfl, hf1⟩
theorem searchfind_spec {w : World} {a : Option Addr} {n c : Nat} {xs : List PRow} (hr : ReadsK encP 3 w a xs) (hn : xs.length = n) (hl : n ≤ 1000000) (hs : RiseP xs) (t : ByteArray) :
    Calls Try.prog 28 #[.slice a n c, .string t, .func (.func F_packidx_Idx_Find_1) #[] #[]] w fun e w' =>
      ∃ i : Nat, i ≤ n ∧ e = .returned (.tuple #[.int .i64 i, .bool (match xs[i]? with | some x => decide (x.1 = t) | none => false)]) ∧ (∀ k x, xs[k]? = some x → (x.1.data.toList < t.data.toList ↔ k < i)) ∧ Fr (fun _ => False) w w' := by
  refine vc_slices_BinarySearchFunc_find_ok (R := fun v w' => ∃ i : Nat, i ≤ n ∧ v = .tuple #[.int .i64 i, .bool (match xs[i]? with | some x => decide (x.1 = t) | none => false)] ∧ (∀ k x, xs[k]? = some x → (x.1.data.toList < t.data.toList ↔ k < i)) ∧ Fr (fun _ => False) w w') ?_ (fun v w' ⟨i, h0, h, h2⟩ => ⟨i, h0, by rw [h], h2⟩)
  refine ⟨fun i j w' => ∃ p q : Nat, i = p ∧ j = q ∧ p ≤ q ∧ q ≤ n ∧ (∀ k x, xs[k]? = some x → k < p → x.1.data.toList < t.data.toList) ∧ (∀ k x, xs[k]? = some x → q ≤ k → ¬ x.1.data.toList < t.data.toList) ∧ Fr (fun _ => False) w w', fun i j _ => j.toNat - i.toNat,
    ⟨0, n, rfl, rfl, Nat.zero_le _, Nat.le_refl _, fun k x _ h => by omega, fun k x hx h => by have := (List.getElem?_eq_some_iff.1 hx).1; omega, .refl _ _⟩, ?_⟩
  rintro i j w5 ⟨p, q, rfl, rfl, hpq, hqn, hlo, hhi, hf⟩
  refine ⟨fun hlt => ⟨by decide, ?_⟩, fun hge => ?_⟩
  · have hlt := of_decide_eq_true hlt
    have e1 : IntKind.i64.wrap (Int.fdiv (IntKind.u64.wrap (IntKind.i64.wrap ((p : Int) + (q : Int)))) (2 ^ min (Int.toNat 1) 64)) = (((p + q) / 2 : Nat) : Int) := by
      rw [wrap_i64 (x := (p : Int) + (q : Int)) (by omega) (by omega), wrap_u64 (by omega) (by omega), show (2 : Int) ^ min (Int.toNat 1) 64 = 2 by decide, Int.fdiv_eq_ediv_of_nonneg _ (by omega), wrap_i64 (by omega) (by omega)]
      omega
    have hm : (p + q) / 2 < xs.length := by omega
    obtain ⟨m, hme⟩ : ∃ m, (p + q) / 2 = m := ⟨_, rfl⟩
    have e2 : IntKind.i64.wrap ((m : Int) + 1) = ((m + 1 : Nat) : Int) := by rw [wrap_i64 (by omega) (by omega)]; omega
    rw [hme] at e1 hm
    rw [e1, e2]
    have hx : xs[m]? = some xs[m] := List.getElem?_eq_getElem hm
    generalize xs[m] = x at hx
    obtain ⟨ad, had, hld⟩ := (hr.keep hf (by simp)).load elP hx
    refine ⟨⟨by omega, by omega⟩, ad, had, x.1, x.2.1, x.2.2, by rw [Int.toNat_natCast]; exact hld, (cmpfind_spec x t w5).mono ?_⟩
    rintro e w11 ⟨rfl, hf11⟩
    have hf11' := hf.trans' hf11
    refine ⟨_, rfl, fun hc => ⟨⟨m + 1, q, rfl, rfl, by omega, hqn, fun k y hy hk => ?_, hhi, hf11'⟩, by dsimp only; omega⟩, fun hc => ⟨⟨p, m, rfl, rfl, by omega, by omega, hlo, fun k y hy hk hlt' => ?_, hf11'⟩, by dsimp only; omega⟩⟩
    · exact riseP_lt hs hy hx (by omega) ((cmp_lt _ _).1 (of_decide_eq_true hc))
    · exact of_decide_eq_false hc ((cmp_lt _ _).2 (riseP_lt hs hx hy hk hlt'))
  · have hge := of_decide_eq_false hge
    have hpq' : p = q := by omega
    subst hpq'
    have hiff : ∀ k x, xs[k]? = some x → (x.1.data.toList < t.data.toList ↔ k < p) := fun k x hx => ⟨fun h => by
      by_cases hk : k < p
      · exact hk
      · exact absurd h (hhi k x hx (by omega)), hlo k x hx⟩
    refine ⟨fun hlt => ?_, fun hlt => ⟨p, hqn, ?_, hiff, hf⟩⟩
    · have hlt := of_decide_eq_true hlt
      have hm : p < xs.length := by omega
      have hx : xs[p]? = some xs[p] := List.getElem?_eq_getElem hm
      generalize xs[p] = x at hx
      obtain ⟨ad, had, hld⟩ := (hr.keep hf (by simp)).load elP hx
      refine ⟨⟨by omega, by omega⟩, ad, had, x.1, x.2.1, x.2.2, by rw [Int.toNat_natCast]; exact hld, (cmpfind_spec x t w5).mono ?_⟩
      rintro e w18 ⟨rfl, hf18⟩
      refine ⟨_, rfl, p, hqn, ?_, hiff, hf.trans' hf18⟩
      rw [hx]
      have : (Lib.compareBytes x.1.data.toList t.data.toList == 0) = decide (x.1 = t) := by
        rw [Bool.eq_iff_iff, beq_iff_eq, decide_eq_true_eq]
        exact (cmp_zero _ _).trans ⟨fun h => bs_ext h, fun h => by rw [h]⟩
      rw [this]
    · have hlt := of_decide_eq_false hlt
      rw [List.getElem?_eq_none (by omega)]
theorem cmpmatch_spec (x : PRow) (t : ByteArray) (w : World) : Calls Try.prog F_packidx_Idx_Match_1 #[.agg (encP x).toArray, .string t] w fun e w' => e = .returned (.int .i64 (Lib.compareBytes x.1.data.toList t.data.toList)) ∧ Fr (fun _ => False) w w' := by
  refine vc_packidx_Idx_Match_1_ok (R := fun v w' => v = .int .i64 (Lib.compareBytes x.1.data.toList t.data.toList) ∧ Fr (fun _ => False) w w') ?_ (fun v w' h => ⟨by rw [h.1], h.2⟩)
  intro w1 h1
  have hf1 : Fr (fun _ => False) w w1 := by rw [h1]; exact .alloc _ _ _
  have hb1 : w1.heap[w.heap.size]? = some (.cells (encP x).toArray T_packidx_Row (0, 0)) := by rw [h1]; exact alloc_new _ _
  refine ⟨x.1, by rw [cell_blk hb1]; rfl, (compare_spec _ _ w1).mono ?_⟩
  rintro e w4 ⟨rfl, hw⟩
  replace hw := hw.symm
  subst hw
  exact ⟨_, rfl, rfl, hf1⟩
theorem searchmatch_spec {w : World} {a : Option Addr} {n c : Nat} {xs : List PRow} (hr : ReadsK encP 3 w a xs) (hn : xs.length = n) (hl : n ≤ 1000000) (hs : RiseP xs) (t : ByteArray) :
    Calls Try.prog 28 #[.slice a n c, .string t, .func (.func F_packidx_Idx_Match_1) #[] #[]] w fun e w' =>
      ∃ i : Nat, i ≤ n ∧ e = .returned (.tuple #[.int .i64 i, .bool (match xs[i]? with | some x => decide (x.1 = t) | none => false)]) ∧ (∀ k x, xs[k]? = some x → (x.1.data.toList < t.data.toList ↔ k < i)) ∧ Fr (fun _ => False) w w' := by
  refine vc_slices_BinarySearchFunc_match_ok (R := fun v w' => ∃ i : Nat, i ≤ n ∧ v = .tuple #[.int .i64 i, .bool (match xs[i]? with | some x => decide (x.1 = t) | none => false)] ∧ (∀ k x, xs[k]? = some x → (x.1.data.toList < t.data.toList ↔ k < i)) ∧ Fr (fun _ => False) w w') ?_ (fun v w' ⟨i, h0, h, h2⟩ => ⟨i, h0, by rw [h], h2⟩)
  refine ⟨fun i j w' => ∃ p q : Nat, i = p ∧ j = q ∧ p ≤ q ∧ q ≤ n ∧ (∀ k x, xs[k]? = some x → k < p → x.1.data.toList < t.data.toList) ∧ (∀ k x, xs[k]? = some x → q ≤ k → ¬ x.1.data.toList < t.data.toList) ∧ Fr (fun _ => False) w w', fun i j _ => j.toNat - i.toNat,
    ⟨0, n, rfl, rfl, Nat.zero_le _, Nat.le_refl _, fun k x _ h => by omega, fun k x hx h => by have := (List.getElem?_eq_some_iff.1 hx).1; omega, .refl _ _⟩, ?_⟩
  rintro i j w5 ⟨p, q, rfl, rfl, hpq, hqn, hlo, hhi, hf⟩
  refine ⟨fun hlt => ⟨by decide, ?_⟩, fun hge => ?_⟩
  · have hlt := of_decide_eq_true hlt
    have e1 : IntKind.i64.wrap (Int.fdiv (IntKind.u64.wrap (IntKind.i64.wrap ((p : Int) + (q : Int)))) (2 ^ min (Int.toNat 1) 64)) = (((p + q) / 2 : Nat) : Int) := by
      rw [wrap_i64 (x := (p : Int) + (q : Int)) (by omega) (by omega), wrap_u64 (by omega) (by omega), show (2 : Int) ^ min (Int.toNat 1) 64 = 2 by decide, Int.fdiv_eq_ediv_of_nonneg _ (by omega), wrap_i64 (by omega) (by omega)]
      omega
    have hm : (p + q) / 2 < xs.length := by omega
    obtain ⟨m, hme⟩ : ∃ m, (p + q) / 2 = m := ⟨_, rfl⟩
    have e2 : IntKind.i64.wrap ((m : Int) + 1) = ((m + 1 : Nat) : Int) := by rw [wrap_i64 (by omega) (by omega)]; omega
    rw [hme] at e1 hm
    rw [e1, e2]
    have hx : xs[m]? = some xs[m] := List.getElem?_eq_getElem hm
    generalize xs[m] = x at hx
    obtain ⟨ad, had, hld⟩ := (hr.keep hf (by simp)).load elP hx
    refine ⟨⟨by omega, by omega⟩, ad, had, x.1, x.2.1, x.2.2, by rw [Int.toNat_natCast]; exact hld, (cmpmatch_spec x t w5).mono ?_⟩
    rintro e w11 ⟨rfl, hf11⟩
    have hf11' := hf.trans' hf11
    refine ⟨_, rfl, fun hc => ⟨⟨m + 1, q, rfl, rfl, by omega, hqn, fun k y hy hk => ?_, hhi, hf11'⟩, by dsimp only; omega⟩, fun hc => ⟨⟨p, m, rfl, rfl, by omega, by omega, hlo, fun k y hy hk hlt' => ?_, hf11'⟩, by dsimp only; omega⟩⟩
    · exact riseP_lt hs hy hx (by omega) ((cmp_lt _ _).1 (of_decide_eq_true hc))
    · exact of_decide_eq_false hc ((cmp_lt _ _).2 (riseP_lt hs hx hy hk hlt'))
  · have hge := of_decide_eq_false hge
    have hpq' : p = q := by omega
    subst hpq'
    have hiff : ∀ k x, xs[k]? = some x → (x.1.data.toList < t.data.toList ↔ k < p) := fun k x hx => ⟨fun h => by
      by_cases hk : k < p
      · exact hk
      · exact absurd h (hhi k x hx (by omega)), hlo k x hx⟩
    refine ⟨fun hlt => ?_, fun hlt => ⟨p, hqn, ?_, hiff, hf⟩⟩
    · have hlt := of_decide_eq_true hlt
      have hm : p < xs.length := by omega
      have hx : xs[p]? = some xs[p] := List.getElem?_eq_getElem hm
      generalize xs[p] = x at hx
      obtain ⟨ad, had, hld⟩ := (hr.keep hf (by simp)).load elP hx
      refine ⟨⟨by omega, by omega⟩, ad, had, x.1, x.2.1, x.2.2, by rw [Int.toNat_natCast]; exact hld, (cmpmatch_spec x t w5).mono ?_⟩
      rintro e w18 ⟨rfl, hf18⟩
      refine ⟨_, rfl, p, hqn, ?_, hiff, hf.trans' hf18⟩
      rw [hx]
      have : (Lib.compareBytes x.1.data.toList t.data.toList == 0) = decide (x.1 = t) := by
        rw [Bool.eq_iff_iff, beq_iff_eq, decide_eq_true_eq]
        exact (cmp_zero _ _).trans ⟨fun h => bs_ext h, fun h => by rw [h]⟩
      rw [this]
    · have hlt := of_decide_eq_false hlt
      rw [List.getElem?_eq_none (by omega)]
/-- A row in a block of its own. -/
theorem boxP_new (w : World) : w.alloc (.cells #[.string ⟨#[]⟩, .int .i64 0, .int .u32 0] T_packidx_Row) = w.alloc (.cells (encP (⟨#[]⟩, 0, 0)).toArray T_packidx_Row) := rfl
theorem boxP_store {w : World} {g : Nat} {cs : Array Value} (h : w.heap[g]? = some (.cells cs T_packidx_Row (0, 0))) (hc : cs.size = 3) (x : PRow) :
    ∃ w', (storeVar T_packidx_Row ⟨g, 0, none⟩ (.agg #[.string x.1, .int .i64 x.2.1, .int .u32 x.2.2])).run Try.prog w = .ok () w' ∧ w'.heap[g]? = some (.cells (encP x).toArray T_packidx_Row (0, 0)) ∧ Fr (· = g) w w' :=
  ⟨_, run_storeVar_row (P := Try.prog) w g T_packidx_Row T_packidx_Row _ (encP x).toArray h (by kernel_rfl) (by rw [hc]; rfl) (by simp [encP, Value.oneCell']), setRow_heap w g _ (encP x).toArray T_packidx_Row (0, 0) h, setRow_fr (· = g) w g _ rfl⟩
theorem boxP_load {w : World} {g : Nat} {x : PRow} (h : w.heap[g]? = some (.cells (encP x).toArray T_packidx_Row (0, 0))) : (loadVar T_packidx_Row ⟨g, 0, none⟩).run Try.prog w = .ok (.agg #[.string x.1, .int .i64 x.2.1, .int .u32 x.2.2]) w :=
  load_agg (vs := encP x) (agg_of (by kernel_rfl)) (by kernel_rfl) fun k v hv => by rw [add_lit, Nat.zero_add, cell_blk h]; simpa [encP] using hv
def encPv (x : PRow) : Value := .agg #[.string x.1, .int .i64 x.2.1, .int .u32 x.2.2]
section
variable {w : World} {b : Nat} {rows : List PRow} {sum : ByteArray}
theorem len_spec (h : IsIdx w b rows sum) : Calls Try.prog F_packidx_Idx_Len #[.pointer (some ⟨b, 0, none⟩)] w fun e w' => e = .returned (.int .i64 (rows.length : Nat)) ∧ w' = w := by
  refine vc_packidx_Idx_Len_ok (R := fun v w' => v = .int .i64 (rows.length : Nat) ∧ w' = w) ?_ (fun v w' h => ⟨by rw [h.1], h.2⟩)
  obtain ⟨l, F, h1, h2, h3⟩ := h.at_
  exact ⟨l, h1.rowsC, by rw [h3], rfl⟩
theorem sumP_spec (h : IsIdx w b rows sum) : Calls Try.prog F_packidx_Idx_Sum #[.pointer (some ⟨b, 0, none⟩)] w fun e w' => e = .returned (.string sum) ∧ w' = w := by
  refine vc_packidx_Idx_Sum_ok (R := fun v w' => v = .string sum ∧ w' = w) ?_ (fun v w' h => ⟨by rw [h.1], h.2⟩)
  obtain ⟨l, F, h1, h2, h3⟩ := h.at_
  exact ⟨sum, h1.sumC, rfl, rfl⟩
theorem atP_spec (h : IsIdx w b rows sum) (hl : rows.length ≤ 1000000) (i : Int) : Calls Try.prog F_packidx_Idx_At #[.pointer (some ⟨b, 0, none⟩), .int .i64 i] w fun e w' =>
    e = .returned (if 0 ≤ i then (match rows[i.toNat]? with | some x => .tuple #[encPv x, .int .i64 0] | none => .tuple #[encPv (⟨#[]⟩, 0, 0), .int .i64 7]) else .tuple #[encPv (⟨#[]⟩, 0, 0), .int .i64 7]) ∧ Fr (fun _ => False) w w' := by
  refine vc_packidx_Idx_At_ok (R := fun v w' => v = (if 0 ≤ i then (match rows[i.toNat]? with | some x => .tuple #[encPv x, .int .i64 0] | none => .tuple #[encPv (⟨#[]⟩, 0, 0), .int .i64 7]) else .tuple #[encPv (⟨#[]⟩, 0, 0), .int .i64 7]) ∧ Fr (fun _ => False) w w') ?_ (fun v w' h => ⟨by rw [h.1], h.2⟩)
  intro w1 h1
  have hf1 : Fr (fun _ => False) w w1 := by rw [h1]; exact .alloc _ _ _
  have hb1 : w1.heap[w.heap.size]? = some (.cells (encP (⟨#[]⟩, 0, 0)).toArray T_packidx_Row (0, 0)) := by rw [h1]; exact alloc_new _ _
  clear h1
  obtain ⟨l, F, k1, k2, k3⟩ := (h.keep hf1).at_
  have back : ∀ {w2 : World}, Fr (· = w.heap.size) w1 w2 → Fr (fun _ => False) w w2 := fun hf => hf1.trans hf fun q hq e => by omega
  refine ⟨fun hlt => ?_, fun hge => ⟨l, k1.rowsC, fun hbig => ?_, fun hsm => ⟨l, k1.rowsC, ?_⟩⟩⟩
  · have hlt := of_decide_eq_true hlt
    obtain ⟨w2, hst, hb2, hf2⟩ := boxP_store hb1 rfl (⟨#[]⟩, 0, 0)
    exact ⟨w2, hst, _, _, _, boxP_load hb2, by rw [if_neg (by omega)]; rfl, back hf2⟩
  · have hge := of_decide_eq_false hge
    have hbig := of_decide_eq_true hbig
    obtain ⟨w2, hst, hb2, hf2⟩ := boxP_store hb1 rfl (⟨#[]⟩, 0, 0)
    exact ⟨w2, hst, _, _, _, boxP_load hb2, by rw [if_pos (by omega), List.getElem?_eq_none (by omega)]; rfl, back hf2⟩
  · have hge := of_decide_eq_false hge
    have hsm := of_decide_eq_false hsm
    have hi : i.toNat < rows.length := by omega
    have hx : rows[i.toNat]? = some rows[i.toNat] := List.getElem?_eq_getElem hi
    generalize rows[i.toNat] = x at hx
    obtain ⟨ad, had, hld⟩ := k2.load elP hx
    obtain ⟨w2, hst, hb2, hf2⟩ := boxP_store hb1 rfl x
    exact ⟨⟨by omega, by omega⟩, ad, had, x.1, x.2.1, x.2.2, hld, w2, hst, _, _, _, boxP_load hb2, by rw [if_pos (by omega), hx]; rfl, back hf2⟩
/-- What is found under a name. -/
def findP (rows : List PRow) (id : ByteArray) : Option PRow := rows.find? fun x => decide (x.1 = id)
theorem findP_spec (h : IsIdx w b rows sum) (hl : rows.length ≤ 1000000) (hs : RiseP rows) (id : ByteArray) : Calls Try.prog F_packidx_Idx_Find #[.pointer (some ⟨b, 0, none⟩), .string id] w fun e w' =>
    e = .returned (match findP rows id with | some x => .tuple #[encPv x, .int .i64 0] | none => .tuple #[encPv (⟨#[]⟩, 0, 0), .int .i64 7]) ∧ Fr (fun _ => False) w w' := by
  refine vc_packidx_Idx_Find_ok (R := fun v w' => v = (match findP rows id with | some x => .tuple #[encPv x, .int .i64 0] | none => .tuple #[encPv (⟨#[]⟩, 0, 0), .int .i64 7]) ∧ Fr (fun _ => False) w w') ?_ (fun v w' h => ⟨by rw [h.1], h.2⟩)
  intro w1 h1
  have hf1 : Fr (fun _ => False) w w1 := by rw [h1]; exact .alloc _ _ _
  have hb1 : w1.heap[w.heap.size]? = some (.cells (encP (⟨#[]⟩, 0, 0)).toArray T_packidx_Row (0, 0)) := by rw [h1]; exact alloc_new _ _
  clear h1
  obtain ⟨l, F, k1, k2, k3⟩ := (h.keep hf1).at_
  refine ⟨l, k1.rowsC, (searchfind_spec k2 k3 (by omega) hs id).mono ?_⟩
  rintro e w4 ⟨i, hi, rfl, hiff, hf4⟩
  have hb4 := hf4.keep hb1 (by simp)
  have back : ∀ {w2 : World}, Fr (· = w.heap.size) w4 w2 → Fr (fun _ => False) w w2 := fun hf => (hf1.trans' hf4).trans hf fun q hq e => by omega
  refine ⟨_, _, rfl, fun hno => ?_, fun hyes => ⟨l, (k1.keep hf4 (by simp)).rowsC, ?_⟩⟩
  · have hnf : findP rows id = none := by
      unfold findP
      rw [List.find?_eq_none]
      intro x hx
      obtain ⟨k, hk⟩ := List.mem_iff_getElem?.1 hx
      intro he
      have he : x.1 = id := by simpa using he
      have h1 : ¬ k < i := fun hki => by
        have := (hiff k x hk).2 hki
        rw [he] at this; exact List.lt_irrefl _ this
      have hki : k = i := by
        rcases Nat.lt_or_ge i k with h2 | h2
        · exfalso
          have hil : i < rows.length := by have := (List.getElem?_eq_some_iff.1 hk).1; omega
          have h3 : ¬ rows[i].1.data.toList < id.data.toList := fun h4 => by have := (hiff i _ (List.getElem?_eq_getElem hil)).1 h4; omega
          have h5 := (List.pairwise_iff_getElem.1 hs) i k hil (List.getElem?_eq_some_iff.1 hk).1 h2
          rw [(List.getElem?_eq_some_iff.1 hk).2, he] at h5
          exact h3 h5
        · omega
      subst hki
      rw [hk] at hno
      simp [he] at hno
    obtain ⟨w2, hst, hb2, hf2⟩ := boxP_store hb4 rfl (⟨#[]⟩, 0, 0)
    exact ⟨w2, hst, _, _, _, boxP_load hb2, by rw [hnf]; rfl, back hf2⟩
  · cases hx : rows[i]? with
    | none => rw [hx] at hyes; simp at hyes
    | some x =>
      rw [hx] at hyes
      have he : x.1 = id := by simpa using hyes
      have hil := (List.getElem?_eq_some_iff.1 hx).1
      have hf : findP rows id = some x := by
        unfold findP
        have hsp : rows = rows.take i ++ (x :: rows.drop (i + 1)) := by
          have := List.drop_eq_getElem_cons hil
          rw [(List.getElem?_eq_some_iff.1 hx).2] at this
          rw [← this, List.take_append_drop]
        rw [hsp, List.find?_append, List.find?_eq_none.2 (fun y hy => ?_)]
        · simp [he]
        · obtain ⟨k, hk⟩ := List.mem_iff_getElem?.1 hy
          rw [List.getElem?_take] at hk
          split at hk
          · rename_i hki
            have := (hiff k y hk).2 hki
            intro e
            have e : y.1 = id := by simpa using e
            rw [e] at this; exact List.lt_irrefl _ this
          · cases hk
      obtain ⟨ad, had, hld⟩ := (k2.keep hf4 (by simp)).load elP hx
      obtain ⟨w2, hst, hb2, hf2⟩ := boxP_store hb4 rfl x
      exact ⟨⟨by omega, by omega⟩, ad, had, x.1, x.2.1, x.2.2, by rw [Int.toNat_natCast]; exact hld, w2, hst, _, _, _, boxP_load hb2, by rw [hf]; rfl, back hf2⟩
/-- The names that begin so. -/
def matchP (rows : List PRow) (front : ByteArray) : List ByteArray := (rows.filter fun x => begB x.1 front).map (·.1)
theorem matchP_spec (h : IsIdx w b rows sum) (hl : rows.length ≤ 1000000) (hs : RiseP rows) (front : ByteArray) : Calls Try.prog F_packidx_Idx_Match #[.pointer (some ⟨b, 0, none⟩), .string front] w fun e w' =>
    ∃ o, e = .returned (.slice o.a o.len o.cap) ∧ Vc.Own w' w.heap.size T_string o (strV (matchP rows front)) ∧ Fr (fun _ => False) w w' := by
  refine vc_packidx_Idx_Match_ok (R := fun v w' => ∃ o : Sl, v = .slice o.a o.len o.cap ∧ Vc.Own w' w.heap.size T_string o (strV (matchP rows front)) ∧ Fr (fun _ => False) w w') ?_ (fun v w' ⟨o, h⟩ => ⟨o, by rw [h.1], h.2⟩)
  obtain ⟨l, F, k1, k2, k3⟩ := h.at_
  refine ⟨l, k1.rowsC, (searchmatch_spec k2 k3 (by omega) hs front).mono ?_⟩
  rintro e w3 ⟨i, hin, rfl, hiff, hf3⟩
  refine ⟨_, _, rfl, fun o j w' => ∃ m : Nat, j = m ∧ i ≤ m ∧ m ≤ rows.length ∧ (∀ k x, rows[k]? = some x → i ≤ k → k < m → begB x.1 front = true) ∧ Vc.Own w' w.heap.size T_string o (strV (((rows.take m).drop i).map (·.1))) ∧ Fr (fun _ => False) w w', fun _ j _ => rows.length - j.toNat,
    ⟨i, rfl, Nat.le_refl _, by omega, fun k x _ h1 h2 => by omega, by rw [List.drop_eq_nil_of_le (by rw [List.length_take]; omega)]; exact Vc.Own.nil _ _ _, hf3⟩, ?_⟩
  rintro o j w10 ⟨m, rfl, him, hm, hall, ho, hf⟩
  have hk1 := k1.keep hf (by simp)
  have e1 : IntKind.i64.wrap ((m : Int) + 1) = ((m + 1 : Nat) : Int) := by rw [wrap_i64 (by omega) (by omega)]; omega
  rw [e1]
  have hlow : ∀ k x, rows[k]? = some x → k < i → begB x.1 front = false := fun k x hx hki => by
    have := (hiff k x hx).2 hki
    unfold begB
    refine decide_eq_false fun hp => ?_
    exact absurd this (pre_le _ _ hp)
  have fin : (∀ k x, rows[k]? = some x → m ≤ k → begB x.1 front = false) → matchP rows front = ((rows.take m).drop i).map (·.1) := fun hh => by
    unfold matchP
    rw [filter_mid (fun x : PRow => begB x.1 front) rows him hlow hall hh]
  refine ⟨l, hk1.rowsC, fun hlt => ⟨l, hk1.rowsC, ?_⟩, fun hge => ⟨o, rfl, ?_, hf⟩⟩
  · have hlt := of_decide_eq_true hlt
    have hml : m < rows.length := by omega
    have hx : rows[m]? = some rows[m] := List.getElem?_eq_getElem hml
    generalize rows[m] = x at hx
    obtain ⟨ad, had, hc⟩ := (k2.keep hf (by simp)) m x hx
    have hc0 := hc 0 (.string x.1) rfl
    rw [show (ad.add (m * 3)).add 0 = ad.add (m * 3) by rw [add_add]; rfl] at hc0
    refine ⟨⟨by omega, by omega⟩, ad, had, x.1, by rw [Int.toNat_natCast]; exact hc0, (hasPrefix_spec x.1 front w10).mono ?_⟩
    rintro e w16 ⟨rfl, hw⟩
    replace hw := hw.symm
    subst hw
    refine ⟨_, rfl, fun hb => ⟨l, hk1.rowsC, ⟨by omega, by omega⟩, ad, had, x.1, by rw [Int.toNat_natCast]; exact hc0, fun w21 h21 => ?_⟩, fun hb => ⟨o, rfl, ?_, hf⟩⟩
    · obtain ⟨w22, l23, hr22, ho22, hf22⟩ := grow_str x.1 (by rw [List.length_map, List.length_drop, List.length_take]; omega) ho hf h21
      refine ⟨w22, l23, hr22, ⟨m + 1, rfl, by omega, by omega, fun k y hy h1 h2 => ?_, ?_, hf22⟩, by dsimp only; omega⟩
      · by_cases hkm : k < m
        · exact hall k y hy h1 hkm
        · rw [show k = m by omega, hx] at hy
          cases hy; exact hb
      · have htk : rows.take (m + 1) = rows.take m ++ [x] := by rw [List.take_add_one, hx]; rfl
        rw [htk, List.drop_append_of_le_length (by rw [List.length_take]; omega), List.map_append]
        exact ho22
    · rw [fin fun k y hy hmk => ?_]
      · exact ho
      · by_cases hkm : k = m
        · subst hkm; rw [hx] at hy; cases hy; exact hb
        · cases hyb : begB y.1 front with
          | false => rfl
          | true =>
            exfalso
            have h1 : front.data.toList <+: y.1.data.toList := by unfold begB at hyb; exact of_decide_eq_true hyb
            have h2 : ¬ x.1.data.toList < front.data.toList := fun h => by have := (hiff m x hx).1 h; omega
            have h3 := (List.pairwise_iff_getElem.1 hs) m k hml (List.getElem?_eq_some_iff.1 hy).1 (by omega)
            rw [(List.getElem?_eq_some_iff.1 hx).2, (List.getElem?_eq_some_iff.1 hy).2] at h3
            have h4 := pre_between _ _ _ h2 (List.lt_asymm h3) h1
            unfold begB at hb
            rw [decide_eq_true h4] at hb
            cases hb
  · have hge := of_decide_eq_false hge
    have hm' : m = rows.length := by omega
    rw [fin fun k y hy hmk => by have := (List.getElem?_eq_some_iff.1 hy).1; omega]
    exact ho
end
end Go.Proofs.Ytoagdpjickippaa

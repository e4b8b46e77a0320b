/- slices.Clone and slices.BinarySearchFunc of files by their paths. Conditions: as named. -/
import Derived.Test.YtmhlmdnhpfhoeaaDoorSnapA
import Derived.Test.YtmhlmdnhpfhoeaaDoorSnap2
set_option linter.unusedVariables false
namespace Go.Proofs.YtmhlmdnhpfhoeaaDoor
open Go Vc Go.Proofs

theorem grow_fr (w : World) (q : Nat) (os : Array Obj) : Fr (fun _ => False) w (Sort.grow (w.drewN q) os) :=
  ⟨rfl, rfl, rfl, by simp [Sort.grow, World.drewN], fun k hk _ => by
    have hk' : k < (w.drewN q).heap.size := hk
    exact Sort.heap_grow_old _ _ hk'⟩
theorem byPath_fr (x y : FileE) (w : World) : Calls Tryd.prog F_snap_byPath #[.agg (encF x).toArray, .agg (encF y).toArray] w fun e w' => e = .returned (.int .i64 (cmpF x y)) ∧ Fr (fun _ => False) w w' :=
  (byPath_spec x y w).mono fun e w' ⟨h, q, os, h2⟩ => ⟨h, by rw [h2]; exact grow_fr _ _ _⟩
/-- 'slices.Clone'. -/
theorem clone_spec {w : World} {a : Option Addr} {n c : Nat} {xs : List FileE} (hr : ReadsK encF 2 w a xs) (hn : xs.length = n) (hl : n ≤ 1000000) : Calls Tryd.prog F_slices_Clone #[.slice a n c] w fun e w' =>
    ∃ l, e = .returned (.slice l.a l.len l.cap) ∧ OwnK encF 2 w' w.heap.size T_api_File l xs ∧ Fr (fun _ => False) w w' := by
  refine vc_slices_Clone_ok (R := fun v w' => ∃ l : Sl, v = .slice l.a l.len l.cap ∧ OwnK encF 2 w' w.heap.size T_api_File l xs ∧ Fr (fun _ => False) w w') ?_ (fun v w' ⟨l, h⟩ => ⟨l, by rw [h.1], h.2⟩)
  refine ⟨fun ha => ?_, fun ha w1 h1 => ?_⟩
  · have ha : a = none := by simpa using ha
    have hx : xs = [] := by
      cases xs with
      | nil => rfl
      | cons x r =>
        obtain ⟨ad, h, _⟩ := hr 0 x rfl
        rw [ha] at h; cases h
    subst hx
    exact ⟨⟨none, 0, 0⟩, rfl, .nil _ _ _, .refl _ _⟩
  · have hf1 : Fr (fun _ => False) w w1 := by rw [h1]; exact .alloc _ _ _
    have ho1 : OwnK encF 2 w1 w.heap.size T_api_File ⟨some ⟨w.heap.size, 0, none⟩, 0, 0⟩ [] := by rw [h1]; exact .empty w T_api_File
    obtain ⟨w2, l3, hr2, ho2, hf2⟩ := append_allK elF ho1 c (hr.keep hf1 (by simp)) (by simp [maxLen]; omega) (by simp; omega) hf1.size hn
    exact ⟨w2, l3, hr2, l3, rfl, ho2, hf1.trans hf2 fun q hq ⟨y, hy, e⟩ => by cases hy; simp only at e; omega⟩
/-- Rising by their paths. -/
def Rising (xs : List FileE) : Prop := xs.Pairwise fun x y => ¬ y.path.data.toList < x.path.data.toList
theorem rising_lt {xs : List FileE} (h : Rising xs) {i j : Nat} {x y : FileE} (hx : xs[i]? = some x) (hy : xs[j]? = some y) (hij : i ≤ j) {p : List UInt8} (hp : y.path.data.toList < p) : x.path.data.toList < p := by
  by_cases he : i = j
  · subst he; rw [hx] at hy; cases hy; exact hp
  · have := (List.pairwise_iff_getElem.1 h) i j (List.getElem?_eq_some_iff.1 hx).1 (List.getElem?_eq_some_iff.1 hy).1 (by omega)
    rw [(List.getElem?_eq_some_iff.1 hx).2, (List.getElem?_eq_some_iff.1 hy).2] at this
    rcases lt_tri x.path.data.toList y.path.data.toList with h3 | h3 | h3
    · exact List.lt_trans h3 hp
    · rw [h3]; exact hp
    · exact absurd h3 this
/-- 'slices.BinarySearchFunc'. -/
theorem search_spec {w : World} {a : Option Addr} {n c : Nat} {xs : List FileE} (hr : ReadsK encF 2 w a xs) (hn : xs.length = n) (hl : n ≤ 1000000) (hs : Rising xs) (t : FileE) :
    Calls Tryd.prog F_slices_BinarySearchFunc #[.slice a n c, .agg #[.string t.path, .string t.data], .func (.func F_snap_byPath) #[] #[]] w fun e w' =>
      ∃ i : Nat, i ≤ n ∧ e = .returned (.tuple #[.int .i64 i, .bool (match xs[i]? with | some x => decide (x.path = t.path) | none => false)]) ∧ (∀ k x, xs[k]? = some x → (x.path.data.toList < t.path.data.toList ↔ k < i)) ∧ Fr (fun _ => False) w w' := by
  refine vc_slices_BinarySearchFunc_byPath_ok (R := fun v w' => ∃ i : Nat, i ≤ n ∧ v = .tuple #[.int .i64 i, .bool (match xs[i]? with | some x => decide (x.path = t.path) | none => false)] ∧ (∀ k x, xs[k]? = some x → (x.path.data.toList < t.path.data.toList ↔ k < i)) ∧ Fr (fun _ => False) w w') ?_ (fun v w' ⟨i, h0, h, h2⟩ => ⟨i, h0, by rw [h], h2⟩)
  intro w1 h1
  have hf1 : Fr (fun _ => False) w w1 := by rw [h1]; exact .alloc _ _ _
  have hb1 : w1.heap[w.heap.size]? = some (.cells (encF t).toArray T_api_File (0, 0)) := by rw [h1]; exact alloc_new _ _
  clear h1
  have lt : ∀ w', Fr (fun _ => False) w1 w' → (loadVar T_api_File ⟨w.heap.size, 0, none⟩).run Tryd.prog w' = .ok (.agg #[.string t.path, .string t.data]) w' := fun w' hf =>
    load_agg (vs := encF t) (agg_of (by kernel_rfl)) (by kernel_rfl) fun k v hv => by rw [add_lit, Nat.zero_add, cell_blk (hf.keep hb1 (by simp))]; simpa [encF] using hv
  refine ⟨fun i j w' => ∃ p q : Nat, i = p ∧ j = q ∧ p ≤ q ∧ q ≤ n ∧ (∀ k x, xs[k]? = some x → k < p → x.path.data.toList < t.path.data.toList) ∧ (∀ k x, xs[k]? = some x → q ≤ k → ¬ x.path.data.toList < t.path.data.toList) ∧ Fr (fun _ => False) w1 w', fun i j _ => j.toNat - i.toNat,
    ⟨0, n, rfl, rfl, Nat.zero_le _, Nat.le_refl _, fun k x _ h => by omega, fun k x hx h => by have := (List.getElem?_eq_some_iff.1 hx).1; omega, .refl _ _⟩, ?_⟩
  rintro i j w6 ⟨p, q, rfl, rfl, hpq, hqn, hlo, hhi, hf⟩
  refine ⟨fun hlt => ⟨by decide, fun w7 d7 => ⟨fun w' => Fr (fun _ => False) w1 w', hf.trans' (.drew _ d7), ?_⟩⟩, fun hge w19 d19 => ⟨fun w' => Fr (fun _ => False) w1 w', hf.trans' (.drew _ d19), ?_⟩⟩
  · have hlt := of_decide_eq_true hlt
    have hf7 : Fr (fun _ => False) w1 w7 := hf.trans' (.drew _ d7)
    have e1 : IntKind.i64.wrap (Int.fdiv (IntKind.u64.wrap (IntKind.i64.wrap ((p : Int) + (q : Int)))) (2 ^ min (Int.toNat 1) 64)) = (((p + q) / 2 : Nat) : Int) := by
      rw [wrap_i64 (x := (p : Int) + (q : Int)) (by omega) (by omega), wrap_u64 (by omega) (by omega), show (2 : Int) ^ min (Int.toNat 1) 64 = 2 by decide, Int.fdiv_eq_ediv_of_nonneg _ (by omega), wrap_i64 (by omega) (by omega)]
      omega
    have hm : (p + q) / 2 < xs.length := by omega
    obtain ⟨m, hme⟩ : ∃ m, (p + q) / 2 = m := ⟨_, rfl⟩
    have e2 : IntKind.i64.wrap ((m : Int) + 1) = ((m + 1 : Nat) : Int) := by rw [wrap_i64 (by omega) (by omega)]; omega
    rw [hme] at e1 hm
    rw [e1, e2]
    have hx : xs[m]? = some xs[m] := List.getElem?_eq_getElem hm
    generalize xs[m] = x at hx
    obtain ⟨ad, had, _⟩ := hr.load elF hx
    refine ⟨⟨by omega, by omega⟩, ad, had, x.path, x.data, fun w' hw' => ?_, t.path, t.data, fun w' hw' => lt w' hw', (byPath_fr x t w7).mono ?_⟩
    · obtain ⟨b, hb, hld⟩ := (hr.keep (hf1.trans' hw') (by simp)).load elF hx
      rw [had] at hb; cases hb
      rw [Int.toNat_natCast]; exact hld
    · rintro e w17 ⟨rfl, hf17⟩
      have hf17' := hf7.trans' hf17
      refine ⟨_, rfl, hf17', fun hc => ⟨⟨m + 1, q, rfl, rfl, by omega, hqn, fun k y hy hk => ?_, hhi, hf17'⟩, by dsimp only; omega⟩, fun hc => ⟨⟨p, m, rfl, rfl, by omega, by omega, hlo, fun k y hy hk hlt' => ?_, hf17'⟩, by dsimp only; omega⟩⟩
      · exact rising_lt hs hy hx (by omega) ((cmp_lt _ _).1 (of_decide_eq_true hc))
      · exact of_decide_eq_false hc ((cmp_lt _ _).2 (rising_lt hs hx hy hk hlt'))
  · have hge := of_decide_eq_false hge
    have hpq' : p = q := by omega
    subst hpq'
    have hf19 : Fr (fun _ => False) w1 w19 := hf.trans' (.drew _ d19)
    have hiff : ∀ k x, xs[k]? = some x → (x.path.data.toList < t.path.data.toList ↔ k < p) := fun k x hx => ⟨fun h => by
      by_cases hk : k < p
      · exact hk
      · exact absurd h (hhi k x hx (by omega)), hlo k x hx⟩
    refine ⟨fun hlt => ?_, fun hlt => ⟨hf19, p, hqn, ?_, hiff, hf1.trans' hf19⟩⟩
    · have hlt := of_decide_eq_true hlt
      have hm : p < xs.length := by omega
      have hx : xs[p]? = some xs[p] := List.getElem?_eq_getElem hm
      generalize xs[p] = x at hx
      obtain ⟨ad, had, _⟩ := hr.load elF hx
      refine ⟨⟨by omega, by omega⟩, ad, had, x.path, x.data, fun w' hw' => ?_, t.path, t.data, fun w' hw' => lt w' hw', (byPath_fr x t w19).mono ?_⟩
      · obtain ⟨b, hb, hld⟩ := (hr.keep (hf1.trans' hw') (by simp)).load elF hx
        rw [had] at hb; cases hb
        rw [Int.toNat_natCast]; exact hld
      · rintro e w29 ⟨rfl, hf29⟩
        have hf29' := hf19.trans' hf29
        refine ⟨_, rfl, hf29', p, hqn, ?_, hiff, hf1.trans' hf29'⟩
        rw [hx]
        have : (cmpF x t == 0) = decide (x.path = t.path) := by
          rw [Bool.eq_iff_iff, beq_iff_eq, decide_eq_true_eq]
          exact (cmp_zero _ _).trans ⟨fun h => bs_ext h, fun h => by rw [h]⟩
        rw [this]
    · have hlt := of_decide_eq_false hlt
      rw [List.getElem?_eq_none (by omega)]
end Go.Proofs.YtmhlmdnhpfhoeaaDoor

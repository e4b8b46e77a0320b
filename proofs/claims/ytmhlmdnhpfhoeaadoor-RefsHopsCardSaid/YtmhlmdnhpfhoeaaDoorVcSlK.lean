/- Slices whose elements take several cells: what is read through one, what a call owns, append, an element set; a struct in a block of its own. No condition: for all programs. -/
import Derived.Test.YtmhlmdnhpfhoeaaDoorVcApp
set_option linter.unusedVariables false
namespace Vc
open Go

theorem flat_get {α : Type} {enc : α → List Value} {k : Nat} (hk : ∀ x, (enc x).length = k) : ∀ (xs : List α) (i : Nat) (x : α) (j : Nat) (v : Value), xs[i]? = some x → (enc x)[j]? = some v → (xs.flatMap enc)[i * k + j]? = some v
  | y :: r, 0, x, j, v, hx, hv => by
    simp only [List.getElem?_cons_zero, Option.some.injEq] at hx
    subst hx
    rw [List.flatMap_cons, Nat.zero_mul, Nat.zero_add, List.getElem?_append_left (List.getElem?_eq_some_iff.1 hv).1]; exact hv
  | y :: r, i + 1, x, j, v, hx, hv => by
    have := flat_get hk r i x j v (by simpa using hx) hv
    rw [List.flatMap_cons, List.getElem?_append_right (by rw [hk, Nat.succ_mul]; omega), hk, Nat.succ_mul, show i * k + k + j - k = i * k + j by omega]; exact this
  | [], i, x, j, v, hx, _ => by simp at hx
theorem flat_get' {α : Type} {enc : α → List Value} {k : Nat} (hk : ∀ x, (enc x).length = k) (h0 : 0 < k) : ∀ (xs : List α) (j : Nat) (v : Value), (xs.flatMap enc)[j]? = some v → ∃ x, xs[j / k]? = some x ∧ (enc x)[j % k]? = some v
  | [], j, v, h => by simp at h
  | y :: r, j, v, h => by
    rw [List.flatMap_cons] at h
    by_cases hj : j < k
    · rw [List.getElem?_append_left (by rw [hk]; exact hj)] at h
      exact ⟨y, by rw [Nat.div_eq_of_lt hj]; rfl, by rw [Nat.mod_eq_of_lt hj]; exact h⟩
    · rw [List.getElem?_append_right (by rw [hk]; omega), hk] at h
      obtain ⟨x, h1, h2⟩ := flat_get' hk h0 r (j - k) v h
      refine ⟨x, ?_, ?_⟩
      · rw [Nat.div_eq_sub_div h0 (by omega), List.getElem?_cons_succ]; exact h1
      · rw [Nat.mod_eq_sub_mod (by omega)]; exact h2
theorem flat_len {α : Type} {enc : α → List Value} {k : Nat} (hk : ∀ x, (enc x).length = k) : ∀ xs : List α, (xs.flatMap enc).length = xs.length * k
  | [] => by simp
  | x :: r => by rw [List.flatMap_cons, List.length_append, hk, flat_len hk r, List.length_cons, Nat.succ_mul]; omega

section
variable {α : Type} (enc : α → List Value) (k : Nat)
/-- These elements lie where the slice begins. -/
def ReadsK (w : World) (a : Option Addr) (xs : List α) : Prop := ∀ i x, xs[i]? = some x → ∃ ad, a = some ad ∧ ∀ j v, (enc x)[j]? = some v → w.cell? ((ad.add (i * k)).add j) = some v
/-- A slice of the call's own. -/
def OwnK (w : World) (base : Nat) (e : TypeId) (l : Sl) (xs : List α) : Prop := xs.length = l.len ∧ w.ownsRow base e k (.slice l.a l.len l.cap) l.len (xs.flatMap enc)
/-- What an element's type is. -/
structure ElK (P : Program) (t e : TypeId) (z : Value) (bytes : Nat) : Prop where
  sl : P.underlying t = some (.slice e)
  info : (P.info? e).map (fun i => (i.zero, i.size, i.bytes)) = some (some z, k, bytes)
  one : z.cells.size = k
  pos : 0 < k
  agg : aggB P e = true
  len : ∀ x, (enc x).length = k
  cells : ∀ x, ∀ u ∈ enc x, u.oneCell' = true
end
section
variable {α : Type} {enc : α → List Value} {k : Nat} {w w1 : World} {base : Nat} {e : TypeId} {l : Sl} {xs : List α} {a : Option Addr}
theorem ReadsK.keep (h : ReadsK enc k w a xs) {X : Nat → Prop} (hf : Fr X w w1) (hx : ∀ x, a = some x → ¬ X x.block) : ReadsK enc k w1 a xs := fun i x hi => by
  obtain ⟨ad, ha, hc⟩ := h i x hi
  exact ⟨ad, ha, fun j v hv => hf.cell (hc j v hv) (by rw [add_block, add_block]; exact hx ad ha)⟩
theorem ReadsK.nil (w : World) (a : Option Addr) : ReadsK enc k w a [] := fun i x h => by simp at h
theorem ReadsK.take (h : ReadsK enc k w a xs) (n : Nat) : ReadsK enc k w a (xs.take n) := fun i x hi => by
  rw [List.getElem?_take] at hi
  split at hi
  · exact h i x hi
  · cases hi
theorem ReadsK.drop {ad : Addr} (h : ReadsK enc k w (some ad) xs) (n : Nat) : ReadsK enc k w (some (ad.add (n * k))) (xs.drop n) := fun i x hi => by
  rw [List.getElem?_drop] at hi
  obtain ⟨b, hb, hc⟩ := h _ _ hi
  cases hb
  refine ⟨_, rfl, fun j v hv => ?_⟩
  have := hc j v hv
  rw [add_add] at this ⊢
  rw [add_add, ← Nat.add_assoc, ← Nat.add_mul]
  exact this
theorem ReadsK.sub {cap : Nat} (h : ReadsK enc k w a xs) (hc : xs.length ≤ cap) (n : Nat) : ReadsK enc k w (subA a cap n k) (xs.drop n) := by
  unfold subA
  split
  · rw [List.drop_eq_nil_of_le (by omega)]; exact .nil _ _
  · cases a with
    | none =>
      have : xs = [] := by
        cases xs with
        | nil => rfl
        | cons v r => obtain ⟨y, hy, _⟩ := h 0 v rfl; cases hy
      subst this; simpa using ReadsK.nil w _
    | some x => rw [Option.map_some]; exact h.drop n
theorem ReadsK.lt (h : ReadsK enc k w a xs) (hk : ∀ x, (enc x).length = k) (h0 : 0 < k) : xs ≠ [] → ∃ x, a = some x ∧ x.block < w.heap.size := fun hn => by
  cases xs with
  | nil => exact absurd rfl hn
  | cons y r =>
    obtain ⟨ad, ha, hc⟩ := h 0 y rfl
    have hlt : 0 < (enc y).length := by rw [hk]; exact h0
    have := World.block_lt_of_cell? w _ (hc 0 _ (List.getElem?_eq_getElem hlt))
    rw [add_block, add_block] at this
    exact ⟨ad, ha, this⟩
theorem ReadsK.flat {ad : Addr} (h : ReadsK enc k w (some ad) xs) (hk : ∀ x, (enc x).length = k) (h0 : 0 < k) : ∀ j v, (xs.flatMap enc)[j]? = some v → w.cell? (ad.add j) = some v := fun j v hv => by
  obtain ⟨x, h1, h2⟩ := flat_get' hk h0 xs j v hv
  obtain ⟨b, hb, hc⟩ := h _ _ h1
  cases hb
  have := hc _ _ h2
  rw [add_add, Nat.div_add_mod'] at this
  exact this
theorem ReadsK.load {P : Program} {t : TypeId} {z : Value} {bytes : Nat} (el : ElK enc k P t e z bytes) (h : ReadsK enc k w a xs) {i : Nat} {x : α} (hi : xs[i]? = some x) :
    ∃ ad, a = some ad ∧ (loadVar e (ad.add (i * k))).run P w = .ok (.agg (enc x).toArray) w := by
  obtain ⟨ad, ha, hc⟩ := h i x hi
  refine ⟨ad, ha, load_agg (agg_of el.agg) ?_ fun j v hv => hc j v hv⟩
  obtain ⟨ti, h1, h2⟩ := Option.map_eq_some_iff.1 el.info
  simp only [Prod.mk.injEq] at h2
  rw [h1, Option.map_some, h2.2.1, el.len]
theorem OwnK.len (h : OwnK enc k w base e l xs) : l.len = xs.length := h.1.symm
theorem OwnK.nil (w : World) (base : Nat) (e : TypeId) : OwnK enc k w base e ⟨none, 0, 0⟩ [] := ⟨rfl, by simp, .inl ⟨rfl, rfl⟩⟩
theorem OwnK.empty (w : World) (e : TypeId) : OwnK enc k (w.alloc (.cells #[] e)) w.heap.size e ⟨some ⟨w.heap.size, 0, none⟩, 0, 0⟩ [] :=
  ⟨rfl, by simp, .inr ⟨w.heap.size, 0, #[], rfl, Nat.le_refl _, alloc_new _ _, Nat.le_refl _, Nat.zero_le _, by simp, by simp⟩⟩
theorem OwnK.blk (h : OwnK enc k w base e l xs) {x : Addr} (hx : l.a = some x) : base ≤ x.block ∧ x.block < w.heap.size := by
  rcases h.2.2 with ⟨hv, _⟩ | ⟨g, cap, cur, hv, hb, hg, _⟩
  · simp only [Value.slice.injEq] at hv; rw [hv.1] at hx; cases hx
  · simp only [Value.slice.injEq] at hv; rw [hv.1] at hx; cases hx; exact ⟨hb, lt_blk hg⟩
theorem OwnK.cap (h : OwnK enc k w base e l xs) : l.len ≤ l.cap := by
  rcases h.2.2 with ⟨hv, _⟩ | ⟨g, cap, cur, hv, hb, hg, hl, _⟩
  · simp only [Value.slice.injEq] at hv; omega
  · simp only [Value.slice.injEq] at hv; omega
theorem OwnK.keep (h : OwnK enc k w base e l xs) {X : Nat → Prop} (hf : Fr X w w1) (hx : ∀ x, l.a = some x → ¬ X x.block) : OwnK enc k w1 base e l xs := by
  refine ⟨h.1, h.2.1, ?_⟩
  rcases h.2.2 with hn | ⟨g, cap, cur, hv, hb, hg, r⟩
  · exact .inl hn
  · refine .inr ⟨g, cap, cur, hv, hb, hf.keep hg (hx ⟨g, 0, none⟩ ?_), r⟩
    simp only [Value.slice.injEq] at hv; exact hv.1
theorem OwnK.mono (h : OwnK enc k w base e l xs) {b : Nat} (hb : b ≤ base) : OwnK enc k w b e l xs := by
  refine ⟨h.1, h.2.1, ?_⟩
  rcases h.2.2 with hn | ⟨g, cap, cur, hv, hb', r⟩
  · exact .inl hn
  · exact .inr ⟨g, cap, cur, hv, by omega, r⟩
theorem OwnK.drew (h : OwnK enc k w base e l xs) (d : Drew w w1) : OwnK enc k w1 base e l xs := h.keep (.drew (fun _ => False) d) (by simp)
theorem OwnK.reads (h : OwnK enc k w base e l xs) (hk : ∀ x, (enc x).length = k) : ReadsK enc k w l.a xs := fun i x hx => by
  rcases h.2.2 with ⟨hv, hz⟩ | ⟨g, cap, cur, hv, hb, hg, hl, hm, hs, ht⟩
  · have h1 := h.1
    rw [hz] at h1
    rw [List.length_eq_zero_iff.1 h1] at hx; simp at hx
  · simp only [Value.slice.injEq] at hv
    refine ⟨_, hv.1, fun j v hj => ?_⟩
    have := flat_get hk xs i x j v hx hj
    rw [add_lit, add_lit, cell_blk hg, Nat.zero_add]
    rw [← ht, List.getElem?_take] at this
    split at this
    · simpa using this
    · cases this
end
section
variable {α : Type} {enc : α → List Value} {k : Nat} {P : Program} {t e : TypeId} {z : Value} {bytes : Nat} {w : World} {base : Nat} {l : Sl} {xs : List α}
theorem append_runK (el : ElK enc k P t e z bytes) (h : OwnK enc k w base e l xs) (ad : Addr) (c : Nat) (ys : List α) (hr : ReadsK enc k w (some ad) ys)
    (hm : xs.length + ys.length ≤ maxLen) (hb : (xs.length + ys.length) * bytes ≤ 140737488355328) (hbase : base ≤ w.heap.size) :
    ∃ w' l', (Builtin.append_ #[t, t] t #[.slice l.a l.len l.cap, .slice (some ad) ys.length c]).run P w = .ok (.slice l'.a l'.len l'.cap) w' ∧ OwnK enc k w' base e l' (xs ++ ys) ∧ Fr (At l) w w' := by
  obtain ⟨i, hi, hi2⟩ := Option.map_eq_some_iff.1 el.info
  simp only [Prod.mk.injEq] at hi2
  obtain ⟨v', w', hr', ho, hg, _⟩ := run_append_own (P := P) w base t t e i z k bytes el.sl hi hi2.1 hi2.2.1 hi2.2.2 el.one el.pos (.slice l.a l.len l.cap) l.len (xs.flatMap enc) h.2 ad ys.length c (ys.flatMap enc) (flat_len el.len ys)
    (hr.flat el.len el.pos) (fun u hu => by obtain ⟨x, _, hx⟩ := List.mem_flatMap.1 hu; exact el.cells x u hx) (by rw [h.len]; exact hm) (by rw [h.len]; exact hb) hbase
  have hfr : Fr (At l) w w' := (Fr.grown hg).mono fun q _ hq => by
    cases ha : l.a with
    | none => simp [Value.ownBlock, ha] at hq
    | some y => simp [Value.ownBlock, ha] at hq; exact ⟨y, ha, hq⟩
  have hshape : ∃ a c, v' = .slice a (l.len + ys.length) c := by
    rcases ho.2 with ⟨h1, h2⟩ | ⟨g, cap, cur, h1, _⟩
    · exact ⟨none, 0, by rw [h1, h2]⟩
    · exact ⟨_, _, h1⟩
  obtain ⟨a, c', rfl⟩ := hshape
  refine ⟨w', ⟨a, l.len + ys.length, c'⟩, hr', ⟨by rw [List.length_append, h.len], ?_⟩, hfr⟩
  rw [List.flatMap_append]
  exact ho
theorem since_runK (el : ElK enc k P t e z bytes) (h : OwnK enc k w base e l xs) (ad : Addr) (c : Nat) (ys : List α) (hr : ReadsK enc k w (some ad) ys)
    (hm : xs.length + ys.length ≤ maxLen) (hb : (xs.length + ys.length) * bytes ≤ 140737488355328) {l' : Sl} {w' : World}
    (hrun : (Builtin.append_ #[t, t] t #[.slice l.a l.len l.cap, .slice (some ad) ys.length c]).run P w = .ok (.slice l'.a l'.len l'.cap) w') : Since w l l' := by
  obtain ⟨i, hi, hi2⟩ := Option.map_eq_some_iff.1 el.info
  simp only [Prod.mk.injEq] at hi2
  obtain ⟨hz, hs1, hby⟩ := hi2
  have hlen := h.1
  have hcells : ∀ u ∈ ys.flatMap enc, u.oneCell' = true := fun u hu => by obtain ⟨x, _, hx⟩ := List.mem_flatMap.1 hu; exact el.cells x u hx
  rcases h.2.2 with ⟨hv, hl0⟩ | ⟨g, cap, cur, hv, hbg, hg, hl, hmx, hs, ht⟩
  · have h0 : OwnK enc k w w.heap.size e l xs := ⟨h.1, h.2.1, .inl ⟨hv, hl0⟩⟩
    obtain ⟨w2, l2, hr2, ho2, _⟩ := append_runK el h0 ad c ys hr hm hb (Nat.le_refl _)
    rw [hr2] at hrun
    simp only [Result.ok.injEq, Value.slice.injEq] at hrun
    obtain ⟨⟨e1, _, _⟩, rfl⟩ := hrun
    intro y hy
    exact .inr (ho2.blk (by rw [e1]; exact hy)).1
  · simp only [Value.slice.injEq] at hv
    obtain ⟨ha, _, hcap⟩ := hv
    have hml : maxLen ≤ 9223372036854775807 := by decide
    by_cases hroom : l.len + ys.length ≤ cap
    · have hfit : l.len * i.size + (ys.flatMap enc).length ≤ cur.size := by
        rw [flat_len el.len, hs1, hs, ← Nat.add_mul]; exact Nat.mul_le_mul_right _ hroom
      have hr2 := run_append_room (P := P) w t t e i el.sl hi g l.len cap cur hg ad ys.length c (ys.flatMap enc) (by rw [flat_len el.len, hs1]) (hr.flat el.len el.pos) hcells hroom hfit
      rw [ha, hcap, hr2] at hrun
      simp only [Result.ok.injEq, Value.slice.injEq] at hrun
      intro y hy
      refine .inl ⟨y, ?_, rfl⟩
      rw [ha, hrun.1.1]; exact hy
    · have holds : ∀ j u, (xs.flatMap enc)[j]? = some u → w.cell? ((⟨g, 0, none⟩ : Addr).add j) = some u := h.2.cells (g := g) (by rw [ha]; rfl)
      have hr2 := run_append_grow (P := P) w t t e i z el.sl hi hz ⟨g, 0, none⟩ l.len cap (xs.flatMap enc) (by rw [flat_len el.len, hs1, hlen]) holds ad ys.length c (ys.flatMap enc) (by rw [flat_len el.len, hs1]) (hr.flat el.len el.pos) (by omega) (by omega) (growslice_fits (by omega) (by rw [hby, ← hlen]; exact hb))
      rw [ha, hcap, hr2] at hrun
      simp only [Result.ok.injEq, Value.slice.injEq] at hrun
      intro y hy
      rw [← hrun.1.1] at hy
      cases hy
      exact .inr (Nat.le_refl _)
/-- 'out = append(out, v)'. -/
theorem append_oneK (el : ElK enc k P t e z bytes) (h : OwnK enc k w base e l xs) {x : α}
    (hm : xs.length + 1 ≤ maxLen) (hb : (xs.length + 1) * bytes ≤ 140737488355328) (hbase : base ≤ w.heap.size) {w2 : World} (hw2 : w2 = w.alloc (.cells (enc x).toArray e)) :
    ∃ w' l', (Builtin.append_ #[t, t] t #[.slice l.a l.len l.cap, .slice (some ⟨w.heap.size, 0, none⟩) 1 1]).run P w2 = .ok (.slice l'.a l'.len l'.cap) w' ∧ OwnK enc k w' base e l' (xs ++ [x]) ∧ Fr (At l) w w' ∧ Since w l l' := by
  subst hw2
  have h2 : OwnK enc k (w.alloc (.cells (enc x).toArray e)) base e l xs := h.keep (.alloc (fun _ => False) _ _) (by simp)
  have hr : ReadsK enc k (w.alloc (.cells (enc x).toArray e)) (some ⟨w.heap.size, 0, none⟩) [x] := fun i y hi => by
    cases i with
    | zero =>
      simp only [List.getElem?_cons_zero, Option.some.injEq] at hi
      subst hi
      refine ⟨_, rfl, fun j v hv => ?_⟩
      rw [Nat.zero_mul, add_lit, add_lit, cell_blk (alloc_new w _), Nat.zero_add]; simpa using hv
    | succ i => simp at hi
  obtain ⟨w', l', hr', ho, hf⟩ := append_runK el h2 ⟨w.heap.size, 0, none⟩ 1 [x] hr hm hb (by simp; omega)
  refine ⟨w', l', hr', ho, (Fr.alloc _ _ _).trans' hf, fun y hy => ?_⟩
  rcases since_runK el h2 ⟨w.heap.size, 0, none⟩ 1 [x] hr hm hb hr' y hy with hx | hn
  · exact .inl hx
  · simp only [World.alloc, Array.size_push] at hn
    exact .inr (by omega)
/-- 'append(out, xs...)'. -/
theorem append_allK (el : ElK enc k P t e z bytes) (h : OwnK enc k w base e l xs) {src : Option Addr} (c : Nat) {ys : List α} (hr : ReadsK enc k w src ys)
    (hm : xs.length + ys.length ≤ maxLen) (hb : (xs.length + ys.length) * bytes ≤ 140737488355328) (hbase : base ≤ w.heap.size) {m : Nat} (hlen : ys.length = m) :
    ∃ w' l', (Builtin.append_ #[t, t] t #[.slice l.a l.len l.cap, .slice src m c]).run P w = .ok (.slice l'.a l'.len l'.cap) w' ∧ OwnK enc k w' base e l' (xs ++ ys) ∧ Fr (At l) w w' := by
  subst hlen
  cases src with
  | some ad => exact append_runK el h ad c ys hr hm hb hbase
  | none =>
    have hn : ys = [] := by
      cases ys with
      | nil => rfl
      | cons v r => obtain ⟨y, hy, _⟩ := hr 0 v rfl; cases hy
    subst hn
    refine ⟨w, l, ?_, by simpa using h, .refl _ _⟩
    obtain ⟨i, hi, hi2⟩ := Option.map_eq_some_iff.1 el.info
    have hcap := h.cap
    cases ha : l.a <;> simp [Builtin.append_, run_underlying el.sl, Go.sizeOf, typeInfo, hi, Builtin.lenOf, Builtin.firstCells, hcap, storeCells]
theorem flat_set (hk : ∀ x, (enc x).length = k) : ∀ (xs : List α) (i : Nat) (x : α), i < xs.length → (xs.set i x).flatMap enc = (xs.flatMap enc).take (i * k) ++ enc x ++ (xs.flatMap enc).drop (i * k + k)
  | y :: r, 0, x, _ => by
    rw [List.set_cons_zero, List.flatMap_cons, List.flatMap_cons, Nat.zero_mul, Nat.zero_add, List.take_zero, List.nil_append]
    congr 1
    rw [← hk y, List.drop_left]
  | y :: r, i + 1, x, h => by
    rw [List.set_cons_succ, List.flatMap_cons, List.flatMap_cons, flat_set hk r i x (by simpa using h)]
    have e1 : (i + 1) * k = (enc y).length + i * k := by rw [hk, Nat.succ_mul]; omega
    rw [e1, List.take_length_add_append, Nat.add_assoc, List.drop_length_add_append]
    simp only [List.append_assoc]
  | [], i, x, h => by simp at h
/-- An element set. -/
theorem OwnK.setAt (el : ElK enc k P t e z bytes) (h : OwnK enc k w base e l xs) {i : Nat} (hi : i < xs.length) (x : α) :
    ∃ ad, l.a = some ad ∧ ∃ w', (storeVar e (ad.add (i * k)) (.agg (enc x).toArray)).run P w = .ok () w' ∧ OwnK enc k w' base e l (xs.set i x) ∧ Fr (At l) w w' := by
  obtain ⟨ti, hti, hi2⟩ := Option.map_eq_some_iff.1 el.info
  simp only [Prod.mk.injEq] at hi2
  rcases h.2.2 with ⟨hv, hz⟩ | ⟨g, cap, cur, hv, hb, hg, hl, hm, hs, ht⟩
  · have := h.1; omega
  · simp only [Value.slice.injEq] at hv
    have h1 := h.1
    have hfit : i * k + k ≤ cur.size := by
      rw [hs, ← Nat.succ_mul]; exact Nat.mul_le_mul_right _ (by omega)
    have hst := run_storeCells_at (P := P) g (i * k) e (enc x) 0 cur w hg (by rw [el.len]; omega) (el.cells x)
    simp only [Nat.add_zero] at hst
    refine ⟨_, hv.1, w.setRow g (cur.toList.take (i * k) ++ enc x ++ cur.toList.drop (i * k + (enc x).length)).toArray, ?_, ⟨by rw [List.length_set]; exact h.1, by rw [flat_len el.len, List.length_set, h.1], .inr ⟨g, cap, (cur.toList.take (i * k) ++ enc x ++ cur.toList.drop (i * k + (enc x).length)).toArray, by rw [hv.1, hv.2.2], hb, setRow_heap w g cur _ e _ hg, by omega, hm, ?_, ?_⟩⟩, ⟨rfl, rfl, rfl, by simp [World.setRow], fun q _ hq => setRow_other w g q _ (fun e' => hq ⟨_, hv.1, e'⟩)⟩⟩
    · rw [add_lit, Nat.zero_add]
      have hsz : (enc x).length = ti.size := by rw [el.len, hi2.2.1]
      simp [storeVar, Go.sizeOf, typeInfo, hti, Value.cells, hsz, hst]
    · have := el.len x
      simp only [List.size_toArray, List.length_append, List.length_take, List.length_drop, Array.length_toList, this]
      omega
    · have hxl := el.len x
      rw [flat_set el.len xs i x hi, ← ht]
      simp only [hxl]
      have hik : i * k + k ≤ l.len * k := by rw [← Nat.succ_mul]; exact Nat.mul_le_mul_right _ (by omega)
      rw [List.take_take, Nat.min_eq_left (by omega)]
      have hlen1 : (cur.toList.take (i * k) ++ enc x).length = i * k + k := by
        rw [List.length_append, List.length_take, hxl, Array.length_toList]; omega
      rw [List.take_append, List.take_of_length_le (l := cur.toList.take (i * k) ++ enc x) (by omega), hlen1, List.drop_take]
end
end Vc

/- Slices: what is read through one, what a call owns, append. No condition: for all programs. -/
import Derived.Test.YtmhlmdnhpfhoeaaDoorVcLib
import Derived.Deep.WholeRow
set_option linter.unusedVariables false
namespace Vc
open Go

/-- These values lie where the slice begins. -/
def Reads (w : World) (a : Option Addr) (xs : List Value) : Prop := ∀ i v, xs[i]? = some v → ∃ x, a = some x ∧ w.cell? (x.add i) = some v
theorem Reads.keep {w w1 : World} {a : Option Addr} {xs : List Value} (h : Reads w a xs) {X : Nat → Prop} (hf : Fr X w w1) (hx : ∀ x, a = some x → ¬ X x.block) : Reads w1 a xs := fun i v hv => by
  obtain ⟨x, ha, hc⟩ := h i v hv
  exact ⟨x, ha, hf.cell hc (by rw [add_block]; exact hx x ha)⟩
theorem Reads.nil (w : World) (a : Option Addr) : Reads w a [] := fun i v h => by simp at h
theorem Reads.lt {w : World} {a : Option Addr} {xs : List Value} (h : Reads w a xs) (hn : xs ≠ []) : ∃ x, a = some x ∧ x.block < w.heap.size := by
  cases xs with
  | nil => exact absurd rfl hn
  | cons v r =>
    obtain ⟨x, ha, hc⟩ := h 0 v rfl
    exact ⟨x, ha, by simpa [add_block] using World.block_lt_of_cell? w _ hc⟩
theorem add_add (x : Addr) (i j : Nat) : (x.add i).add j = x.add (i + j) := by
  unfold Addr.add
  by_cases hi : i = 0 <;> by_cases hj : j = 0 <;> simp [hi, hj, Nat.add_assoc]
theorem Reads.drop {w : World} {x : Addr} {xs : List Value} (h : Reads w (some x) xs) (k : Nat) : Reads w (some (x.add k)) (xs.drop k) := fun i v hv => by
  rw [List.getElem?_drop] at hv
  obtain ⟨y, hy, hc⟩ := h _ _ hv
  cases hy
  exact ⟨_, rfl, by rw [add_add]; exact hc⟩
theorem Reads.take {w : World} {a : Option Addr} {xs : List Value} (h : Reads w a xs) (k : Nat) : Reads w a (xs.take k) := fun i v hv => by
  rw [List.getElem?_take] at hv
  split at hv
  · exact h i v hv
  · cases hv
theorem Reads.at {w : World} {a : Option Addr} {xs : List Value} (h : Reads w a xs) {i : Nat} (hi : i < xs.length) : ∃ x, a = some x ∧ w.cell? (x.add i) = some xs[i] := h i _ (by simp [hi])
/-- What came in as integers. -/
theorem IsRow.reads {k : IntKind} {w : World} {a : Option Addr} {len cap : Nat} {zs : List Int} (h : IsRow k w a len cap zs) : Reads w a ((zs.take len).map (.int k)) ∧ ((zs.take len).map (Value.int k)).length = len ∧ ∀ z ∈ zs.take len, (Lit.int k z).wf = true := by
  rcases h with ⟨rfl, rfl, rfl, rfl⟩ | ⟨x, rfl, hl, _, hz, hc, hw⟩
  · exact ⟨.nil _ _, rfl, by simp⟩
  · refine ⟨fun i v hv => ⟨x, rfl, ?_⟩, by simp; omega, fun z hz => hw z (List.mem_of_mem_take hz)⟩
    rw [List.getElem?_map, List.getElem?_take] at hv
    split at hv
    · rename_i hi
      rw [hc i (by omega)]
      simp only [List.getElem?_eq_getElem (show i < zs.length by omega), Option.map_some, Option.some.injEq] at hv
      rw [← hv, List.getD_eq_getElem?_getD, List.getElem?_eq_getElem (show i < zs.length by omega)]
      rfl
    · cases hv
theorem wf_i64 {z : Int} (h : (Lit.int .i64 z).wf = true) : -9223372036854775808 ≤ z ∧ z ≤ 9223372036854775807 := by
  simp [Lit.wf, IntKind.min, IntKind.max, IntKind.signed, IntKind.bits] at h; omega
theorem wf_u32 {z : Int} (h : (Lit.int .u32 z).wf = true) : 0 ≤ z ∧ z ≤ 4294967295 := by
  simp [Lit.wf, IntKind.min, IntKind.max, IntKind.signed, IntKind.bits] at h; omega
theorem wf_u8 {z : Int} (h : (Lit.int .u8 z).wf = true) : 0 ≤ z ∧ z ≤ 255 := by
  simp [Lit.wf, IntKind.min, IntKind.max, IntKind.signed, IntKind.bits] at h; omega

/-- A slice of the call's own, from block 'base' on: its cells' values. -/
def Own (w : World) (base : Nat) (e : TypeId) (l : Sl) (xs : List Value) : Prop :=
  xs.length = l.len ∧ ((l.a = none ∧ l.len = 0 ∧ l.cap = 0) ∨
    ∃ g cur, l.a = some ⟨g, 0, none⟩ ∧ base ≤ g ∧ w.heap[g]? = some (.cells cur e (0, 0)) ∧ l.len ≤ l.cap ∧ l.cap ≤ maxLen ∧ cur.size = l.cap ∧ cur.toList.take l.len = xs)
section
variable {w w1 : World} {base : Nat} {e : TypeId} {l : Sl} {xs : List Value}
theorem Own.toRow (h : Own w base e l xs) : w.ownsRow base e 1 (.slice l.a l.len l.cap) l.len xs := by
  obtain ⟨h1, h2⟩ := h
  refine ⟨by omega, ?_⟩
  rcases h2 with ⟨a, b, c⟩ | ⟨g, cur, ha, hb, hg, hl, hm, hs, ht⟩
  · exact .inl ⟨by rw [a, b, c], b⟩
  · exact .inr ⟨g, l.cap, cur, by rw [ha], hb, hg, hl, hm, by omega, by rw [Nat.mul_one]; exact ht⟩
theorem Own.ofRow {a : Option Addr} {n c m : Nat} (h : w.ownsRow base e 1 (.slice a n c) m xs) : Own w base e ⟨a, n, c⟩ xs ∧ n = m := by
  obtain ⟨h1, h2⟩ := h
  rcases h2 with ⟨h2, h3⟩ | ⟨g, cap, cur, hv, hb, hg, hl, hm, hs, ht⟩
  · simp only [Value.slice.injEq] at h2
    obtain ⟨rfl, rfl, rfl⟩ := h2
    exact ⟨⟨by simp only; omega, .inl ⟨rfl, rfl, rfl⟩⟩, h3.symm⟩
  · simp only [Value.slice.injEq] at hv
    obtain ⟨rfl, rfl, rfl⟩ := hv
    exact ⟨⟨by simp only; omega, .inr ⟨g, cur, rfl, hb, hg, hl, hm, by simp only; omega, by simpa using ht⟩⟩, rfl⟩
theorem Own.nil (w : World) (base : Nat) (e : TypeId) : Own w base e ⟨none, 0, 0⟩ [] := ⟨rfl, .inl ⟨rfl, rfl, rfl⟩⟩
theorem Own.len (h : Own w base e l xs) : l.len = xs.length := h.1.symm
theorem Own.blk (h : Own w base e l xs) {x : Addr} (hx : l.a = some x) : base ≤ x.block ∧ x.block < w.heap.size := by
  rcases h.2 with ⟨ha, _⟩ | ⟨g, cur, ha, hb, hg, _⟩
  · rw [ha] at hx; cases hx
  · rw [ha] at hx; cases hx; exact ⟨hb, lt_blk hg⟩
theorem Own.keep (h : Own w base e l xs) {X : Nat → Prop} (hf : Fr X w w1) (hx : ∀ x, l.a = some x → ¬ X x.block) : Own w1 base e l xs := by
  refine ⟨h.1, ?_⟩
  rcases h.2 with hn | ⟨g, cur, ha, hb, hg, r⟩
  · exact .inl hn
  · exact .inr ⟨g, cur, ha, hb, hf.keep hg (hx _ ha), r⟩
theorem Own.mono (h : Own w base e l xs) {b : Nat} (hb : b ≤ base) : Own w b e l xs := by
  refine ⟨h.1, ?_⟩
  rcases h.2 with hn | ⟨g, cur, ha, hb', r⟩
  · exact .inl hn
  · exact .inr ⟨g, cur, ha, by omega, r⟩
theorem Own.drew (h : Own w base e l xs) (d : Drew w w1) : Own w1 base e l xs := h.keep (.drew (fun _ => False) d) (by simp)
theorem add_lit (b o n : Nat) : Addr.add ⟨b, o, none⟩ n = ⟨b, o + n, none⟩ := by
  unfold Addr.add; split
  · subst_vars; rfl
  · rfl
theorem Own.reads (h : Own w base e l xs) : Reads w l.a xs := fun i v hv => by
  rcases h.2 with ⟨_, h2, _⟩ | ⟨g, cur, ha, hb, hg, hl, hm, hs, ht⟩
  · have h1 := h.1
    rw [h2] at h1
    rw [List.length_eq_zero_iff.1 h1] at hv; simp at hv
  · refine ⟨_, ha, ?_⟩
    rw [add_lit, cell_blk hg, Nat.zero_add]
    rw [← ht, List.getElem?_take] at hv
    split at hv
    · simpa using hv
    · cases hv
end

/-- An element type of one cell. -/
structure El (P : Program) (t e : TypeId) (z : Value) (bytes : Nat) : Prop where
  sl : P.underlying t = some (.slice e)
  info : (P.info? e).map (fun i => (i.zero, i.size, i.bytes)) = some (some z, 1, bytes)
  one : z.cells.size = 1
section
variable {P : Program} {t e : TypeId} {z : Value} {bytes : Nat} {w : World} {base : Nat} {l : Sl} {xs : List Value}
/-- Values that a cell takes. -/
def Cell1 (v : Value) : Prop := v.oneCell' = true

theorem append_run (el : El P t e z bytes) (h : Own w base e l xs) (x : Addr) (c : Nat) (news : List Value) (hn : ∀ j u, news[j]? = some u → w.cell? (x.add j) = some u) (h1 : ∀ u ∈ news, u.oneCell' = true)
    (hm : xs.length + news.length ≤ maxLen) (hb : (xs.length + news.length) * bytes ≤ 140737488355328) (hbase : base ≤ w.heap.size) :
    ∃ w' l', (Builtin.append_ #[t, t] t #[.slice l.a l.len l.cap, .slice (some x) news.length c]).run P w = .ok (.slice l'.a l'.len l'.cap) w' ∧ Own w' base e l' (xs ++ news) ∧
      Fr (fun k => ∃ y, l.a = some y ∧ k = y.block) w w' := by
  obtain ⟨i, hi, hi2⟩ := Option.map_eq_some_iff.1 el.info
  simp only [Prod.mk.injEq] at hi2
  obtain ⟨v', w', hr, ho, hg, _⟩ := run_append_own (P := P) w base t t e i z 1 bytes el.sl hi hi2.1 hi2.2.1 hi2.2.2 el.one (by decide) (.slice l.a l.len l.cap) l.len xs h.toRow x news.length c news (by omega) hn h1
    (by rw [h.len]; exact hm) (by rw [h.len]; exact hb) hbase
  have hfr : Fr (fun k => ∃ y, l.a = some y ∧ k = y.block) w w' := (Fr.grown hg).mono fun k _ hk => by
    cases ha : l.a with
    | none => simp [Value.ownBlock, ha] at hk
    | some y => simp [Value.ownBlock, ha] at hk; exact ⟨y, rfl, hk⟩
  have hshape : ∃ a n c, v' = .slice a n c := by
    rcases ho.2 with ⟨h, _⟩ | ⟨g, cap, cur, h, _⟩
    · exact ⟨_, _, _, h⟩
    · exact ⟨_, _, _, h⟩
  obtain ⟨a, n, c', rfl⟩ := hshape
  exact ⟨w', ⟨a, n, c'⟩, hr, (Own.ofRow ho).1, hfr⟩

/-- 'out = append(out, v)': the formula's two steps. -/
theorem append_one (el : El P t e z bytes) (h : Own w base e l xs) {v : Value} (hv : v.oneCell' = true)
    (hm : xs.length + 1 ≤ maxLen) (hb : (xs.length + 1) * bytes ≤ 140737488355328) (hbase : base ≤ w.heap.size) {w2 : World} (hw2 : w2 = w.alloc (.cells #[v] e)) :
    ∃ w' l', (Builtin.append_ #[t, t] t #[.slice l.a l.len l.cap, .slice (some ⟨w.heap.size, 0, none⟩) 1 1]).run P w2 = .ok (.slice l'.a l'.len l'.cap) w' ∧ Own w' base e l' (xs ++ [v]) ∧
      Fr (fun k => ∃ y, l.a = some y ∧ k = y.block) w w' := by
  subst hw2
  have h2 : Own (w.alloc (.cells #[v] e)) base e l xs := h.keep (.alloc (fun _ => False) _ _) (by simp)
  obtain ⟨w', l', hr, ho, hf⟩ := append_run el h2 ⟨w.heap.size, 0, none⟩ 1 [v] (fun j u hu => by
      cases j with
      | zero => simp at hu; subst hu; rw [add_lit, cell_blk (alloc_new w _)]; rfl
      | succ j => simp at hu) (by simpa using hv) (by simpa using hm) (by simpa using hb) (by simp; omega)
  exact ⟨w', l', hr, ho, (Fr.alloc _ _ _).trans' hf⟩
/-- 'append(out, xs...)'. -/
theorem append_all (el : El P t e z bytes) (h : Own w base e l xs) {src : Option Addr} (c : Nat) {news : List Value} (hr : Reads w src news) (h1 : ∀ u ∈ news, u.oneCell' = true)
    (hm : xs.length + news.length ≤ maxLen) (hb : (xs.length + news.length) * bytes ≤ 140737488355328) (hbase : base ≤ w.heap.size) {m : Nat} (hlen : news.length = m) :
    ∃ w' l', (Builtin.append_ #[t, t] t #[.slice l.a l.len l.cap, .slice src m c]).run P w = .ok (.slice l'.a l'.len l'.cap) w' ∧ Own w' base e l' (xs ++ news) ∧
      Fr (fun k => ∃ y, l.a = some y ∧ k = y.block) w w' := by
  subst hlen
  cases src with
  | some x => exact append_run el h x c news (fun j u hu => by obtain ⟨y, hy, hc⟩ := hr j u hu; cases hy; exact hc) h1 hm hb hbase
  | none =>
    have hn : news = [] := by
      cases news with
      | nil => rfl
      | cons v r => obtain ⟨y, hy, _⟩ := hr 0 v rfl; cases hy
    subst hn
    refine ⟨w, l, ?_, by simpa using h, .refl _ _⟩
    obtain ⟨i, hi, hi2⟩ := Option.map_eq_some_iff.1 el.info
    have hcap : l.len ≤ l.cap := by
      rcases h.2 with ⟨_, h2, h3⟩ | ⟨_, _, _, _, _, hl, _⟩
      · omega
      · exact hl
    cases ha : l.a <;> simp [Builtin.append_, run_underlying el.sl, Go.sizeOf, typeInfo, hi, Builtin.lenOf, Builtin.firstCells, hcap, storeCells]
end

/-- One element set. -/
theorem Own.set {w : World} {base : Nat} {e : TypeId} {l : Sl} {xs : List Value} (h : Own w base e l xs) {i : Nat} (hi : i < xs.length) :
    ∃ x, l.a = some x ∧ w.cell? (x.add i) = some xs[i] ∧ Wr w (x.add i) ∧ ∀ v, Own (w.setCell (x.add i) v) base e l (xs.set i v) ∧ Fr (fun k => ∃ y, l.a = some y ∧ k = y.block) w (w.setCell (x.add i) v) := by
  obtain ⟨x, hx, hc⟩ := h.reads.at hi
  rcases h.2 with ⟨_, h2, _⟩ | ⟨g, cur, ha, hb, hg, hl, hm, hs, ht⟩
  · have := h.1; omega
  · rw [ha] at hx; cases hx
    refine ⟨_, ha, hc, ?_, fun v => ⟨⟨by simpa using h.1, .inr ⟨g, cur.setIfInBounds i v, ha, hb, ?_, hl, hm, by simpa using hs, ?_⟩⟩, .set _ _ _ ⟨_, ha, add_block _ _⟩⟩⟩
    · rw [add_lit]; exact wr_blk hg (by have := h.1; omega)
    · rw [add_lit, Nat.zero_add]; exact set_blk hg i v
    · rw [Array.toList_setIfInBounds, List.take_set, ht]

/-- A part of a slice: what is read through it. -/
theorem Reads.sub {w : World} {a : Option Addr} {xs : List Value} (h : Reads w a xs) {cap : Nat} (hc : xs.length ≤ cap) (k : Nat) : Reads w (subA a cap k 1) (xs.drop k) := by
  unfold subA
  split
  · rw [List.drop_eq_nil_of_le (by omega)]; exact .nil _ _
  · cases a with
    | none => 
      have : xs = [] := by
        cases xs with
        | nil => rfl
        | cons v r => obtain ⟨y, hy, _⟩ := h 0 v rfl; cases hy
      subst this; simpa using Reads.nil w _
    | some x => rw [Option.map_some, Nat.mul_one]; exact h.drop k
theorem Own.cap {w : World} {base : Nat} {e : TypeId} {l : Sl} {xs : List Value} (h : Own w base e l xs) : l.len ≤ l.cap := by
  rcases h.2 with ⟨_, h2, h3⟩ | ⟨_, _, _, _, _, hl, _⟩
  · omega
  · exact hl

/-- A slice of structs of m cells each that came in. -/
def IsRows (m : Nat) (Q : List Value → Prop) (w : World) (a : Option Addr) (len : Nat) : Prop :=
  ∀ i, i < len → ∃ x vs, a = some x ∧ vs.length = m ∧ Q vs ∧ ∀ j v, vs[j]? = some v → w.cell? (x.add (i * m + j)) = some v
theorem IsRows.at {m : Nat} {Q : List Value → Prop} {w w1 : World} {a : Option Addr} {len : Nat} (h : IsRows m Q w a len) {i : Nat} (hi : i < len) (hf : Fr (fun b => w.heap.size ≤ b) w w1) :
    ∃ x vs, a = some x ∧ vs.length = m ∧ Q vs ∧ ∀ j v, vs[j]? = some v → w1.cell? ((x.add (i * m)).add j) = some v := by
  obtain ⟨x, vs, ha, hl, hq, hc⟩ := h i hi
  refine ⟨x, vs, ha, hl, hq, fun j v hv => ?_⟩
  have h1 := hc j v hv
  have hlt := World.block_lt_of_cell? w _ h1
  rw [add_add]
  exact hf.cell h1 (by simpa using hlt)
theorem load_agg {P : Program} {t : TypeId} {vs : List Value} {w : World} {a : Addr} (hu : ∀ w, (isAgg t).run P w = .ok true w) (hi : (P.info? t).map (·.size) = some vs.length)
    (hc : ∀ k v, vs[k]? = some v → w.cell? (a.add k) = some v) : (loadVar t a).run P w = .ok (.agg vs.toArray) w := by
  obtain ⟨ie, hie, hs⟩ := Option.map_eq_some_iff.1 hi
  have := run_loadCells_list (P := P) w a vs hc
  simp [loadVar, hu, Go.sizeOf, typeInfo, hie, hs, this, Result.andThen]
def aggB (P : Program) (t : TypeId) : Bool := match P.underlying t with
  | some (.struct _) => true
  | some (.array _ _) => true
  | _ => false
theorem agg_of {P : Program} {t : TypeId} (h : aggB P t = true) (w : World) : (isAgg t).run P w = .ok true w := by
  unfold aggB at h
  split at h
  · rename_i h1; simp [isAgg, run_underlying h1]
  · rename_i h1; simp [isAgg, run_underlying h1]
  · cases h

theorem push_all : ∀ (bs : List UInt8) (s : ByteArray), (bs.map fun b => ((b.toNat : Nat) : Int)).foldl (fun r n => r.push (UInt8.ofNat n.toNat)) s = ⟨s.data ++ bs.toArray⟩
  | [], s => by simp
  | b :: r, s => by
    simp only [List.map_cons, List.foldl_cons]
    rw [push_all r]
    have : UInt8.ofNat ((b.toNat : Nat) : Int).toNat = b := by simp
    rw [this]
    show (⟨s.data.push b ++ r.toArray⟩ : ByteArray) = _
    congr 1
    apply Array.ext'
    simp
abbrev byteV (bs : List UInt8) : List Value := bs.map fun b => .int .u8 ((b.toNat : Nat) : Int)
/-- 'string(b)'. -/
theorem bytes_str {P : Program} {t e d : TypeId} (hs : P.underlying t = some (.slice e)) (he : P.underlying e = some (.int .u8)) (hd : P.underlying d = some .string)
    {w : World} {a : Option Addr} {n : Nat} (c : Nat) {bs : List UInt8} (h : Reads w a (byteV bs)) (hn : bs.length = n) : (convert t d (.slice a n c)).run P w = .ok (.string ⟨bs.toArray⟩) w := by
  subst hn
  rw [run_convert_bytes_string w t d e a _ c hs he hd]
  cases a with
  | none =>
    have : bs = [] := by
      cases bs with
      | nil => rfl
      | cons b r => obtain ⟨y, hy, _⟩ := h 0 _ rfl; cases hy
    subst this
    simp [Conv.bytesToString]; rfl
  | some x =>
    have hl : (loadCells x bs.length).run P w = .ok ((bs.map fun b => ((b.toNat : Nat) : Int)).map (Value.int .u8)).toArray w := by
      have := run_loadCells_list (P := P) w x (byteV bs) (fun j v hv => by obtain ⟨y, hy, hc⟩ := h j v hv; cases hy; exact hc)
      rw [List.length_map] at this
      rw [this]
      simp [Function.comp_def]
    rw [run_bytesToString w x bs.length c _ hl, push_all]
    simp
end Vc

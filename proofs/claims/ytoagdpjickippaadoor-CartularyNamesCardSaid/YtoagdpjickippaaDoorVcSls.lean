/- Slices, maps from texts, and ranging over one: what is read, what a call owns, append, an element or a field set. Conditions: as named. -/
import Derived.Test.YtoagdpjickippaaDoorVcLib
import Derived.Deep.WholeRow
import Derived.Lib.AppendStr
import Derived.MapKept
import Derived.Maps.RangeRun
set_option linter.unusedVariables false
namespace Vc
open Go

/-- These values lie where the slice begins. -/
def Reads (w : World) (a : Option Addr) (xs : List Value) : Prop := ∀ i v, xs[i]? = some v → ∃ x, a = some x ∧ w.cell? (x.add i) = some v
theorem Reads.keep {w w1 : World} {a : Option Addr} {xs : List Value} (h : Reads w a xs) {X : Nat → Prop} (hf : Fr X w w1) (hx : ∀ x, a = some x → ¬ X x.block) : Reads w1 a xs := fun i v hv => by
  obtain ⟨x, ha, hc⟩ := h i v hv
  exact ⟨x, ha, hf.cell hc (by rw [add_block]; exact hx x ha)⟩
theorem Reads.nil (w : World) (a : Option Addr) : Reads w a [] := fun i v h => by simp at h
theorem Reads.lt {w : World} {a : Option Addr} {xs : List Value} (h : Reads w a xs) (hn : xs ≠ []) : ∃ x, a = some x ∧ x.block < w.heap.size := by
  cases xs with
  | nil => exact absurd rfl hn
  | cons v r =>
    obtain ⟨x, ha, hc⟩ := h 0 v rfl
    exact ⟨x, ha, by simpa [add_block] using World.block_lt_of_cell? w _ hc⟩
theorem add_add (x : Addr) (i j : Nat) : (x.add i).add j = x.add (i + j) := by
  unfold Addr.add
  by_cases hi : i = 0 <;> by_cases hj : j = 0 <;> simp [hi, hj, Nat.add_assoc]
theorem Reads.drop {w : World} {x : Addr} {xs : List Value} (h : Reads w (some x) xs) (k : Nat) : Reads w (some (x.add k)) (xs.drop k) := fun i v hv => by
  rw [List.getElem?_drop] at hv
  obtain ⟨y, hy, hc⟩ := h _ _ hv
  cases hy
  exact ⟨_, rfl, by rw [add_add]; exact hc⟩
theorem Reads.take {w : World} {a : Option Addr} {xs : List Value} (h : Reads w a xs) (k : Nat) : Reads w a (xs.take k) := fun i v hv => by
  rw [List.getElem?_take] at hv
  split at hv
  · exact h i v hv
  · cases hv
theorem Reads.at {w : World} {a : Option Addr} {xs : List Value} (h : Reads w a xs) {i : Nat} (hi : i < xs.length) : ∃ x, a = some x ∧ w.cell? (x.add i) = some xs[i] := h i _ (by simp [hi])
/-- What came in as integers. -/
theorem IsRow.reads {k : IntKind} {w : World} {a : Option Addr} {len cap : Nat} {zs : List Int} (h : IsRow k w a len cap zs) : Reads w a ((zs.take len).map (.int k)) ∧ ((zs.take len).map (Value.int k)).length = len ∧ ∀ z ∈ zs.take len, (Lit.int k z).wf = true := by
  rcases h with ⟨rfl, rfl, rfl, rfl⟩ | ⟨x, rfl, hl, _, hz, hc, hw⟩
  · exact ⟨.nil _ _, rfl, by simp⟩
  · refine ⟨fun i v hv => ⟨x, rfl, ?_⟩, by simp; omega, fun z hz => hw z (List.mem_of_mem_take hz)⟩
    rw [List.getElem?_map, List.getElem?_take] at hv
    split at hv
    · rename_i hi
      rw [hc i (by omega)]
      simp only [List.getElem?_eq_getElem (show i < zs.length by omega), Option.map_some, Option.some.injEq] at hv
      rw [← hv, List.getD_eq_getElem?_getD, List.getElem?_eq_getElem (show i < zs.length by omega)]
      rfl
    · cases hv
theorem wf_i64 {z : Int} (h : (Lit.int .i64 z).wf = true) : -9223372036854775808 ≤ z ∧ z ≤ 9223372036854775807 := by
  simp [Lit.wf, IntKind.min, IntKind.max, IntKind.signed, IntKind.bits] at h; omega
theorem wf_u32 {z : Int} (h : (Lit.int .u32 z).wf = true) : 0 ≤ z ∧ z ≤ 4294967295 := by
  simp [Lit.wf, IntKind.min, IntKind.max, IntKind.signed, IntKind.bits] at h; omega
theorem wf_u8 {z : Int} (h : (Lit.int .u8 z).wf = true) : 0 ≤ z ∧ z ≤ 255 := by
  simp [Lit.wf, IntKind.min, IntKind.max, IntKind.signed, IntKind.bits] at h; omega

/-- A slice of the call's own, from block 'base' on: its cells' values. -/
def Own (w : World) (base : Nat) (e : TypeId) (l : Sl) (xs : List Value) : Prop :=
  xs.length = l.len ∧ ((l.a = none ∧ l.len = 0 ∧ l.cap = 0) ∨
    ∃ g cur, l.a = some ⟨g, 0, none⟩ ∧ base ≤ g ∧ w.heap[g]? = some (.cells cur e (0, 0)) ∧ l.len ≤ l.cap ∧ l.cap ≤ maxLen ∧ cur.size = l.cap ∧ cur.toList.take l.len = xs)
section
variable {w w1 : World} {base : Nat} {e : TypeId} {l : Sl} {xs : List Value}
theorem Own.toRow (h : Own w base e l xs) : w.ownsRow base e 1 (.slice l.a l.len l.cap) l.len xs := by
  obtain ⟨h1, h2⟩ := h
  refine ⟨by omega, ?_⟩
  rcases h2 with ⟨a, b, c⟩ | ⟨g, cur, ha, hb, hg, hl, hm, hs, ht⟩
  · exact .inl ⟨by rw [a, b, c], b⟩
  · exact .inr ⟨g, l.cap, cur, by rw [ha], hb, hg, hl, hm, by omega, by rw [Nat.mul_one]; exact ht⟩
theorem Own.ofRow {a : Option Addr} {n c m : Nat} (h : w.ownsRow base e 1 (.slice a n c) m xs) : Own w base e ⟨a, n, c⟩ xs ∧ n = m := by
  obtain ⟨h1, h2⟩ := h
  rcases h2 with ⟨h2, h3⟩ | ⟨g, cap, cur, hv, hb, hg, hl, hm, hs, ht⟩
  · simp only [Value.slice.injEq] at h2
    obtain ⟨rfl, rfl, rfl⟩ := h2
    exact ⟨⟨by simp only; omega, .inl ⟨rfl, rfl, rfl⟩⟩, h3.symm⟩
  · simp only [Value.slice.injEq] at hv
    obtain ⟨rfl, rfl, rfl⟩ := hv
    exact ⟨⟨by simp only; omega, .inr ⟨g, cur, rfl, hb, hg, hl, hm, by simp only; omega, by simpa using ht⟩⟩, rfl⟩
theorem Own.nil (w : World) (base : Nat) (e : TypeId) : Own w base e ⟨none, 0, 0⟩ [] := ⟨rfl, .inl ⟨rfl, rfl, rfl⟩⟩
theorem Own.len (h : Own w base e l xs) : l.len = xs.length := h.1.symm
theorem Own.blk (h : Own w base e l xs) {x : Addr} (hx : l.a = some x) : base ≤ x.block ∧ x.block < w.heap.size := by
  rcases h.2 with ⟨ha, _⟩ | ⟨g, cur, ha, hb, hg, _⟩
  · rw [ha] at hx; cases hx
  · rw [ha] at hx; cases hx; exact ⟨hb, lt_blk hg⟩
theorem Own.keep (h : Own w base e l xs) {X : Nat → Prop} (hf : Fr X w w1) (hx : ∀ x, l.a = some x → ¬ X x.block) : Own w1 base e l xs := by
  refine ⟨h.1, ?_⟩
  rcases h.2 with hn | ⟨g, cur, ha, hb, hg, r⟩
  · exact .inl hn
  · exact .inr ⟨g, cur, ha, hb, hf.keep hg (hx _ ha), r⟩
theorem Own.mono (h : Own w base e l xs) {b : Nat} (hb : b ≤ base) : Own w b e l xs := by
  refine ⟨h.1, ?_⟩
  rcases h.2 with hn | ⟨g, cur, ha, hb', r⟩
  · exact .inl hn
  · exact .inr ⟨g, cur, ha, by omega, r⟩
theorem Own.drew (h : Own w base e l xs) (d : Drew w w1) : Own w1 base e l xs := h.keep (.drew (fun _ => False) d) (by simp)
theorem add_lit (b o n : Nat) : Addr.add ⟨b, o, none⟩ n = ⟨b, o + n, none⟩ := by
  unfold Addr.add; split
  · subst_vars; rfl
  · rfl
theorem Own.reads (h : Own w base e l xs) : Reads w l.a xs := fun i v hv => by
  rcases h.2 with ⟨_, h2, _⟩ | ⟨g, cur, ha, hb, hg, hl, hm, hs, ht⟩
  · have h1 := h.1
    rw [h2] at h1
    rw [List.length_eq_zero_iff.1 h1] at hv; simp at hv
  · refine ⟨_, ha, ?_⟩
    rw [add_lit, cell_blk hg, Nat.zero_add]
    rw [← ht, List.getElem?_take] at hv
    split at hv
    · simpa using hv
    · cases hv
end

/-- An element type of one cell. -/
structure El (P : Program) (t e : TypeId) (z : Value) (bytes : Nat) : Prop where
  sl : P.underlying t = some (.slice e)
  info : (P.info? e).map (fun i => (i.zero, i.size, i.bytes)) = some (some z, 1, bytes)
  one : z.cells.size = 1
section
variable {P : Program} {t e : TypeId} {z : Value} {bytes : Nat} {w : World} {base : Nat} {l : Sl} {xs : List Value}
/-- Values that a cell takes. -/
def Cell1 (v : Value) : Prop := v.oneCell' = true

theorem append_run (el : El P t e z bytes) (h : Own w base e l xs) (x : Addr) (c : Nat) (news : List Value) (hn : ∀ j u, news[j]? = some u → w.cell? (x.add j) = some u) (h1 : ∀ u ∈ news, u.oneCell' = true)
    (hm : xs.length + news.length ≤ maxLen) (hb : (xs.length + news.length) * bytes ≤ 140737488355328) (hbase : base ≤ w.heap.size) :
    ∃ w' l', (Builtin.append_ #[t, t] t #[.slice l.a l.len l.cap, .slice (some x) news.length c]).run P w = .ok (.slice l'.a l'.len l'.cap) w' ∧ Own w' base e l' (xs ++ news) ∧
      Fr (fun k => ∃ y, l.a = some y ∧ k = y.block) w w' := by
  obtain ⟨i, hi, hi2⟩ := Option.map_eq_some_iff.1 el.info
  simp only [Prod.mk.injEq] at hi2
  obtain ⟨v', w', hr, ho, hg, _⟩ := run_append_own (P := P) w base t t e i z 1 bytes el.sl hi hi2.1 hi2.2.1 hi2.2.2 el.one (by decide) (.slice l.a l.len l.cap) l.len xs h.toRow x news.length c news (by omega) hn h1
    (by rw [h.len]; exact hm) (by rw [h.len]; exact hb) hbase
  have hfr : Fr (fun k => ∃ y, l.a = some y ∧ k = y.block) w w' := (Fr.grown hg).mono fun k _ hk => by
    cases ha : l.a with
    | none => simp [Value.ownBlock, ha] at hk
    | some y => simp [Value.ownBlock, ha] at hk; exact ⟨y, rfl, hk⟩
  have hshape : ∃ a n c, v' = .slice a n c := by
    rcases ho.2 with ⟨h, _⟩ | ⟨g, cap, cur, h, _⟩
    · exact ⟨_, _, _, h⟩
    · exact ⟨_, _, _, h⟩
  obtain ⟨a, n, c', rfl⟩ := hshape
  exact ⟨w', ⟨a, n, c'⟩, hr, (Own.ofRow ho).1, hfr⟩

/-- 'out = append(out, v)': the formula's two steps. -/
theorem append_one (el : El P t e z bytes) (h : Own w base e l xs) {v : Value} (hv : v.oneCell' = true)
    (hm : xs.length + 1 ≤ maxLen) (hb : (xs.length + 1) * bytes ≤ 140737488355328) (hbase : base ≤ w.heap.size) {w2 : World} (hw2 : w2 = w.alloc (.cells #[v] e)) :
    ∃ w' l', (Builtin.append_ #[t, t] t #[.slice l.a l.len l.cap, .slice (some ⟨w.heap.size, 0, none⟩) 1 1]).run P w2 = .ok (.slice l'.a l'.len l'.cap) w' ∧ Own w' base e l' (xs ++ [v]) ∧
      Fr (fun k => ∃ y, l.a = some y ∧ k = y.block) w w' := by
  subst hw2
  have h2 : Own (w.alloc (.cells #[v] e)) base e l xs := h.keep (.alloc (fun _ => False) _ _) (by simp)
  obtain ⟨w', l', hr, ho, hf⟩ := append_run el h2 ⟨w.heap.size, 0, none⟩ 1 [v] (fun j u hu => by
      cases j with
      | zero => simp at hu; subst hu; rw [add_lit, cell_blk (alloc_new w _)]; rfl
      | succ j => simp at hu) (by simpa using hv) (by simpa using hm) (by simpa using hb) (by simp; omega)
  exact ⟨w', l', hr, ho, (Fr.alloc _ _ _).trans' hf⟩
/-- 'append(out, xs...)'. -/
theorem append_all (el : El P t e z bytes) (h : Own w base e l xs) {src : Option Addr} (c : Nat) {news : List Value} (hr : Reads w src news) (h1 : ∀ u ∈ news, u.oneCell' = true)
    (hm : xs.length + news.length ≤ maxLen) (hb : (xs.length + news.length) * bytes ≤ 140737488355328) (hbase : base ≤ w.heap.size) {m : Nat} (hlen : news.length = m) :
    ∃ w' l', (Builtin.append_ #[t, t] t #[.slice l.a l.len l.cap, .slice src m c]).run P w = .ok (.slice l'.a l'.len l'.cap) w' ∧ Own w' base e l' (xs ++ news) ∧
      Fr (fun k => ∃ y, l.a = some y ∧ k = y.block) w w' := by
  subst hlen
  cases src with
  | some x => exact append_run el h x c news (fun j u hu => by obtain ⟨y, hy, hc⟩ := hr j u hu; cases hy; exact hc) h1 hm hb hbase
  | none =>
    have hn : news = [] := by
      cases news with
      | nil => rfl
      | cons v r => obtain ⟨y, hy, _⟩ := hr 0 v rfl; cases hy
    subst hn
    refine ⟨w, l, ?_, by simpa using h, .refl _ _⟩
    obtain ⟨i, hi, hi2⟩ := Option.map_eq_some_iff.1 el.info
    have hcap : l.len ≤ l.cap := by
      rcases h.2 with ⟨_, h2, h3⟩ | ⟨_, _, _, _, _, hl, _⟩
      · omega
      · exact hl
    cases ha : l.a <;> simp [Builtin.append_, run_underlying el.sl, Go.sizeOf, typeInfo, hi, Builtin.lenOf, Builtin.firstCells, hcap, storeCells]
end

/-- One element set. -/
theorem Own.set {w : World} {base : Nat} {e : TypeId} {l : Sl} {xs : List Value} (h : Own w base e l xs) {i : Nat} (hi : i < xs.length) :
    ∃ x, l.a = some x ∧ w.cell? (x.add i) = some xs[i] ∧ Wr w (x.add i) ∧ ∀ v, Own (w.setCell (x.add i) v) base e l (xs.set i v) ∧ Fr (fun k => ∃ y, l.a = some y ∧ k = y.block) w (w.setCell (x.add i) v) := by
  obtain ⟨x, hx, hc⟩ := h.reads.at hi
  rcases h.2 with ⟨_, h2, _⟩ | ⟨g, cur, ha, hb, hg, hl, hm, hs, ht⟩
  · have := h.1; omega
  · rw [ha] at hx; cases hx
    refine ⟨_, ha, hc, ?_, fun v => ⟨⟨by simpa using h.1, .inr ⟨g, cur.setIfInBounds i v, ha, hb, ?_, hl, hm, by simpa using hs, ?_⟩⟩, .set _ _ _ ⟨_, ha, add_block _ _⟩⟩⟩
    · rw [add_lit]; exact wr_blk hg (by have := h.1; omega)
    · rw [add_lit, Nat.zero_add]; exact set_blk hg i v
    · rw [Array.toList_setIfInBounds, List.take_set, ht]

/-- A part of a slice: what is read through it. -/
theorem Reads.sub {w : World} {a : Option Addr} {xs : List Value} (h : Reads w a xs) {cap : Nat} (hc : xs.length ≤ cap) (k : Nat) : Reads w (subA a cap k 1) (xs.drop k) := by
  unfold subA
  split
  · rw [List.drop_eq_nil_of_le (by omega)]; exact .nil _ _
  · cases a with
    | none => 
      have : xs = [] := by
        cases xs with
        | nil => rfl
        | cons v r => obtain ⟨y, hy, _⟩ := h 0 v rfl; cases hy
      subst this; simpa using Reads.nil w _
    | some x => rw [Option.map_some, Nat.mul_one]; exact h.drop k
theorem Own.cap {w : World} {base : Nat} {e : TypeId} {l : Sl} {xs : List Value} (h : Own w base e l xs) : l.len ≤ l.cap := by
  rcases h.2 with ⟨_, h2, h3⟩ | ⟨_, _, _, _, _, hl, _⟩
  · omega
  · exact hl

/-- A slice of structs of m cells each that came in. -/
def IsRows (m : Nat) (Q : List Value → Prop) (w : World) (a : Option Addr) (len : Nat) : Prop :=
  ∀ i, i < len → ∃ x vs, a = some x ∧ vs.length = m ∧ Q vs ∧ ∀ j v, vs[j]? = some v → w.cell? (x.add (i * m + j)) = some v
theorem IsRows.at {m : Nat} {Q : List Value → Prop} {w w1 : World} {a : Option Addr} {len : Nat} (h : IsRows m Q w a len) {i : Nat} (hi : i < len) (hf : Fr (fun b => w.heap.size ≤ b) w w1) :
    ∃ x vs, a = some x ∧ vs.length = m ∧ Q vs ∧ ∀ j v, vs[j]? = some v → w1.cell? ((x.add (i * m)).add j) = some v := by
  obtain ⟨x, vs, ha, hl, hq, hc⟩ := h i hi
  refine ⟨x, vs, ha, hl, hq, fun j v hv => ?_⟩
  have h1 := hc j v hv
  have hlt := World.block_lt_of_cell? w _ h1
  rw [add_add]
  exact hf.cell h1 (by simpa using hlt)
theorem load_agg {P : Program} {t : TypeId} {vs : List Value} {w : World} {a : Addr} (hu : ∀ w, (isAgg t).run P w = .ok true w) (hi : (P.info? t).map (·.size) = some vs.length)
    (hc : ∀ k v, vs[k]? = some v → w.cell? (a.add k) = some v) : (loadVar t a).run P w = .ok (.agg vs.toArray) w := by
  obtain ⟨ie, hie, hs⟩ := Option.map_eq_some_iff.1 hi
  have := run_loadCells_list (P := P) w a vs hc
  simp [loadVar, hu, Go.sizeOf, typeInfo, hie, hs, this, Result.andThen]
def aggB (P : Program) (t : TypeId) : Bool := match P.underlying t with
  | some (.struct _) => true
  | some (.array _ _) => true
  | _ => false
theorem agg_of {P : Program} {t : TypeId} (h : aggB P t = true) (w : World) : (isAgg t).run P w = .ok true w := by
  unfold aggB at h
  split at h
  · rename_i h1; simp [isAgg, run_underlying h1]
  · rename_i h1; simp [isAgg, run_underlying h1]
  · cases h

theorem push_all : ∀ (bs : List UInt8) (s : ByteArray), (bs.map fun b => ((b.toNat : Nat) : Int)).foldl (fun r n => r.push (UInt8.ofNat n.toNat)) s = ⟨s.data ++ bs.toArray⟩
  | [], s => by simp
  | b :: r, s => by
    simp only [List.map_cons, List.foldl_cons]
    rw [push_all r]
    have : UInt8.ofNat ((b.toNat : Nat) : Int).toNat = b := by simp
    rw [this]
    show (⟨s.data.push b ++ r.toArray⟩ : ByteArray) = _
    congr 1
    apply Array.ext'
    simp
abbrev byteV (bs : List UInt8) : List Value := bs.map fun b => .int .u8 ((b.toNat : Nat) : Int)
theorem byteV_snoc (l : List UInt8) (c : Nat) (h : c < 256) : byteV l ++ [.int .u8 (c : Int)] = byteV (l ++ [UInt8.ofNat c]) := by
  simp [byteV]
  omega
/-- 'string(b)'. -/
theorem bytes_str {P : Program} {t e d : TypeId} (hs : P.underlying t = some (.slice e)) (he : P.underlying e = some (.int .u8)) (hd : P.underlying d = some .string)
    {w : World} {a : Option Addr} {n : Nat} (c : Nat) {bs : List UInt8} (h : Reads w a (byteV bs)) (hn : bs.length = n) : (convert t d (.slice a n c)).run P w = .ok (.string ⟨bs.toArray⟩) w := by
  subst hn
  rw [run_convert_bytes_string w t d e a _ c hs he hd]
  cases a with
  | none =>
    have : bs = [] := by
      cases bs with
      | nil => rfl
      | cons b r => obtain ⟨y, hy, _⟩ := h 0 _ rfl; cases hy
    subst this
    simp [Conv.bytesToString]; rfl
  | some x =>
    have hl : (loadCells x bs.length).run P w = .ok ((bs.map fun b => ((b.toNat : Nat) : Int)).map (Value.int .u8)).toArray w := by
      have := run_loadCells_list (P := P) w x (byteV bs) (fun j v hv => by obtain ⟨y, hy, hc⟩ := h j v hv; cases hy; exact hc)
      rw [List.length_map] at this
      rw [this]
      simp [Function.comp_def]
    rw [run_bytesToString w x bs.length c _ hl, push_all]
    simp
end Vc
namespace Vc
open Go Go.Lib

/-- The second slice lies where the first one lay, or in a block that is new. -/
def Since (w : World) (l l' : Sl) : Prop := ∀ y, l'.a = some y → (∃ x, l.a = some x ∧ x.block = y.block) ∨ w.heap.size ≤ y.block
theorem Since.refl (w : World) (l : Sl) : Since w l l := fun y hy => .inl ⟨y, hy, rfl⟩
theorem Since.trans {w w' : World} {l l' l'' : Sl} (h : Since w l l') (h' : Since w' l' l'') (hs : w.heap.size ≤ w'.heap.size) : Since w l l'' := fun y hy => by
  rcases h' y hy with ⟨x, hx, hb⟩ | hn
  · rcases h x hx with ⟨z, hz, hb'⟩ | hn
    · exact .inl ⟨z, hz, hb'.trans hb⟩
    · exact .inr (by omega)
  · exact .inr (by omega)
/-- A block that is not the first one's and was there is not the second one's. -/
theorem Since.ne {w : World} {l l' : Sl} (h : Since w l l') {k : Nat} (hk : k < w.heap.size) (hn : ∀ x, l.a = some x → x.block ≠ k) : ∀ y, l'.a = some y → y.block ≠ k := fun y hy => by
  rcases h y hy with ⟨x, hx, hb⟩ | h
  · have := hn x hx; omega
  · omega
/-- The slice's own block. -/
def At (l : Sl) (k : Nat) : Prop := ∃ y, l.a = some y ∧ k = y.block

section
variable {P : Program} {t e : TypeId} {z : Value} {bytes : Nat} {w : World} {base : Nat} {l : Sl} {xs : List Value}
theorem since_run (el : El P t e z bytes) (h : Own w base e l xs) (x : Addr) (c : Nat) (news : List Value) (hn : ∀ j u, news[j]? = some u → w.cell? (x.add j) = some u) (h1 : ∀ u ∈ news, u.oneCell' = true)
    (hm : xs.length + news.length ≤ maxLen) (hb : (xs.length + news.length) * bytes ≤ 140737488355328)
    {l' : Sl} {w' : World} (hr : (Builtin.append_ #[t, t] t #[.slice l.a l.len l.cap, .slice (some x) news.length c]).run P w = .ok (.slice l'.a l'.len l'.cap) w') : Since w l l' := by
  obtain ⟨i, hi, hi2⟩ := Option.map_eq_some_iff.1 el.info
  simp only [Prod.mk.injEq] at hi2
  obtain ⟨hz, hs1, hby⟩ := hi2
  have hlen := h.1
  rcases h.2 with ⟨ha, hl0, hc0⟩ | ⟨g, cur, ha, hbg, hg, hl, hmx, hs, ht⟩
  · obtain ⟨w2, l2, hr2, ho2, _⟩ := append_run (w := w) (base := w.heap.size) (l := l) (xs := xs) el ⟨hlen, .inl ⟨ha, hl0, hc0⟩⟩ x c news hn h1 hm hb (Nat.le_refl _)
    rw [hr2] at hr
    simp only [Result.ok.injEq, Value.slice.injEq] at hr
    obtain ⟨⟨e1, _, _⟩, rfl⟩ := hr
    intro y hy
    exact .inr (ho2.blk (by rw [e1]; exact hy)).1
  · have hms : maxLen = 140737488355328 ∨ True := .inr trivial
    unfold maxLen at hm
    by_cases hroom : l.len + news.length ≤ l.cap
    · have hr2 := run_append_room (P := P) w t t e i el.sl hi g l.len l.cap cur hg x news.length c news (by rw [hs1]; omega) hn h1 hroom (by rw [hs1]; omega)
      rw [← ha] at hr2
      rw [hr2] at hr
      simp only [Result.ok.injEq, Value.slice.injEq] at hr
      intro y hy
      refine .inl ⟨y, ?_, rfl⟩
      rw [hr.1.1]; exact hy
    · have holds : ∀ j u, xs[j]? = some u → w.cell? ((⟨g, 0, none⟩ : Addr).add j) = some u := fun j u hu => by
        obtain ⟨q, hq, hc⟩ := h.reads j u hu
        rw [ha] at hq; cases hq; exact hc
      have hr2 := run_append_grow (P := P) w t t e i z el.sl hi hz ⟨g, 0, none⟩ l.len l.cap xs (by rw [hs1]; omega) holds x news.length c news (by rw [hs1]; omega) hn (by omega) (by omega) (growslice_fits (by omega) (by rw [hby, ← hlen]; exact hb))
      rw [← ha] at hr2
      rw [hr2] at hr
      simp only [Result.ok.injEq, Value.slice.injEq] at hr
      intro y hy
      rw [← hr.1.1] at hy
      cases hy
      exact .inr (Nat.le_refl _)
theorem append_one' (el : El P t e z bytes) (h : Own w base e l xs) {v : Value} (hv : v.oneCell' = true)
    (hm : xs.length + 1 ≤ maxLen) (hb : (xs.length + 1) * bytes ≤ 140737488355328) (hbase : base ≤ w.heap.size) {w2 : World} (hw2 : w2 = w.alloc (.cells #[v] e)) :
    ∃ w' l', (Builtin.append_ #[t, t] t #[.slice l.a l.len l.cap, .slice (some ⟨w.heap.size, 0, none⟩) 1 1]).run P w2 = .ok (.slice l'.a l'.len l'.cap) w' ∧ Own w' base e l' (xs ++ [v]) ∧
      Fr (At l) w w' ∧ Since w l l' := by
  obtain ⟨w', l', hr, ho, hf⟩ := append_one el h hv hm hb hbase hw2
  refine ⟨w', l', hr, ho, hf, ?_⟩
  subst hw2
  have h2 : Own (w.alloc (.cells #[v] e)) base e l xs := h.keep (.alloc (fun _ => False) _ _) (by simp)
  have := since_run el h2 ⟨w.heap.size, 0, none⟩ 1 [v] (fun j u hu => by
      cases j with
      | zero => simp at hu; subst hu; rw [add_lit, cell_blk (alloc_new w _)]; rfl
      | succ j => simp at hu) (by simpa using hv) (by simpa using hm) (by simpa using hb) (l' := l') (w' := w') hr
  intro y hy
  rcases this y hy with hx | hn
  · exact .inl hx
  · simp only [World.alloc, Array.size_push] at hn
    exact .inr (by omega)
theorem append_all' (el : El P t e z bytes) (h : Own w base e l xs) {src : Option Addr} (c : Nat) {news : List Value} (hr : Reads w src news) (h1 : ∀ u ∈ news, u.oneCell' = true)
    (hm : xs.length + news.length ≤ maxLen) (hb : (xs.length + news.length) * bytes ≤ 140737488355328) (hbase : base ≤ w.heap.size) {m : Nat} (hlen : news.length = m) :
    ∃ w' l', (Builtin.append_ #[t, t] t #[.slice l.a l.len l.cap, .slice src m c]).run P w = .ok (.slice l'.a l'.len l'.cap) w' ∧ Own w' base e l' (xs ++ news) ∧
      Fr (At l) w w' ∧ Since w l l' := by
  cases src with
  | some x =>
    subst hlen
    have hn : ∀ j u, news[j]? = some u → w.cell? (x.add j) = some u := fun j u hu => by obtain ⟨y, hy, hc⟩ := hr j u hu; cases hy; exact hc
    obtain ⟨w', l', h2, ho, hf⟩ := append_run el h x c news hn h1 hm hb hbase
    exact ⟨w', l', h2, ho, hf, since_run el h x c news hn h1 hm hb h2⟩
  | none =>
    have hn : news = [] := by
      cases news with
      | nil => rfl
      | cons v r => obtain ⟨y, hy, _⟩ := hr 0 v rfl; cases hy
    subst hn
    subst hlen
    refine ⟨w, l, ?_, by simpa using h, .refl _ _, .refl _ _⟩
    obtain ⟨i, hi, hi2⟩ := Option.map_eq_some_iff.1 el.info
    have hcap := h.cap
    cases ha : l.a <;> simp [Builtin.append_, run_underlying el.sl, Go.sizeOf, typeInfo, hi, Builtin.lenOf, Builtin.firstCells, hcap, storeCells]
/-- 'append(out, s...)', s a string. -/
theorem append_str {u : TypeId} (el : El P t e (.int .u8 0) 1) (hu : P.underlying u = some .string) (h : Own w base e l xs) (s : ByteArray)
    (hm : xs.length + s.size ≤ 140737488355328) (hbase : base ≤ w.heap.size) :
    ∃ w' l', (Builtin.append_ #[t, u] t #[.slice l.a l.len l.cap, .string s]).run P w = .ok (.slice l'.a l'.len l'.cap) w' ∧ Own w' base e l' (xs ++ byteV s.data.toList) ∧
      Fr (At l) w w' ∧ Since w l l' := by
  obtain ⟨i, hi, hi2⟩ := Option.map_eq_some_iff.1 el.info
  simp only [Prod.mk.injEq] at hi2
  obtain ⟨hz, hs1, hby⟩ := hi2
  have hlen := h.1
  have key : ∀ b, Own w b e l xs → b ≤ w.heap.size → ∃ w' l', (Builtin.append_ #[t, u] t #[.slice l.a l.len l.cap, .string s]).run P w = .ok (.slice l'.a l'.len l'.cap) w' ∧ Own w' b e l' (xs ++ byteV s.data.toList) ∧ Fr (At l) w w' := by
    intro b h hb
    obtain ⟨v', w', hr, ho, hg, _⟩ := run_append_own_string (P := P) w b t u t e i el.sl hu hi hz hs1 hby (.slice l.a l.len l.cap) l.len xs h.toRow s (by unfold maxLen; omega) (by omega) hb
    have hshape : ∃ a n c, v' = .slice a n c := by
      rcases ho.2 with ⟨h, _⟩ | ⟨g, cap, cur, h, _⟩
      · exact ⟨_, _, _, h⟩
      · exact ⟨_, _, _, h⟩
    obtain ⟨a, n, c', rfl⟩ := hshape
    refine ⟨w', ⟨a, n, c'⟩, hr, (Own.ofRow ho).1, (Fr.grown hg).mono fun k _ hk => ?_⟩
    cases ha : l.a with
    | none => simp [Value.ownBlock, ha] at hk
    | some y => simp [Value.ownBlock, ha] at hk; exact ⟨y, ha, hk⟩
  obtain ⟨w', l', hr, ho, hf⟩ := key base h hbase
  refine ⟨w', l', hr, ho, hf, ?_⟩
  rcases h.2 with ⟨ha, hl0, hc0⟩ | ⟨g, cur, ha, hbg, hg, hl, hmx, hs, ht⟩
  · obtain ⟨w2, l2, hr2, ho2, _⟩ := key w.heap.size ⟨hlen, .inl ⟨ha, hl0, hc0⟩⟩ (Nat.le_refl _)
    rw [hr2] at hr
    simp only [Result.ok.injEq, Value.slice.injEq] at hr
    obtain ⟨⟨e1, _, _⟩, rfl⟩ := hr
    intro y hy
    exact .inr (ho2.blk (by rw [e1]; exact hy)).1
  · by_cases hroom : l.len + s.size ≤ l.cap
    · have hr2 := run_append_room_string (P := P) w t u t e i el.sl hu hi hs1 g l.len l.cap cur hg s hroom (by omega)
      rw [← ha] at hr2
      rw [hr2] at hr
      simp only [Result.ok.injEq, Value.slice.injEq] at hr
      intro y hy
      refine .inl ⟨y, ?_, rfl⟩
      rw [hr.1.1]; exact hy
    · have holds : ∀ j u, xs[j]? = some u → w.cell? ((⟨g, 0, none⟩ : Addr).add j) = some u := fun j u hu => by
        obtain ⟨q, hq, hc⟩ := h.reads j u hu
        rw [ha] at hq; cases hq; exact hc
      have hr2 := run_append_grow_string (P := P) w t u t e i (.int .u8 0) el.sl hu hi hz ⟨g, 0, none⟩ l.len l.cap xs (by rw [hs1]; omega) holds s (by omega) (by omega) (by rw [hby]; exact growslice_fits (by omega) (by omega))
      rw [← ha] at hr2
      rw [hr2] at hr
      simp only [Result.ok.injEq, Value.slice.injEq] at hr
      intro y hy
      rw [← hr.1.1] at hy
      cases hy
      exact .inr (Nat.le_refl _)
end
end Vc
namespace Vc
open Go

theorem flat_get {α : Type} {enc : α → List Value} {k : Nat} (hk : ∀ x, (enc x).length = k) : ∀ (xs : List α) (i : Nat) (x : α) (j : Nat) (v : Value), xs[i]? = some x → (enc x)[j]? = some v → (xs.flatMap enc)[i * k + j]? = some v
  | y :: r, 0, x, j, v, hx, hv => by
    simp only [List.getElem?_cons_zero, Option.some.injEq] at hx
    subst hx
    rw [List.flatMap_cons, Nat.zero_mul, Nat.zero_add, List.getElem?_append_left (List.getElem?_eq_some_iff.1 hv).1]; exact hv
  | y :: r, i + 1, x, j, v, hx, hv => by
    have := flat_get hk r i x j v (by simpa using hx) hv
    rw [List.flatMap_cons, List.getElem?_append_right (by rw [hk, Nat.succ_mul]; omega), hk, Nat.succ_mul, show i * k + k + j - k = i * k + j by omega]; exact this
  | [], i, x, j, v, hx, _ => by simp at hx
theorem flat_get' {α : Type} {enc : α → List Value} {k : Nat} (hk : ∀ x, (enc x).length = k) (h0 : 0 < k) : ∀ (xs : List α) (j : Nat) (v : Value), (xs.flatMap enc)[j]? = some v → ∃ x, xs[j / k]? = some x ∧ (enc x)[j % k]? = some v
  | [], j, v, h => by simp at h
  | y :: r, j, v, h => by
    rw [List.flatMap_cons] at h
    by_cases hj : j < k
    · rw [List.getElem?_append_left (by rw [hk]; exact hj)] at h
      exact ⟨y, by rw [Nat.div_eq_of_lt hj]; rfl, by rw [Nat.mod_eq_of_lt hj]; exact h⟩
    · rw [List.getElem?_append_right (by rw [hk]; omega), hk] at h
      obtain ⟨x, h1, h2⟩ := flat_get' hk h0 r (j - k) v h
      refine ⟨x, ?_, ?_⟩
      · rw [Nat.div_eq_sub_div h0 (by omega), List.getElem?_cons_succ]; exact h1
      · rw [Nat.mod_eq_sub_mod (by omega)]; exact h2
theorem flat_len {α : Type} {enc : α → List Value} {k : Nat} (hk : ∀ x, (enc x).length = k) : ∀ xs : List α, (xs.flatMap enc).length = xs.length * k
  | [] => by simp
  | x :: r => by rw [List.flatMap_cons, List.length_append, hk, flat_len hk r, List.length_cons, Nat.succ_mul]; omega

section
variable {α : Type} (enc : α → List Value) (k : Nat)
/-- These elements lie where the slice begins. -/
def ReadsK (w : World) (a : Option Addr) (xs : List α) : Prop := ∀ i x, xs[i]? = some x → ∃ ad, a = some ad ∧ ∀ j v, (enc x)[j]? = some v → w.cell? ((ad.add (i * k)).add j) = some v
/-- A slice of the call's own. -/
def OwnK (w : World) (base : Nat) (e : TypeId) (l : Sl) (xs : List α) : Prop := xs.length = l.len ∧ w.ownsRow base e k (.slice l.a l.len l.cap) l.len (xs.flatMap enc)
/-- What an element's type is. -/
structure ElK (P : Program) (t e : TypeId) (z : Value) (bytes : Nat) : Prop where
  sl : P.underlying t = some (.slice e)
  info : (P.info? e).map (fun i => (i.zero, i.size, i.bytes)) = some (some z, k, bytes)
  one : z.cells.size = k
  pos : 0 < k
  agg : aggB P e = true
  len : ∀ x, (enc x).length = k
  cells : ∀ x, ∀ u ∈ enc x, u.oneCell' = true
end
section
variable {α : Type} {enc : α → List Value} {k : Nat} {w w1 : World} {base : Nat} {e : TypeId} {l : Sl} {xs : List α} {a : Option Addr}
theorem ReadsK.keep (h : ReadsK enc k w a xs) {X : Nat → Prop} (hf : Fr X w w1) (hx : ∀ x, a = some x → ¬ X x.block) : ReadsK enc k w1 a xs := fun i x hi => by
  obtain ⟨ad, ha, hc⟩ := h i x hi
  exact ⟨ad, ha, fun j v hv => hf.cell (hc j v hv) (by rw [add_block, add_block]; exact hx ad ha)⟩
theorem ReadsK.nil (w : World) (a : Option Addr) : ReadsK enc k w a [] := fun i x h => by simp at h
theorem ReadsK.take (h : ReadsK enc k w a xs) (n : Nat) : ReadsK enc k w a (xs.take n) := fun i x hi => by
  rw [List.getElem?_take] at hi
  split at hi
  · exact h i x hi
  · cases hi
theorem ReadsK.drop {ad : Addr} (h : ReadsK enc k w (some ad) xs) (n : Nat) : ReadsK enc k w (some (ad.add (n * k))) (xs.drop n) := fun i x hi => by
  rw [List.getElem?_drop] at hi
  obtain ⟨b, hb, hc⟩ := h _ _ hi
  cases hb
  refine ⟨_, rfl, fun j v hv => ?_⟩
  have := hc j v hv
  rw [add_add] at this ⊢
  rw [add_add, ← Nat.add_assoc, ← Nat.add_mul]
  exact this
theorem ReadsK.sub {cap : Nat} (h : ReadsK enc k w a xs) (hc : xs.length ≤ cap) (n : Nat) : ReadsK enc k w (subA a cap n k) (xs.drop n) := by
  unfold subA
  split
  · rw [List.drop_eq_nil_of_le (by omega)]; exact .nil _ _
  · cases a with
    | none =>
      have : xs = [] := by
        cases xs with
        | nil => rfl
        | cons v r => obtain ⟨y, hy, _⟩ := h 0 v rfl; cases hy
      subst this; simpa using ReadsK.nil w _
    | some x => rw [Option.map_some]; exact h.drop n
theorem ReadsK.lt (h : ReadsK enc k w a xs) (hk : ∀ x, (enc x).length = k) (h0 : 0 < k) : xs ≠ [] → ∃ x, a = some x ∧ x.block < w.heap.size := fun hn => by
  cases xs with
  | nil => exact absurd rfl hn
  | cons y r =>
    obtain ⟨ad, ha, hc⟩ := h 0 y rfl
    have hlt : 0 < (enc y).length := by rw [hk]; exact h0
    have := World.block_lt_of_cell? w _ (hc 0 _ (List.getElem?_eq_getElem hlt))
    rw [add_block, add_block] at this
    exact ⟨ad, ha, this⟩
theorem ReadsK.flat {ad : Addr} (h : ReadsK enc k w (some ad) xs) (hk : ∀ x, (enc x).length = k) (h0 : 0 < k) : ∀ j v, (xs.flatMap enc)[j]? = some v → w.cell? (ad.add j) = some v := fun j v hv => by
  obtain ⟨x, h1, h2⟩ := flat_get' hk h0 xs j v hv
  obtain ⟨b, hb, hc⟩ := h _ _ h1
  cases hb
  have := hc _ _ h2
  rw [add_add, Nat.div_add_mod'] at this
  exact this
theorem ReadsK.load {P : Program} {t : TypeId} {z : Value} {bytes : Nat} (el : ElK enc k P t e z bytes) (h : ReadsK enc k w a xs) {i : Nat} {x : α} (hi : xs[i]? = some x) :
    ∃ ad, a = some ad ∧ (loadVar e (ad.add (i * k))).run P w = .ok (.agg (enc x).toArray) w := by
  obtain ⟨ad, ha, hc⟩ := h i x hi
  refine ⟨ad, ha, load_agg (agg_of el.agg) ?_ fun j v hv => hc j v hv⟩
  obtain ⟨ti, h1, h2⟩ := Option.map_eq_some_iff.1 el.info
  simp only [Prod.mk.injEq] at h2
  rw [h1, Option.map_some, h2.2.1, el.len]
theorem OwnK.len (h : OwnK enc k w base e l xs) : l.len = xs.length := h.1.symm
theorem OwnK.nil (w : World) (base : Nat) (e : TypeId) : OwnK enc k w base e ⟨none, 0, 0⟩ [] := ⟨rfl, by simp, .inl ⟨rfl, rfl⟩⟩
theorem OwnK.empty (w : World) (e : TypeId) : OwnK enc k (w.alloc (.cells #[] e)) w.heap.size e ⟨some ⟨w.heap.size, 0, none⟩, 0, 0⟩ [] :=
  ⟨rfl, by simp, .inr ⟨w.heap.size, 0, #[], rfl, Nat.le_refl _, alloc_new _ _, Nat.le_refl _, Nat.zero_le _, by simp, by simp⟩⟩
theorem OwnK.blk (h : OwnK enc k w base e l xs) {x : Addr} (hx : l.a = some x) : base ≤ x.block ∧ x.block < w.heap.size := by
  rcases h.2.2 with ⟨hv, _⟩ | ⟨g, cap, cur, hv, hb, hg, _⟩
  · simp only [Value.slice.injEq] at hv; rw [hv.1] at hx; cases hx
  · simp only [Value.slice.injEq] at hv; rw [hv.1] at hx; cases hx; exact ⟨hb, lt_blk hg⟩
theorem OwnK.cap (h : OwnK enc k w base e l xs) : l.len ≤ l.cap := by
  rcases h.2.2 with ⟨hv, _⟩ | ⟨g, cap, cur, hv, hb, hg, hl, _⟩
  · simp only [Value.slice.injEq] at hv; omega
  · simp only [Value.slice.injEq] at hv; omega
theorem OwnK.keep (h : OwnK enc k w base e l xs) {X : Nat → Prop} (hf : Fr X w w1) (hx : ∀ x, l.a = some x → ¬ X x.block) : OwnK enc k w1 base e l xs := by
  refine ⟨h.1, h.2.1, ?_⟩
  rcases h.2.2 with hn | ⟨g, cap, cur, hv, hb, hg, r⟩
  · exact .inl hn
  · refine .inr ⟨g, cap, cur, hv, hb, hf.keep hg (hx ⟨g, 0, none⟩ ?_), r⟩
    simp only [Value.slice.injEq] at hv; exact hv.1
theorem OwnK.mono (h : OwnK enc k w base e l xs) {b : Nat} (hb : b ≤ base) : OwnK enc k w b e l xs := by
  refine ⟨h.1, h.2.1, ?_⟩
  rcases h.2.2 with hn | ⟨g, cap, cur, hv, hb', r⟩
  · exact .inl hn
  · exact .inr ⟨g, cap, cur, hv, by omega, r⟩
theorem OwnK.drew (h : OwnK enc k w base e l xs) (d : Drew w w1) : OwnK enc k w1 base e l xs := h.keep (.drew (fun _ => False) d) (by simp)
theorem OwnK.reads (h : OwnK enc k w base e l xs) (hk : ∀ x, (enc x).length = k) : ReadsK enc k w l.a xs := fun i x hx => by
  rcases h.2.2 with ⟨hv, hz⟩ | ⟨g, cap, cur, hv, hb, hg, hl, hm, hs, ht⟩
  · have h1 := h.1
    rw [hz] at h1
    rw [List.length_eq_zero_iff.1 h1] at hx; simp at hx
  · simp only [Value.slice.injEq] at hv
    refine ⟨_, hv.1, fun j v hj => ?_⟩
    have := flat_get hk xs i x j v hx hj
    rw [add_lit, add_lit, cell_blk hg, Nat.zero_add]
    rw [← ht, List.getElem?_take] at this
    split at this
    · simpa using this
    · cases this
end
section
variable {α : Type} {enc : α → List Value} {k : Nat} {P : Program} {t e : TypeId} {z : Value} {bytes : Nat} {w : World} {base : Nat} {l : Sl} {xs : List α}
theorem append_runK (el : ElK enc k P t e z bytes) (h : OwnK enc k w base e l xs) (ad : Addr) (c : Nat) (ys : List α) (hr : ReadsK enc k w (some ad) ys)
    (hm : xs.length + ys.length ≤ maxLen) (hb : (xs.length + ys.length) * bytes ≤ 140737488355328) (hbase : base ≤ w.heap.size) :
    ∃ w' l', (Builtin.append_ #[t, t] t #[.slice l.a l.len l.cap, .slice (some ad) ys.length c]).run P w = .ok (.slice l'.a l'.len l'.cap) w' ∧ OwnK enc k w' base e l' (xs ++ ys) ∧ Fr (At l) w w' := by
  obtain ⟨i, hi, hi2⟩ := Option.map_eq_some_iff.1 el.info
  simp only [Prod.mk.injEq] at hi2
  obtain ⟨v', w', hr', ho, hg, _⟩ := run_append_own (P := P) w base t t e i z k bytes el.sl hi hi2.1 hi2.2.1 hi2.2.2 el.one el.pos (.slice l.a l.len l.cap) l.len (xs.flatMap enc) h.2 ad ys.length c (ys.flatMap enc) (flat_len el.len ys)
    (hr.flat el.len el.pos) (fun u hu => by obtain ⟨x, _, hx⟩ := List.mem_flatMap.1 hu; exact el.cells x u hx) (by rw [h.len]; exact hm) (by rw [h.len]; exact hb) hbase
  have hfr : Fr (At l) w w' := (Fr.grown hg).mono fun q _ hq => by
    cases ha : l.a with
    | none => simp [Value.ownBlock, ha] at hq
    | some y => simp [Value.ownBlock, ha] at hq; exact ⟨y, ha, hq⟩
  have hshape : ∃ a c, v' = .slice a (l.len + ys.length) c := by
    rcases ho.2 with ⟨h1, h2⟩ | ⟨g, cap, cur, h1, _⟩
    · exact ⟨none, 0, by rw [h1, h2]⟩
    · exact ⟨_, _, h1⟩
  obtain ⟨a, c', rfl⟩ := hshape
  refine ⟨w', ⟨a, l.len + ys.length, c'⟩, hr', ⟨by rw [List.length_append, h.len], ?_⟩, hfr⟩
  rw [List.flatMap_append]
  exact ho
theorem since_runK (el : ElK enc k P t e z bytes) (h : OwnK enc k w base e l xs) (ad : Addr) (c : Nat) (ys : List α) (hr : ReadsK enc k w (some ad) ys)
    (hm : xs.length + ys.length ≤ maxLen) (hb : (xs.length + ys.length) * bytes ≤ 140737488355328) {l' : Sl} {w' : World}
    (hrun : (Builtin.append_ #[t, t] t #[.slice l.a l.len l.cap, .slice (some ad) ys.length c]).run P w = .ok (.slice l'.a l'.len l'.cap) w') : Since w l l' := by
  obtain ⟨i, hi, hi2⟩ := Option.map_eq_some_iff.1 el.info
  simp only [Prod.mk.injEq] at hi2
  obtain ⟨hz, hs1, hby⟩ := hi2
  have hlen := h.1
  have hcells : ∀ u ∈ ys.flatMap enc, u.oneCell' = true := fun u hu => by obtain ⟨x, _, hx⟩ := List.mem_flatMap.1 hu; exact el.cells x u hx
  rcases h.2.2 with ⟨hv, hl0⟩ | ⟨g, cap, cur, hv, hbg, hg, hl, hmx, hs, ht⟩
  · have h0 : OwnK enc k w w.heap.size e l xs := ⟨h.1, h.2.1, .inl ⟨hv, hl0⟩⟩
    obtain ⟨w2, l2, hr2, ho2, _⟩ := append_runK el h0 ad c ys hr hm hb (Nat.le_refl _)
    rw [hr2] at hrun
    simp only [Result.ok.injEq, Value.slice.injEq] at hrun
    obtain ⟨⟨e1, _, _⟩, rfl⟩ := hrun
    intro y hy
    exact .inr (ho2.blk (by rw [e1]; exact hy)).1
  · simp only [Value.slice.injEq] at hv
    obtain ⟨ha, _, hcap⟩ := hv
    have hml : maxLen ≤ 9223372036854775807 := by decide
    by_cases hroom : l.len + ys.length ≤ cap
    · have hfit : l.len * i.size + (ys.flatMap enc).length ≤ cur.size := by
        rw [flat_len el.len, hs1, hs, ← Nat.add_mul]; exact Nat.mul_le_mul_right _ hroom
      have hr2 := run_append_room (P := P) w t t e i el.sl hi g l.len cap cur hg ad ys.length c (ys.flatMap enc) (by rw [flat_len el.len, hs1]) (hr.flat el.len el.pos) hcells hroom hfit
      rw [ha, hcap, hr2] at hrun
      simp only [Result.ok.injEq, Value.slice.injEq] at hrun
      intro y hy
      refine .inl ⟨y, ?_, rfl⟩
      rw [ha, hrun.1.1]; exact hy
    · have holds : ∀ j u, (xs.flatMap enc)[j]? = some u → w.cell? ((⟨g, 0, none⟩ : Addr).add j) = some u := h.2.cells (g := g) (by rw [ha]; rfl)
      have hr2 := run_append_grow (P := P) w t t e i z el.sl hi hz ⟨g, 0, none⟩ l.len cap (xs.flatMap enc) (by rw [flat_len el.len, hs1, hlen]) holds ad ys.length c (ys.flatMap enc) (by rw [flat_len el.len, hs1]) (hr.flat el.len el.pos) (by omega) (by omega) (growslice_fits (by omega) (by rw [hby, ← hlen]; exact hb))
      rw [ha, hcap, hr2] at hrun
      simp only [Result.ok.injEq, Value.slice.injEq] at hrun
      intro y hy
      rw [← hrun.1.1] at hy
      cases hy
      exact .inr (Nat.le_refl _)
/-- 'out = append(out, v)'. -/
theorem append_oneK (el : ElK enc k P t e z bytes) (h : OwnK enc k w base e l xs) {x : α}
    (hm : xs.length + 1 ≤ maxLen) (hb : (xs.length + 1) * bytes ≤ 140737488355328) (hbase : base ≤ w.heap.size) {w2 : World} (hw2 : w2 = w.alloc (.cells (enc x).toArray e)) :
    ∃ w' l', (Builtin.append_ #[t, t] t #[.slice l.a l.len l.cap, .slice (some ⟨w.heap.size, 0, none⟩) 1 1]).run P w2 = .ok (.slice l'.a l'.len l'.cap) w' ∧ OwnK enc k w' base e l' (xs ++ [x]) ∧ Fr (At l) w w' ∧ Since w l l' := by
  subst hw2
  have h2 : OwnK enc k (w.alloc (.cells (enc x).toArray e)) base e l xs := h.keep (.alloc (fun _ => False) _ _) (by simp)
  have hr : ReadsK enc k (w.alloc (.cells (enc x).toArray e)) (some ⟨w.heap.size, 0, none⟩) [x] := fun i y hi => by
    cases i with
    | zero =>
      simp only [List.getElem?_cons_zero, Option.some.injEq] at hi
      subst hi
      refine ⟨_, rfl, fun j v hv => ?_⟩
      rw [Nat.zero_mul, add_lit, add_lit, cell_blk (alloc_new w _), Nat.zero_add]; simpa using hv
    | succ i => simp at hi
  obtain ⟨w', l', hr', ho, hf⟩ := append_runK el h2 ⟨w.heap.size, 0, none⟩ 1 [x] hr hm hb (by simp; omega)
  refine ⟨w', l', hr', ho, (Fr.alloc _ _ _).trans' hf, fun y hy => ?_⟩
  rcases since_runK el h2 ⟨w.heap.size, 0, none⟩ 1 [x] hr hm hb hr' y hy with hx | hn
  · exact .inl hx
  · simp only [World.alloc, Array.size_push] at hn
    exact .inr (by omega)
/-- 'append(out, xs...)'. -/
theorem append_allK (el : ElK enc k P t e z bytes) (h : OwnK enc k w base e l xs) {src : Option Addr} (c : Nat) {ys : List α} (hr : ReadsK enc k w src ys)
    (hm : xs.length + ys.length ≤ maxLen) (hb : (xs.length + ys.length) * bytes ≤ 140737488355328) (hbase : base ≤ w.heap.size) {m : Nat} (hlen : ys.length = m) :
    ∃ w' l', (Builtin.append_ #[t, t] t #[.slice l.a l.len l.cap, .slice src m c]).run P w = .ok (.slice l'.a l'.len l'.cap) w' ∧ OwnK enc k w' base e l' (xs ++ ys) ∧ Fr (At l) w w' := by
  subst hlen
  cases src with
  | some ad => exact append_runK el h ad c ys hr hm hb hbase
  | none =>
    have hn : ys = [] := by
      cases ys with
      | nil => rfl
      | cons v r => obtain ⟨y, hy, _⟩ := hr 0 v rfl; cases hy
    subst hn
    refine ⟨w, l, ?_, by simpa using h, .refl _ _⟩
    obtain ⟨i, hi, hi2⟩ := Option.map_eq_some_iff.1 el.info
    have hcap := h.cap
    cases ha : l.a <;> simp [Builtin.append_, run_underlying el.sl, Go.sizeOf, typeInfo, hi, Builtin.lenOf, Builtin.firstCells, hcap, storeCells]
theorem flat_set (hk : ∀ x, (enc x).length = k) : ∀ (xs : List α) (i : Nat) (x : α), i < xs.length → (xs.set i x).flatMap enc = (xs.flatMap enc).take (i * k) ++ enc x ++ (xs.flatMap enc).drop (i * k + k)
  | y :: r, 0, x, _ => by
    rw [List.set_cons_zero, List.flatMap_cons, List.flatMap_cons, Nat.zero_mul, Nat.zero_add, List.take_zero, List.nil_append]
    congr 1
    rw [← hk y, List.drop_left]
  | y :: r, i + 1, x, h => by
    rw [List.set_cons_succ, List.flatMap_cons, List.flatMap_cons, flat_set hk r i x (by simpa using h)]
    have e1 : (i + 1) * k = (enc y).length + i * k := by rw [hk, Nat.succ_mul]; omega
    rw [e1, List.take_length_add_append, Nat.add_assoc, List.drop_length_add_append]
    simp only [List.append_assoc]
  | [], i, x, h => by simp at h
/-- An element set. -/
theorem OwnK.setAt (el : ElK enc k P t e z bytes) (h : OwnK enc k w base e l xs) {i : Nat} (hi : i < xs.length) (x : α) :
    ∃ ad, l.a = some ad ∧ ∃ w', (storeVar e (ad.add (i * k)) (.agg (enc x).toArray)).run P w = .ok () w' ∧ OwnK enc k w' base e l (xs.set i x) ∧ Fr (At l) w w' := by
  obtain ⟨ti, hti, hi2⟩ := Option.map_eq_some_iff.1 el.info
  simp only [Prod.mk.injEq] at hi2
  rcases h.2.2 with ⟨hv, hz⟩ | ⟨g, cap, cur, hv, hb, hg, hl, hm, hs, ht⟩
  · have := h.1; omega
  · simp only [Value.slice.injEq] at hv
    have h1 := h.1
    have hfit : i * k + k ≤ cur.size := by
      rw [hs, ← Nat.succ_mul]; exact Nat.mul_le_mul_right _ (by omega)
    have hst := run_storeCells_at (P := P) g (i * k) e (enc x) 0 cur w hg (by rw [el.len]; omega) (el.cells x)
    simp only [Nat.add_zero] at hst
    refine ⟨_, hv.1, w.setRow g (cur.toList.take (i * k) ++ enc x ++ cur.toList.drop (i * k + (enc x).length)).toArray, ?_, ⟨by rw [List.length_set]; exact h.1, by rw [flat_len el.len, List.length_set, h.1], .inr ⟨g, cap, (cur.toList.take (i * k) ++ enc x ++ cur.toList.drop (i * k + (enc x).length)).toArray, by rw [hv.1, hv.2.2], hb, setRow_heap w g cur _ e _ hg, by omega, hm, ?_, ?_⟩⟩, ⟨rfl, rfl, rfl, by simp [World.setRow], fun q _ hq => setRow_other w g q _ (fun e' => hq ⟨_, hv.1, e'⟩)⟩⟩
    · rw [add_lit, Nat.zero_add]
      have hsz : (enc x).length = ti.size := by rw [el.len, hi2.2.1]
      simp [storeVar, Go.sizeOf, typeInfo, hti, Value.cells, hsz, hst]
    · have := el.len x
      simp only [List.size_toArray, List.length_append, List.length_take, List.length_drop, Array.length_toList, this]
      omega
    · have hxl := el.len x
      rw [flat_set el.len xs i x hi, ← ht]
      simp only [hxl]
      have hik : i * k + k ≤ l.len * k := by rw [← Nat.succ_mul]; exact Nat.mul_le_mul_right _ (by omega)
      rw [List.take_take, Nat.min_eq_left (by omega)]
      have hlen1 : (cur.toList.take (i * k) ++ enc x).length = i * k + k := by
        rw [List.length_append, List.length_take, hxl, Array.length_toList]; omega
      rw [List.take_append, List.take_of_length_le (l := cur.toList.take (i * k) ++ enc x) (by omega), hlen1, List.drop_take]
end
end Vc
namespace Vc
open Go
section
variable {α : Type} {enc : α → List Value} {k : Nat} {w : World} {base : Nat} {e : TypeId} {l : Sl} {xs : List α}
theorem flat_field (hk : ∀ x, (enc x).length = k) : ∀ (xs : List α) (i j : Nat) (x y : α) (v : Value), xs[i]? = some x → j < k → enc y = (enc x).set j v → (xs.set i y).flatMap enc = (xs.flatMap enc).set (i * k + j) v
  | z :: r, 0, j, x, y, v, hx, hj, he => by
    simp only [List.getElem?_cons_zero, Option.some.injEq] at hx
    subst hx
    rw [List.set_cons_zero, List.flatMap_cons, List.flatMap_cons, Nat.zero_mul, Nat.zero_add, he, List.set_append_left _ _ (by rw [hk]; exact hj)]
  | z :: r, i + 1, j, x, y, v, hx, hj, he => by
    have := flat_field hk r i j x y v (by simpa using hx) hj he
    rw [List.set_cons_succ, List.flatMap_cons, List.flatMap_cons, this, List.set_append_right _ _ (by rw [hk, Nat.succ_mul]; omega), hk, Nat.succ_mul, show i * k + k + j - k = i * k + j by omega]
  | [], i, j, x, y, v, hx, _, _ => by simp at hx
/-- A field set. -/
theorem OwnK.setField (hk : ∀ x, (enc x).length = k) (h : OwnK enc k w base e l xs) {i j : Nat} {x y : α} {v : Value} (hx : xs[i]? = some x) (hj : j < k) (he : enc y = (enc x).set j v) :
    ∃ ad, l.a = some ad ∧ Wr w ((ad.add (i * k)).add j) ∧ OwnK enc k (w.setCell ((ad.add (i * k)).add j) v) base e l (xs.set i y) ∧ Fr (At l) w (w.setCell ((ad.add (i * k)).add j) v) := by
  have hi : i < xs.length := (List.getElem?_eq_some_iff.1 hx).1
  rcases h.2.2 with ⟨hv, hz⟩ | ⟨g, cap, cur, hv, hb, hg, hl, hm, hs, ht⟩
  · have := h.1; omega
  · simp only [Value.slice.injEq] at hv
    have h1 := h.1
    have h2 : i * k + k ≤ l.len * k := by rw [← Nat.succ_mul]; exact Nat.mul_le_mul_right _ (by omega)
    have h3 : l.len * k ≤ cap * k := Nat.mul_le_mul_right _ hl
    refine ⟨⟨g, 0, none⟩, hv.1, ?_, ⟨by rw [List.length_set]; exact h1, by rw [flat_len hk, List.length_set, h1], .inr ⟨g, cap, cur.setIfInBounds (i * k + j) v, by rw [hv.1, hv.2.2], hb, ?_, hl, hm, by simpa using hs, ?_⟩⟩, .set _ _ _ ⟨_, hv.1, by rw [add_block, add_block]⟩⟩
    · rw [add_lit, add_lit, Nat.zero_add]; exact wr_blk hg (by omega)
    · rw [add_lit, add_lit, Nat.zero_add]; exact set_blk hg _ v
    · rw [Array.toList_setIfInBounds, List.take_set, ht, flat_field hk xs i j x y v hx hj he]
end
end Vc
namespace Vc
open Go

/-- What stands under a key. -/
def mlook : List (ByteArray × Value) → ByteArray → Option Value
  | [], _ => none
  | (a, v) :: r, k => if a = k then some v else mlook r k
/-- The same entries with this one. -/
def mupd : List (ByteArray × Value) → ByteArray → Value → List (ByteArray × Value)
  | [], k, v => [(k, v)]
  | (a, x) :: r, k, v => if a = k then (k, v) :: r else (a, x) :: mupd r k v
abbrev entKV (e : MapEntry) : Value × Value := (e.key, e.val)
abbrev strKV (x : ByteArray × Value) : Value × Value := (.string x.1, x.2)
/-- A map with these entries. -/
def MapOf (w : World) (r : Nat) (l : List (ByteArray × Value)) : Prop := ∃ es clock, w.heap[r]? = some (.map es clock) ∧ MapKept.Stamped es clock ∧ es.toList.map entKV = l.map strKV
theorem MapOf.keep {w w2 : World} {r : Nat} {l : List (ByteArray × Value)} (h : MapOf w r l) {X : Nat → Prop} (hf : Fr X w w2) (hx : ¬ X r) : MapOf w2 r l := by
  obtain ⟨es, c, h1, h2, h3⟩ := h
  exact ⟨es, c, hf.keep h1 hx, h2, h3⟩
theorem MapOf.lt {w : World} {r : Nat} {l : List (ByteArray × Value)} (h : MapOf w r l) : r < w.heap.size := by
  obtain ⟨es, c, h1, _⟩ := h
  exact lt_blk h1
theorem MapOf.new {w : World} : MapOf (w.alloc (.map #[] 0)) w.heap.size [] := ⟨#[], 0, alloc_new _ _, MapKept.stamped_empty 0, rfl⟩
theorem findNow_look (k : ByteArray) : ∀ (es : List MapEntry) (l : List (ByteArray × Value)) (i : Nat), es.map entKV = l.map strKV →
    (Instr.findNow .string (.string k) es i = some none ∧ mlook l k = none ∧ (∀ v, mupd l k v = l ++ [(k, v)]) ∧ ∀ x ∈ es, x.key ≠ .string k) ∨
    ∃ j e, Instr.findNow .string (.string k) es i = some (some (i + j, e.val)) ∧ es[j]? = some e ∧ e.key = .string k ∧ mlook l k = some e.val ∧
      ∀ v, (mupd l k v).map strKV = (es.map entKV).set j (.string k, v)
  | [], [], _, _ => .inl ⟨rfl, rfl, fun _ => rfl, by simp⟩
  | [], _ :: _, _, h => by cases h
  | _ :: _, [], _, h => by cases h
  | e :: es, (a, x) :: l, i, h => by
    simp only [List.map_cons, List.cons.injEq, Prod.mk.injEq] at h
    obtain ⟨⟨hk, hv⟩, ht⟩ := h
    by_cases hak : a = k
    · subst hak
      refine .inr ⟨0, e, ?_, rfl, hk, by rw [mlook, if_pos rfl, hv], fun v => ?_⟩
      · have : (a == a) = true := (MapKept.bytes_beq a a).2 rfl
        simp [Instr.findNow, Instr.sameNow, hk, this]
      · rw [mupd, if_pos rfl]; simp [ht]
    · have hne : (k == a) = false := by
        rw [Bool.eq_false_iff]; intro hh; exact hak ((MapKept.bytes_beq k a).1 hh).symm
      have hstep : Instr.findNow .string (.string k) (e :: es) i = Instr.findNow .string (.string k) es (i + 1) := by
        simp [Instr.findNow, Instr.sameNow, hk, hne]
      rcases findNow_look k es l (i + 1) ht with ⟨h1, h2, h3, h4⟩ | ⟨j, e', h1, h2, h3, h4, h5⟩
      · refine .inl ⟨by rw [hstep, h1], by rw [mlook, if_neg hak, h2], fun v => by rw [mupd, if_neg hak, h3]; rfl, fun y hy => ?_⟩
        cases hy with
        | head => rw [hk]; intro hh; exact hak (Value.string.inj hh)
        | tail _ hy => exact h4 y hy
      · refine .inr ⟨j + 1, e', by rw [hstep, h1, show i + 1 + j = i + (j + 1) by omega], by simpa using h2, h3, by rw [mlook, if_neg hak, h4], fun v => ?_⟩
        rw [mupd, if_neg hak, List.map_cons, h5]
        simp [hk, hv]
section
variable {P : Program} {w : World} {mt kt et : TypeId} {r : Nat} {l : List (ByteArray × Value)}
/-- What is under a key, and whether there is one. -/
theorem map_lookup (hm : P.underlying mt = some (.map kt et)) (hd : P.underlying kt = some .string) {z : Value} (hz : (zeroValue et).run P w = .ok z w) (h : MapOf w r l) (k : ByteArray) (c : Bool) :
    (Instr.lookup mt (.map (some r)) (.string k) c).run P w = .ok (match mlook l k with | some v => (if c then .tuple #[v, .bool true] else v) | none => (if c then .tuple #[z, .bool false] else z)) w := by
  obtain ⟨es, clock, hb, hs, hl⟩ := h
  have hk : MapKept.IsKey .string (.string k) := by simp [MapKept.IsKey]
  rcases findNow_look k es.toList l 0 hl with ⟨h1, h2, _, _⟩ | ⟨j, e, h1, _, _, h4, _⟩
  · rw [h2]
    simp [Instr.lookup, run_underlying hm, MapKept.run_getObj_map hb, MapKept.run_checkKey hd hk, MapKept.run_findKey hd h1, hz, Result.andThen]
  · rw [h4]
    simp [Instr.lookup, run_underlying hm, MapKept.run_getObj_map hb, MapKept.run_checkKey hd hk, MapKept.run_findKey hd h1, Result.andThen]
/-- An assignment. -/
theorem map_update (hm : P.underlying mt = some (.map kt et)) (hd : P.underlying kt = some .string) (h : MapOf w r l) (k : ByteArray) (v : Value) :
    ∃ w', (Instr.mapUpdate mt (.map (some r)) (.string k) v).run P w = .ok () w' ∧ MapOf w' r (mupd l k v) ∧ Fr (· = r) w w' := by
  obtain ⟨es, clock, hb, hs, hl⟩ := h
  have hk : MapKept.IsKey .string (.string k) := by simp [MapKept.IsKey]
  have hfr : ∀ o : Obj, Fr (· = r) w { w with heap := w.heap.setIfInBounds r o } := fun o => ⟨rfl, rfl, rfl, by simp, fun q hq hx => (MapKept.heap_set hb).2 q hx⟩
  rcases findNow_look k es.toList l 0 hl with ⟨h1, h2, h3, h4⟩ | ⟨j, e, h1, h2, h3, h4, h5⟩
  · refine ⟨_, by simp [Instr.mapUpdate, run_underlying hm, MapKept.run_getObj_map hb, MapKept.run_checkKey hd hk, MapKept.run_findKey hd h1, MapKept.run_setObj_map _ hb, Result.andThen]; rfl, ⟨_, _, (MapKept.heap_set hb).1, MapKept.stamped_push hs h4, ?_⟩, hfr _⟩
    rw [h3, Array.toList_push, List.map_append, List.map_append, hl]
    rfl
  · have hj : es[j]? = some e := by simpa using h2
    refine ⟨{ w with heap := w.heap.setIfInBounds r (.map (es.modify j fun e => { key := .string k, val := v, born := e.born }) clock) }, by simp [Instr.mapUpdate, run_underlying hm, MapKept.run_getObj_map hb, MapKept.run_checkKey hd hk, MapKept.run_findKey hd h1, hj, h3, MapKept.run_keyThatStays hk, MapKept.run_setObj_map _ hb, Result.andThen], ⟨_, _, (MapKept.heap_set hb).1, MapKept.stamped_modify hs _ _ (fun _ _ => rfl) (fun e' _ he' => by rw [hj] at he'; cases he'; exact h3.symm), ?_⟩, hfr _⟩
    rw [h5]
    refine List.ext_getElem? fun q => ?_
    rw [List.getElem?_set]
    simp only [List.getElem?_map, Array.getElem?_toList, Array.getElem?_modify, List.length_map, Array.length_toList]
    by_cases hq : j = q
    · subst hq
      rw [if_pos rfl, if_pos rfl, if_pos (Array.getElem?_eq_some_iff.1 hj).1, hj]; rfl
    · rw [if_neg hq, if_neg hq]
end
/-- What holds of all entries holds of them and the new one. -/
theorem mupd_all {p : ByteArray × Value → Prop} {k : ByteArray} {v : Value} (hv : p (k, v)) : ∀ l : List (ByteArray × Value), (∀ x ∈ l, p x) → ∀ x ∈ mupd l k v, p x
  | [], _, x, hx => by simp only [mupd, List.mem_singleton] at hx; rw [hx]; exact hv
  | (a, y) :: r, h, x, hx => by
    rw [mupd] at hx
    split at hx
    · rcases List.mem_cons.1 hx with rfl | hx
      · exact hv
      · exact h x (.tail _ hx)
    · rcases List.mem_cons.1 hx with rfl | hx
      · exact h _ (.head _)
      · exact mupd_all hv r (fun z hz => h z (.tail _ hz)) x hx
theorem mlook_mem {k : ByteArray} {v : Value} : ∀ {l : List (ByteArray × Value)}, mlook l k = some v → (k, v) ∈ l
  | (a, y) :: r, h => by
    rw [mlook] at h
    split at h
    · rename_i he; cases h; rw [he]; exact .head _
    · exact .tail _ (mlook_mem h)
end Vc
namespace Vc
open Go

/-- An iterator over a map of these entries; those are still to come. -/
def MapIt (w : World) (it mb : Nat) (l ys : List (ByteArray × Value)) : Prop :=
  ∃ es clock since c0 seen, w.heap[it]? = some (.mapIter (some mb) since seen c0) ∧ w.heap[mb]? = some (.map es clock) ∧ MapKept.Stamped es clock ∧ (∀ x ∈ es.toList, x.born < since) ∧ since ≤ c0 ∧ since ≤ clock ∧
    es.toList.map entKV = l.map strKV ∧ (leftOf es seen).toList.map entKV = ys.map strKV
/-- How many are to come. -/
def mapLeft (it mb : Nat) (w : World) : Nat := match w.heap[it]?, w.heap[mb]? with
  | some (.mapIter _ _ seen _), some (.map es _) => (leftOf es seen).size
  | _, _ => 0
section
variable {P : Program} {w w2 : World} {it mb : Nat} {l ys : List (ByteArray × Value)}
theorem MapIt.keep (h : MapIt w it mb l ys) {X : Nat → Prop} (hf : Fr X w w2) (h1 : ¬ X it) (h2 : ¬ X mb) : MapIt w2 it mb l ys := by
  obtain ⟨es, clock, since, c0, seen, a, b, c⟩ := h
  exact ⟨es, clock, since, c0, seen, hf.keep a h1, hf.keep b h2, c⟩
theorem MapIt.map (h : MapIt w it mb l ys) : MapOf w mb l := by
  obtain ⟨es, clock, since, c0, seen, a, b, c, _, _, _, d, _⟩ := h
  exact ⟨es, clock, b, c, d⟩
theorem MapIt.lt (h : MapIt w it mb l ys) : it < w.heap.size := by
  obtain ⟨es, clock, since, c0, seen, a, _⟩ := h
  exact lt_blk a
theorem MapIt.left (h : MapIt w it mb l ys) : mapLeft it mb w = ys.length := by
  obtain ⟨es, clock, since, c0, seen, a, b, _, _, _, _, _, d⟩ := h
  unfold mapLeft
  rw [a, b]
  have := congrArg List.length d
  simpa using this
theorem MapIt.new {mt kt et : TypeId} (hm : P.underlying mt = some (.map kt et)) (h : MapOf w mb l) :
    (Instr.range mt (.map (some mb))).run P w = .ok (.pointer (some ⟨w.heap.size, 0, none⟩)) (w.alloc (.mapIter (some mb) (match w.heap[mb]? with | some (.map _ c) => c | _ => 0) #[] (match w.heap[mb]? with | some (.map _ c) => c | _ => 0))) ∧
      MapIt (w.alloc (.mapIter (some mb) (match w.heap[mb]? with | some (.map _ c) => c | _ => 0) #[] (match w.heap[mb]? with | some (.map _ c) => c | _ => 0))) w.heap.size mb l l := by
  obtain ⟨es, clock, hb, hs, hl⟩ := h
  rw [hb]
  refine ⟨run_range_map w mt kt et mb es clock hm hb, es, clock, clock, clock, #[], alloc_new _ _, (Fr.alloc (fun _ => False) _ _).keep hb (by simp), hs, hs.1, Nat.le_refl _, Nat.le_refl _, hl, ?_⟩
  have : leftOf es #[] = es := by unfold leftOf; simp
  rw [this]; exact hl
theorem left_push {es : Array MapEntry} {clock : Nat} {seen : Array Nat} (hs : MapKept.Stamped es clock) {e : MapEntry} (he : e ∈ (leftOf es seen).toList) :
    ∃ pre post, (leftOf es seen).toList = pre ++ e :: post ∧ (leftOf es (seen.push e.born)).toList = pre ++ post := by
  obtain ⟨pre, post, hL⟩ := List.append_of_mem he
  refine ⟨pre, post, hL, ?_⟩
  have e1 : (leftOf es (seen.push e.born)).toList = (leftOf es seen).toList.filter fun x => !(x.born == e.born) := by
    unfold leftOf
    rw [Array.toList_filter, Array.toList_filter, List.filter_filter]
    refine List.filter_congr fun x _ => ?_
    rw [contains_push]
    cases seen.contains x.born <;> cases (x.born == e.born) <;> rfl
  have hn : ((leftOf es seen).toList.map (·.born)).Nodup := by
    unfold leftOf
    rw [Array.toList_filter]
    exact hs.2.1.sublist (List.filter_sublist.map _)
  rw [e1, hL, List.filter_append, List.filter_cons]
  rw [hL, List.map_append, List.map_cons] at hn
  have hn' := List.nodup_append.1 hn
  have h2 := List.nodup_cons.1 hn'.2.1
  rw [if_neg (by simp)]
  congr 1
  · refine List.filter_eq_self.2 fun x hx => ?_
    have := hn'.2.2 x.born (List.mem_map.2 ⟨x, hx, rfl⟩) e.born (.head _)
    simpa using this
  · refine List.filter_eq_self.2 fun x hx => ?_
    have : x.born ≠ e.born := fun hh => h2.1 (by rw [← hh]; exact List.mem_map.2 ⟨x, hx, rfl⟩)
    simpa using this
/-- The next step: none is left; or one comes, whichever, and the others are left. -/
theorem MapIt.next (h : MapIt w it mb l ys) (ty : TypeId) :
    (ys = [] ∧ (Instr.next (.pointer (some ⟨it, 0, none⟩)) false ty).run P w = .ok (.tuple #[.bool false]) w) ∨
    ∃ pre x post w', ys = pre ++ x :: post ∧ (Instr.next (.pointer (some ⟨it, 0, none⟩)) false ty).run P w = .ok (.tuple #[.bool true, .string x.1, x.2]) w' ∧ MapIt w' it mb l (pre ++ post) ∧ Fr (· = it) w w' ∧
      (Instr.entry (.pointer (some ⟨it, 0, none⟩))).run P w' = .ok (.tuple #[.string x.1, x.2]) w' := by
  obtain ⟨es, clock, since, c0, seen, hi, hb, hs, hold, hsc, hcl, hl, hy⟩ := h
  rcases run_next_at (P := P) w ty it mb since c0 seen es clock hi hb hold hsc with ⟨h0, hr⟩ | ⟨e, he, w1, hw1, hr⟩
  · refine .inl ⟨?_, hr⟩
    have := congrArg List.length hy
    simp only [List.length_map, Array.length_toList] at this
    exact List.length_eq_zero_iff.1 (by omega)
  · obtain ⟨pre, post, hL, hL'⟩ := left_push hs he
    rw [hL, List.map_append, List.map_cons] at hy
    obtain ⟨ypre, yr, rfl, h1, h2⟩ := List.map_eq_append_iff.1 hy.symm
    obtain ⟨x, ypost, rfl, h3, h4⟩ := List.map_eq_cons_iff.1 h2
    simp only [Prod.mk.injEq] at h3
    have hmi : it ≠ mb := by rintro rfl; rw [hi] at hb; cases hb
    have hfr : Fr (· = it) w (ChangeMaps.setBlock w1 it (.mapIter (some mb) since (seen.push e.born) clock)) := by
      have hh : w1.heap = w.heap ∧ w1.os = w.os ∧ w1.tape = w.tape ∧ w1.output = w.output := by rcases hw1 with rfl | rfl <;> exact ⟨rfl, rfl, rfl, rfl⟩
      exact ⟨hh.2.1, hh.2.2.1, hh.2.2.2, by simp [ChangeMaps.setBlock, hh.1], fun k hk hx => by
        show (w1.heap.setIfInBounds it _)[k]? = _
        rw [hh.1, Array.getElem?_setIfInBounds, if_neg (fun e => hx e.symm)]⟩
    have hni : (ChangeMaps.setBlock w1 it (.mapIter (some mb) since (seen.push e.born) clock)).heap[it]? = some (.mapIter (some mb) since (seen.push e.born) clock) := by
      have hlt := lt_blk hi
      have hh : w1.heap = w.heap := by rcases hw1 with rfl | rfl <;> rfl
      show (w1.heap.setIfInBounds it _)[it]? = _
      rw [hh, Array.getElem?_setIfInBounds, if_pos rfl, if_pos hlt]
    have hnb := hfr.keep hb (fun hh => hmi hh.symm)
    refine .inr ⟨ypre, x, ypost, _, rfl, by rw [hr, h3.1, h3.2], ⟨es, clock, since, clock, seen.push e.born, hni, hnb, hs, hold, hcl, hcl, hl, ?_⟩, hfr, ?_⟩
    · rw [hL', List.map_append, List.map_append, h1, h4]
    · rw [run_entry_at (P := P) _ it mb since seen es clock e hni hnb (mem_left he).1 hs.2.1, h3.1, h3.2]
end
end Vc

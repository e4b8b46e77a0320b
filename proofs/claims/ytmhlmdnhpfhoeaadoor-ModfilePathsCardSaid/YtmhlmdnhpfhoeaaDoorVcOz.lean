/- Slices of the call's own whose row may bear the run-time's mark behind its last cell, as that of a text's bytes. No condition: for all programs. -/
import Derived.Test.YtmhlmdnhpfhoeaaDoorVcApp
import Derived.Laws.IdiomCopy
import Derived.Laws.IdiomStrings
set_option linter.unusedVariables false
namespace Vc
open Go

/-- As 'Own', but the row may bear the mark behind its cells. -/
def OwnZ (w : World) (base : Nat) (e : TypeId) (l : Sl) (xs : List Value) : Prop :=
  xs.length = l.len ∧ ((l.a = none ∧ l.len = 0 ∧ l.cap = 0) ∨
    ∃ g cur fz, l.a = some ⟨g, 0, none⟩ ∧ base ≤ g ∧ w.heap[g]? = some (.cells cur e fz) ∧ (cur.size ≤ fz.1 ∨ fz.2 = 0) ∧ l.len ≤ l.cap ∧ l.cap ≤ maxLen ∧ cur.size = l.cap ∧ cur.toList.take l.len = xs)
section
variable {w w1 : World} {base : Nat} {e : TypeId} {l : Sl} {xs : List Value}
theorem OwnZ.of (h : Own w base e l xs) : OwnZ w base e l xs := by
  refine ⟨h.1, ?_⟩
  rcases h.2 with hn | ⟨g, cur, ha, hb, hg, hl, hm, hs, ht⟩
  · exact .inl hn
  · exact .inr ⟨g, cur, (0, 0), ha, hb, hg, .inr rfl, hl, hm, hs, ht⟩
theorem OwnZ.len (h : OwnZ w base e l xs) : l.len = xs.length := h.1.symm
theorem OwnZ.blk (h : OwnZ w base e l xs) {x : Addr} (hx : l.a = some x) : base ≤ x.block ∧ x.block < w.heap.size := by
  rcases h.2 with ⟨ha, _⟩ | ⟨g, cur, fz, ha, hb, hg, _⟩
  · rw [ha] at hx; cases hx
  · rw [ha] at hx; cases hx; exact ⟨hb, lt_blk hg⟩
theorem OwnZ.keep (h : OwnZ w base e l xs) {X : Nat → Prop} (hf : Fr X w w1) (hx : ∀ x, l.a = some x → ¬ X x.block) : OwnZ w1 base e l xs := by
  refine ⟨h.1, ?_⟩
  rcases h.2 with hn | ⟨g, cur, fz, ha, hb, hg, r⟩
  · exact .inl hn
  · exact .inr ⟨g, cur, fz, ha, hb, hf.keep hg (hx _ ha), r⟩
theorem OwnZ.cap (h : OwnZ w base e l xs) : l.len ≤ l.cap := by
  rcases h.2 with ⟨_, h2, h3⟩ | ⟨_, _, _, _, _, _, _, hl, _⟩
  · omega
  · exact hl
theorem OwnZ.reads (h : OwnZ w base e l xs) : Reads w l.a xs := fun i v hv => by
  rcases h.2 with ⟨_, h2, _⟩ | ⟨g, cur, fz, ha, hb, hg, hz, hl, hm, hs, ht⟩
  · have h1 := h.1
    rw [h2] at h1
    rw [List.length_eq_zero_iff.1 h1] at hv; simp at hv
  · refine ⟨_, ha, ?_⟩
    rw [add_lit, cell_blk hg, Nat.zero_add]
    rw [← ht, List.getElem?_take] at hv
    split at hv
    · simpa using hv
    · cases hv
theorem OwnZ.nil (w : World) (base : Nat) (e : TypeId) : OwnZ w base e ⟨none, 0, 0⟩ [] := ⟨rfl, .inl ⟨rfl, rfl, rfl⟩⟩
theorem frozen_z {b : Nat} {cs : Array Value} {t : TypeId} {fz : Nat × Nat} (h : w.heap[b]? = some (.cells cs t fz)) (hz : cs.size ≤ fz.1 ∨ fz.2 = 0) {i : Nat} (hi : i < cs.size) : w.frozen? ⟨b, i, none⟩ = false := by
  obtain ⟨lo, hi'⟩ := fz
  simp only [World.frozen?, h]
  rcases hz with hz | hz
  · have : ¬ lo ≤ i := by simp only at hz; omega
    simp [this]
  · simp only at hz; simp [hz]
/-- One element set. -/
theorem OwnZ.set (h : OwnZ w base e l xs) {i : Nat} (hi : i < xs.length) :
    ∃ x, l.a = some x ∧ w.cell? (x.add i) = some xs[i] ∧ Wr w (x.add i) ∧ ∀ v, OwnZ (w.setCell (x.add i) v) base e l (xs.set i v) ∧ Fr (At l) w (w.setCell (x.add i) v) := by
  obtain ⟨x, hx, hc⟩ := h.reads.at hi
  rcases h.2 with ⟨_, h2, _⟩ | ⟨g, cur, fz, ha, hb, hg, hz, hl, hm, hs, ht⟩
  · have := h.1; omega
  · rw [ha] at hx; cases hx
    have hil : i < cur.size := by have := h.1; omega
    refine ⟨_, ha, hc, ⟨⟨_, hc⟩, by rw [add_lit, Nat.zero_add]; exact frozen_z hg hz hil⟩, fun v => ⟨⟨by simpa using h.1, .inr ⟨g, cur.setIfInBounds i v, fz, ha, hb, ?_, by simpa using hz, hl, hm, by simpa using hs, ?_⟩⟩, .set _ _ _ ⟨_, ha, add_block _ _⟩⟩⟩
    · rw [add_lit, Nat.zero_add]; exact set_blk hg i v
    · rw [Array.toList_setIfInBounds, List.take_set, ht]
end
theorem setCells_blk (g : Nat) (e : TypeId) (fz : Nat × Nat) : ∀ (vs : List Value) (o : Nat) (cur : Array Value) (w : World), w.heap[g]? = some (.cells cur e fz) → o + vs.length ≤ cur.size →
    ∃ cur', (w.setCells g o vs).heap[g]? = some (.cells cur' e fz) ∧ cur'.size = cur.size ∧ cur'.toList.take (o + vs.length) = cur.toList.take o ++ vs
  | [], o, cur, w, h, hl => ⟨cur, h, rfl, by simp⟩
  | v :: r, o, cur, w, h, hl => by
    have h1 := set_blk h o v
    simp only [List.length_cons] at hl
    obtain ⟨cur', h2, h3, h4⟩ := setCells_blk g e fz r (o + 1) (cur.setIfInBounds o v) (w.setCell ⟨g, o, none⟩ v) h1 (by rw [Array.size_setIfInBounds]; omega)
    refine ⟨cur', h2, by simpa using h3, ?_⟩
    rw [List.length_cons, show o + (r.length + 1) = o + 1 + r.length by omega, h4, Array.toList_setIfInBounds, List.take_set]
    have ho : o < cur.toList.length := by simp; omega
    rw [List.take_succ_eq_append_getElem ho, List.set_append_right _ _ (by rw [List.length_take]; omega)]
    have : o - (cur.toList.take o).length = 0 := by rw [List.length_take]; omega
    rw [this]; simp
theorem setCells_fr (g : Nat) : ∀ (vs : List Value) (o : Nat) (w : World), Fr (· = g) w (w.setCells g o vs)
  | [], o, w => .refl _ _
  | v :: r, o, w => (Fr.set (· = g) w (a := ⟨g, o, none⟩) v rfl).trans' (setCells_fr g r (o + 1) _)
section
variable {P : Program} {t e : TypeId} {z : Value} {bytes : Nat} {w : World} {base : Nat} {l : Sl} {xs : List Value}
theorem append_z (el : El P t e z bytes) (h : OwnZ w base e l xs) (x : Addr) (c : Nat) (news : List Value) (hn : ∀ j u, news[j]? = some u → w.cell? (x.add j) = some u) (h1 : ∀ u ∈ news, u.oneCell' = true)
    (hm : xs.length + news.length ≤ maxLen) (hb : (xs.length + news.length) * bytes ≤ 140737488355328) (hbase : base ≤ w.heap.size) :
    ∃ w' l', (Builtin.append_ #[t, t] t #[.slice l.a l.len l.cap, .slice (some x) news.length c]).run P w = .ok (.slice l'.a l'.len l'.cap) w' ∧ OwnZ w' base e l' (xs ++ news) ∧ Fr (At l) w w' ∧ Since w l l' := by
  obtain ⟨i, hi, hi2⟩ := Option.map_eq_some_iff.1 el.info
  simp only [Prod.mk.injEq] at hi2
  obtain ⟨hz, hs1, hby⟩ := hi2
  have hlen := h.1
  rcases h.2 with ⟨ha, hl0, hc0⟩ | ⟨g, cur, fz, ha, hbg, hg, hzz, hl, hmx, hs, ht⟩
  · have hx : xs = [] := List.eq_nil_of_length_eq_zero (by omega)
    have ho : Own w base e l xs := ⟨hlen, .inl ⟨ha, hl0, hc0⟩⟩
    obtain ⟨w', l', hr, o', f'⟩ := append_run el ho x c news hn h1 hm hb hbase
    exact ⟨w', l', hr, .of o', f', since_run el ho x c news hn h1 hm hb hr⟩
  · have hml : maxLen ≤ 9223372036854775807 := by decide
    by_cases hroom : l.len + news.length ≤ l.cap
    · have hf := run_firstCells_some (P := P) w i.size news.length x news.length c news (by rw [hs1]; omega) hn
      have hst := run_storeCells_cells (P := P) g l.len news 0 w (fun j hj => by rw [Nat.add_zero, cell_blk hg]; simp; omega) (fun j hj => by rw [Nat.add_zero]; exact frozen_z hg hzz (by omega)) h1
      rw [Nat.add_zero] at hst
      obtain ⟨cur', k1, k2, k3⟩ := setCells_blk g e fz news l.len cur w hg (by omega)
      refine ⟨w.setCells g l.len news, ⟨l.a, l.len + news.length, l.cap⟩, ?_, ⟨by simp only [List.length_append]; omega, .inr ⟨g, cur', fz, ha, hbg, k1, by rw [k2]; exact hzz, hroom, hmx, by rw [k2]; exact hs, by simp only; rw [k3, ht]⟩⟩,
        (setCells_fr g news l.len w).mono fun k _ hk => ⟨_, ha, hk⟩, fun y hy => .inl ⟨y, hy, rfl⟩⟩
      rw [ha]
      rw [hs1] at hf
      simp [Builtin.append_, run_underlying el.sl, Go.sizeOf, typeInfo, hi, hs1, Builtin.lenOf, hroom, hf, Addr.add_lit, hst]
    · have holds : ∀ j u, xs[j]? = some u → w.cell? ((⟨g, 0, none⟩ : Addr).add j) = some u := fun j u hu => by
        obtain ⟨q, hq, hc⟩ := h.reads j u hu
        rw [ha] at hq; cases hq; exact hc
      have hr := run_append_grow (P := P) w t t e i z el.sl hi hz ⟨g, 0, none⟩ l.len l.cap xs (by rw [hs1]; omega) holds x news.length c news (by rw [hs1]; omega) hn (by omega) (by omega) (growslice_fits (by omega) (by rw [hby, ← hlen]; exact hb))
      have hge := grownCap_ge w (l.len + news.length) l.cap e
      have hcm2 : grownCap w (l.len + news.length) l.cap e ≤ maxLen := grownCap_le_maxLen w (l.len + news.length) l.cap e (by omega)
      rw [← ha] at hr
      refine ⟨_, ⟨some ⟨w.heap.size, 0, none⟩, l.len + news.length, grownCap w (l.len + news.length) l.cap e⟩, hr, ⟨by simp only [List.length_append]; omega, .inr ⟨w.heap.size, _, (0, 0), rfl, hbase, heap_alloc_new w.drew _, .inr rfl, hge, hcm2, ?_, ?_⟩⟩, ⟨rfl, rfl, rfl, by simp, fun k hk _ => alloc_old w.drew _ hk⟩, fun y hy => by cases hy; exact .inr (Nat.le_refl _)⟩
      · have := el.one
        simp only [Array.size_append, List.size_toArray, size_zeroCells, this, Nat.mul_one]
        omega
      · simp only [Array.toList_append, List.append_assoc]
        rw [← List.append_assoc]
        have : l.len + news.length = (xs ++ news).length := by rw [List.length_append]; omega
        rw [this]; exact List.take_left
theorem append_one_z (el : El P t e z bytes) (h : OwnZ w base e l xs) {v : Value} (hv : v.oneCell' = true)
    (hm : xs.length + 1 ≤ maxLen) (hb : (xs.length + 1) * bytes ≤ 140737488355328) (hbase : base ≤ w.heap.size) {w2 : World} (hw2 : w2 = w.alloc (.cells #[v] e)) :
    ∃ w' l', (Builtin.append_ #[t, t] t #[.slice l.a l.len l.cap, .slice (some ⟨w.heap.size, 0, none⟩) 1 1]).run P w2 = .ok (.slice l'.a l'.len l'.cap) w' ∧ OwnZ w' base e l' (xs ++ [v]) ∧
      Fr (At l) w w' ∧ Since w l l' := by
  subst hw2
  have h2 : OwnZ (w.alloc (.cells #[v] e)) base e l xs := h.keep (.alloc (fun _ => False) _ _) (by simp)
  obtain ⟨w', l', hr, ho, hf, hs⟩ := append_z el h2 ⟨w.heap.size, 0, none⟩ 1 [v] (fun j u hu => by
      cases j with
      | zero => simp at hu; subst hu; rw [add_lit, cell_blk (alloc_new w _)]; rfl
      | succ j => simp at hu) (by simpa using hv) (by simpa using hm) (by simpa using hb) (by simp; omega)
  refine ⟨w', l', hr, ho, (Fr.alloc _ _ _).trans' hf, fun y hy => ?_⟩
  rcases hs y hy with hx | hn
  · exact .inl hx
  · simp only [World.alloc, Array.size_push] at hn
    exact .inr (by omega)
theorem append_all_z (el : El P t e z bytes) (h : OwnZ w base e l xs) {src : Option Addr} (c : Nat) {news : List Value} (hr : Reads w src news) (h1 : ∀ u ∈ news, u.oneCell' = true)
    (hm : xs.length + news.length ≤ maxLen) (hb : (xs.length + news.length) * bytes ≤ 140737488355328) (hbase : base ≤ w.heap.size) {m : Nat} (hlen : news.length = m) :
    ∃ w' l', (Builtin.append_ #[t, t] t #[.slice l.a l.len l.cap, .slice src m c]).run P w = .ok (.slice l'.a l'.len l'.cap) w' ∧ OwnZ w' base e l' (xs ++ news) ∧
      Fr (At l) w w' ∧ Since w l l' := by
  subst hlen
  cases src with
  | some x => exact append_z el h x c news (fun j u hu => by obtain ⟨y, hy, hc⟩ := hr j u hu; cases hy; exact hc) h1 hm hb hbase
  | none =>
    have hn : news = [] := by
      cases news with
      | nil => rfl
      | cons v r => obtain ⟨y, hy, _⟩ := hr 0 v rfl; cases hy
    subst hn
    refine ⟨w, l, ?_, by simpa using h, .refl _ _, .refl _ _⟩
    obtain ⟨i, hi, hi2⟩ := Option.map_eq_some_iff.1 el.info
    have hcap := h.cap
    cases ha : l.a <;> simp [Builtin.append_, run_underlying el.sl, Go.sizeOf, typeInfo, hi, Builtin.lenOf, Builtin.firstCells, hcap, storeCells]
/-- '[]byte(s)'. -/
theorem bytes_of {src dst : TypeId} (hs : P.underlying src = some .string) (hd : P.underlying dst = some (.slice e)) (he : P.underlying e = some (.int .u8)) (s : ByteArray) (hl : s.size ≤ maxLen) (w : World) :
    ∃ w' l', (convert src dst (.string s)).run P w = .ok (.slice l'.a l'.len l'.cap) w' ∧ OwnZ w' w.heap.size e l' (byteV s.data.toList) ∧ Fr (fun _ => False) w w' := by
  have hr := run_bytes_of_string (P := P) w src dst e s hs hd he
  have hge := grownCap_ge w s.size 0 e
  have hcm2 : grownCap w s.size 0 e ≤ maxLen := grownCap_le_maxLen w s.size 0 e hl
  refine ⟨_, ⟨some ⟨w.heap.size, 0, none⟩, s.size, grownCap w s.size 0 e⟩, hr, ⟨by simp, .inr ⟨w.heap.size, _, _, rfl, Nat.le_refl _, heap_alloc_new w.drew _, .inl (Nat.le_refl _), hge, hcm2, ?_, ?_⟩⟩, ⟨rfl, rfl, rfl, by simp, fun k hk _ => alloc_old w.drew _ hk⟩⟩
  · have : s.data.size = s.size := rfl
    simp only [bytesRow, Array.size_append, Array.size_map, Array.size_replicate, this]; omega
  · have : s.size = (byteV s.data.toList).length := by simp
    simp only [bytesRow, Array.toList_append, Array.toList_map]
    rw [this]; exact List.take_left
end
end Vc

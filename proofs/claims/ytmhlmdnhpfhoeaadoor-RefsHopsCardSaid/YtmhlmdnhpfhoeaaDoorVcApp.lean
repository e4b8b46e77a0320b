/- Append to a slice of the call's own, with where the result lies; append of a string's bytes. No condition: for all programs. -/
import Derived.Test.YtmhlmdnhpfhoeaaDoorVcSl
import Derived.Lib.AppendStr
set_option linter.unusedVariables false
namespace Vc
open Go Go.Lib

/-- The second slice lies where the first one lay, or in a block that is new. -/
def Since (w : World) (l l' : Sl) : Prop := ∀ y, l'.a = some y → (∃ x, l.a = some x ∧ x.block = y.block) ∨ w.heap.size ≤ y.block
theorem Since.refl (w : World) (l : Sl) : Since w l l := fun y hy => .inl ⟨y, hy, rfl⟩
theorem Since.trans {w w' : World} {l l' l'' : Sl} (h : Since w l l') (h' : Since w' l' l'') (hs : w.heap.size ≤ w'.heap.size) : Since w l l'' := fun y hy => by
  rcases h' y hy with ⟨x, hx, hb⟩ | hn
  · rcases h x hx with ⟨z, hz, hb'⟩ | hn
    · exact .inl ⟨z, hz, hb'.trans hb⟩
    · exact .inr (by omega)
  · exact .inr (by omega)
/-- A block that is not the first one's and was there is not the second one's. -/
theorem Since.ne {w : World} {l l' : Sl} (h : Since w l l') {k : Nat} (hk : k < w.heap.size) (hn : ∀ x, l.a = some x → x.block ≠ k) : ∀ y, l'.a = some y → y.block ≠ k := fun y hy => by
  rcases h y hy with ⟨x, hx, hb⟩ | h
  · have := hn x hx; omega
  · omega
/-- The slice's own block. -/
def At (l : Sl) (k : Nat) : Prop := ∃ y, l.a = some y ∧ k = y.block

section
variable {P : Program} {t e : TypeId} {z : Value} {bytes : Nat} {w : World} {base : Nat} {l : Sl} {xs : List Value}
theorem since_run (el : El P t e z bytes) (h : Own w base e l xs) (x : Addr) (c : Nat) (news : List Value) (hn : ∀ j u, news[j]? = some u → w.cell? (x.add j) = some u) (h1 : ∀ u ∈ news, u.oneCell' = true)
    (hm : xs.length + news.length ≤ maxLen) (hb : (xs.length + news.length) * bytes ≤ 140737488355328)
    {l' : Sl} {w' : World} (hr : (Builtin.append_ #[t, t] t #[.slice l.a l.len l.cap, .slice (some x) news.length c]).run P w = .ok (.slice l'.a l'.len l'.cap) w') : Since w l l' := by
  obtain ⟨i, hi, hi2⟩ := Option.map_eq_some_iff.1 el.info
  simp only [Prod.mk.injEq] at hi2
  obtain ⟨hz, hs1, hby⟩ := hi2
  have hlen := h.1
  rcases h.2 with ⟨ha, hl0, hc0⟩ | ⟨g, cur, ha, hbg, hg, hl, hmx, hs, ht⟩
  · obtain ⟨w2, l2, hr2, ho2, _⟩ := append_run (w := w) (base := w.heap.size) (l := l) (xs := xs) el ⟨hlen, .inl ⟨ha, hl0, hc0⟩⟩ x c news hn h1 hm hb (Nat.le_refl _)
    rw [hr2] at hr
    simp only [Result.ok.injEq, Value.slice.injEq] at hr
    obtain ⟨⟨e1, _, _⟩, rfl⟩ := hr
    intro y hy
    exact .inr (ho2.blk (by rw [e1]; exact hy)).1
  · have hms : maxLen = 140737488355328 ∨ True := .inr trivial
    unfold maxLen at hm
    by_cases hroom : l.len + news.length ≤ l.cap
    · have hr2 := run_append_room (P := P) w t t e i el.sl hi g l.len l.cap cur hg x news.length c news (by rw [hs1]; omega) hn h1 hroom (by rw [hs1]; omega)
      rw [← ha] at hr2
      rw [hr2] at hr
      simp only [Result.ok.injEq, Value.slice.injEq] at hr
      intro y hy
      refine .inl ⟨y, ?_, rfl⟩
      rw [hr.1.1]; exact hy
    · have holds : ∀ j u, xs[j]? = some u → w.cell? ((⟨g, 0, none⟩ : Addr).add j) = some u := fun j u hu => by
        obtain ⟨q, hq, hc⟩ := h.reads j u hu
        rw [ha] at hq; cases hq; exact hc
      have hr2 := run_append_grow (P := P) w t t e i z el.sl hi hz ⟨g, 0, none⟩ l.len l.cap xs (by rw [hs1]; omega) holds x news.length c news (by rw [hs1]; omega) hn (by omega) (by omega) (growslice_fits (by omega) (by rw [hby, ← hlen]; exact hb))
      rw [← ha] at hr2
      rw [hr2] at hr
      simp only [Result.ok.injEq, Value.slice.injEq] at hr
      intro y hy
      rw [← hr.1.1] at hy
      cases hy
      exact .inr (Nat.le_refl _)
theorem append_one' (el : El P t e z bytes) (h : Own w base e l xs) {v : Value} (hv : v.oneCell' = true)
    (hm : xs.length + 1 ≤ maxLen) (hb : (xs.length + 1) * bytes ≤ 140737488355328) (hbase : base ≤ w.heap.size) {w2 : World} (hw2 : w2 = w.alloc (.cells #[v] e)) :
    ∃ w' l', (Builtin.append_ #[t, t] t #[.slice l.a l.len l.cap, .slice (some ⟨w.heap.size, 0, none⟩) 1 1]).run P w2 = .ok (.slice l'.a l'.len l'.cap) w' ∧ Own w' base e l' (xs ++ [v]) ∧
      Fr (At l) w w' ∧ Since w l l' := by
  obtain ⟨w', l', hr, ho, hf⟩ := append_one el h hv hm hb hbase hw2
  refine ⟨w', l', hr, ho, hf, ?_⟩
  subst hw2
  have h2 : Own (w.alloc (.cells #[v] e)) base e l xs := h.keep (.alloc (fun _ => False) _ _) (by simp)
  have := since_run el h2 ⟨w.heap.size, 0, none⟩ 1 [v] (fun j u hu => by
      cases j with
      | zero => simp at hu; subst hu; rw [add_lit, cell_blk (alloc_new w _)]; rfl
      | succ j => simp at hu) (by simpa using hv) (by simpa using hm) (by simpa using hb) (l' := l') (w' := w') hr
  intro y hy
  rcases this y hy with hx | hn
  · exact .inl hx
  · simp only [World.alloc, Array.size_push] at hn
    exact .inr (by omega)
theorem append_all' (el : El P t e z bytes) (h : Own w base e l xs) {src : Option Addr} (c : Nat) {news : List Value} (hr : Reads w src news) (h1 : ∀ u ∈ news, u.oneCell' = true)
    (hm : xs.length + news.length ≤ maxLen) (hb : (xs.length + news.length) * bytes ≤ 140737488355328) (hbase : base ≤ w.heap.size) {m : Nat} (hlen : news.length = m) :
    ∃ w' l', (Builtin.append_ #[t, t] t #[.slice l.a l.len l.cap, .slice src m c]).run P w = .ok (.slice l'.a l'.len l'.cap) w' ∧ Own w' base e l' (xs ++ news) ∧
      Fr (At l) w w' ∧ Since w l l' := by
  cases src with
  | some x =>
    subst hlen
    have hn : ∀ j u, news[j]? = some u → w.cell? (x.add j) = some u := fun j u hu => by obtain ⟨y, hy, hc⟩ := hr j u hu; cases hy; exact hc
    obtain ⟨w', l', h2, ho, hf⟩ := append_run el h x c news hn h1 hm hb hbase
    exact ⟨w', l', h2, ho, hf, since_run el h x c news hn h1 hm hb h2⟩
  | none =>
    have hn : news = [] := by
      cases news with
      | nil => rfl
      | cons v r => obtain ⟨y, hy, _⟩ := hr 0 v rfl; cases hy
    subst hn
    subst hlen
    refine ⟨w, l, ?_, by simpa using h, .refl _ _, .refl _ _⟩
    obtain ⟨i, hi, hi2⟩ := Option.map_eq_some_iff.1 el.info
    have hcap := h.cap
    cases ha : l.a <;> simp [Builtin.append_, run_underlying el.sl, Go.sizeOf, typeInfo, hi, Builtin.lenOf, Builtin.firstCells, hcap, storeCells]
/-- 'append(out, s...)', s a string. -/
theorem append_str {u : TypeId} (el : El P t e (.int .u8 0) 1) (hu : P.underlying u = some .string) (h : Own w base e l xs) (s : ByteArray)
    (hm : xs.length + s.size ≤ 140737488355328) (hbase : base ≤ w.heap.size) :
    ∃ w' l', (Builtin.append_ #[t, u] t #[.slice l.a l.len l.cap, .string s]).run P w = .ok (.slice l'.a l'.len l'.cap) w' ∧ Own w' base e l' (xs ++ byteV s.data.toList) ∧
      Fr (At l) w w' ∧ Since w l l' := by
  obtain ⟨i, hi, hi2⟩ := Option.map_eq_some_iff.1 el.info
  simp only [Prod.mk.injEq] at hi2
  obtain ⟨hz, hs1, hby⟩ := hi2
  have hlen := h.1
  have key : ∀ b, Own w b e l xs → b ≤ w.heap.size → ∃ w' l', (Builtin.append_ #[t, u] t #[.slice l.a l.len l.cap, .string s]).run P w = .ok (.slice l'.a l'.len l'.cap) w' ∧ Own w' b e l' (xs ++ byteV s.data.toList) ∧ Fr (At l) w w' := by
    intro b h hb
    obtain ⟨v', w', hr, ho, hg, _⟩ := run_append_own_string (P := P) w b t u t e i el.sl hu hi hz hs1 hby (.slice l.a l.len l.cap) l.len xs h.toRow s (by unfold maxLen; omega) (by omega) hb
    have hshape : ∃ a n c, v' = .slice a n c := by
      rcases ho.2 with ⟨h, _⟩ | ⟨g, cap, cur, h, _⟩
      · exact ⟨_, _, _, h⟩
      · exact ⟨_, _, _, h⟩
    obtain ⟨a, n, c', rfl⟩ := hshape
    refine ⟨w', ⟨a, n, c'⟩, hr, (Own.ofRow ho).1, (Fr.grown hg).mono fun k _ hk => ?_⟩
    cases ha : l.a with
    | none => simp [Value.ownBlock, ha] at hk
    | some y => simp [Value.ownBlock, ha] at hk; exact ⟨y, ha, hk⟩
  obtain ⟨w', l', hr, ho, hf⟩ := key base h hbase
  refine ⟨w', l', hr, ho, hf, ?_⟩
  rcases h.2 with ⟨ha, hl0, hc0⟩ | ⟨g, cur, ha, hbg, hg, hl, hmx, hs, ht⟩
  · obtain ⟨w2, l2, hr2, ho2, _⟩ := key w.heap.size ⟨hlen, .inl ⟨ha, hl0, hc0⟩⟩ (Nat.le_refl _)
    rw [hr2] at hr
    simp only [Result.ok.injEq, Value.slice.injEq] at hr
    obtain ⟨⟨e1, _, _⟩, rfl⟩ := hr
    intro y hy
    exact .inr (ho2.blk (by rw [e1]; exact hy)).1
  · by_cases hroom : l.len + s.size ≤ l.cap
    · have hr2 := run_append_room_string (P := P) w t u t e i el.sl hu hi hs1 g l.len l.cap cur hg s hroom (by omega)
      rw [← ha] at hr2
      rw [hr2] at hr
      simp only [Result.ok.injEq, Value.slice.injEq] at hr
      intro y hy
      refine .inl ⟨y, ?_, rfl⟩
      rw [hr.1.1]; exact hy
    · have holds : ∀ j u, xs[j]? = some u → w.cell? ((⟨g, 0, none⟩ : Addr).add j) = some u := fun j u hu => by
        obtain ⟨q, hq, hc⟩ := h.reads j u hu
        rw [ha] at hq; cases hq; exact hc
      have hr2 := run_append_grow_string (P := P) w t u t e i (.int .u8 0) el.sl hu hi hz ⟨g, 0, none⟩ l.len l.cap xs (by rw [hs1]; omega) holds s (by omega) (by omega) (by rw [hby]; exact growslice_fits (by omega) (by omega))
      rw [← ha] at hr2
      rw [hr2] at hr
      simp only [Result.ok.injEq, Value.slice.injEq] at hr
      intro y hy
      rw [← hr.1.1] at hy
      cases hy
      exact .inr (Nat.le_refl _)
end
end Vc

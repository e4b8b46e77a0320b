/- 'Parse'. Conditions: as named. -/
import Derived.Test.YtmhlmdnhpfhoeaaDoorModE
set_option linter.unusedVariables false
namespace Go.Proofs.YtmhlmdnhpfhoeaaDoor
open Go Vc Go.Proofs

theorem comment_len : ∀ l : List UInt8, (commentL l).length ≤ l.length
  | [] => Nat.le_refl _
  | c :: r => by
    have := comment_len r
    rw [commentL]; split <;> simp; omega
theorem quoted_len : ∀ (q : Bool) (l : List UInt8) (x : List UInt8 × List UInt8), quotedL q l = some x → x.2.length ≤ l.length
  | _, [], x, h => by rw [quotedL] at h; cases h
  | true, d :: r, x, h => by
    rw [quotedL] at h
    cases he : escL d with
    | none => rw [he] at h; cases h
    | some e =>
      rw [he] at h
      obtain ⟨y, hy, rfl⟩ := Option.map_eq_some_iff.1 h
      have := quoted_len false r y hy
      simp; omega
  | false, c :: r, x, h => by
    rw [quotedL] at h
    split at h
    · cases h
    split at h
    · cases h; simp
    split at h
    · have := quoted_len true r x h; simp; omega
    · obtain ⟨y, hy, rfl⟩ := Option.map_eq_some_iff.1 h
      have := quoted_len false r y hy
      simp; omega
theorem raw_len : ∀ (l : List UInt8) (x : List UInt8 × List UInt8), rawL l = some x → x.2.length ≤ l.length
  | [], x, h => by rw [rawL] at h; cases h
  | c :: r, x, h => by
    rw [rawL] at h
    split at h
    · cases h
    split at h
    · cases h; simp
    · obtain ⟨y, hy, rfl⟩ := Option.map_eq_some_iff.1 h
      have := raw_len r y hy
      simp; omega
theorem bare_len : ∀ l : List UInt8, (bareL l).2.length ≤ l.length
  | [] => Nat.le_refl _
  | c :: r => by
    have := bare_len r
    rw [bareL]; split <;> simp; omega
theorem next_len : ∀ (l : List UInt8) (k : Nat) (t r : List UInt8), nextL l = some (k, t, r) → k ≠ 4 → r.length < l.length
  | [], k, t, r, h, hk => by rw [nextL] at h; cases h; exact absurd rfl hk
  | c :: q, k, t, r, h, hk => by
    rw [nextL] at h
    split at h
    · have := next_len q k t r h hk; simp; omega
    split at h
    · cases h; simp
    split at h
    · cases h; simp
    split at h
    · cases h; simp
    split at h
    · rename_i h1 h2 h3 h4 hs
      have hc := comment_len (c :: q)
      cases hco : commentL (c :: q) with
      | nil => rw [hco] at h; cases h; exact absurd rfl hk
      | cons a rr =>
        rw [hco] at h hc
        cases h
        simp at hc ⊢; omega
    split at h
    · obtain ⟨y, hy, he⟩ := Option.map_eq_some_iff.1 h
      cases he
      have := quoted_len false q y hy
      simp; omega
    split at h
    · obtain ⟨y, hy, he⟩ := Option.map_eq_some_iff.1 h
      cases he
      have := raw_len q y hy
      simp; omega
    · rename_i h1 h2 h3 h4 hs h5 h6
      cases h
      rw [bareL, if_neg]
      · have := bare_len q
        simp; omega
      · rintro (e | e)
        · unfold isStop at e
          simp only [Bool.or_eq_true, beq_iff_eq] at e
          have h1a : c ≠ 32 := fun e => h1 (.inl e)
          have h1b : c ≠ 9 := fun e => h1 (.inr (.inl e))
          have h1c : c ≠ 13 := fun e => h1 (.inr (.inr e))
          rcases e with (((((((e | e) | e) | e) | e) | e) | e) | e) <;> contradiction
        · exact hs e
structure LnV where
  verb : ByteArray
  ws : Sl
  at_ : Nat
def encLn (x : LnV) : List Value := [.string x.verb, .slice x.ws.a x.ws.len x.ws.cap, .int .i64 (x.at_ : Int)]
theorem elLn : ElK encLn 3 Tryd.prog T_S_modfile_Line T_modfile_Line (.agg #[.string ⟨#[]⟩, .slice none 0 0, .int .i64 0]) 48 :=
  ⟨by kernel_rfl, by kernel_rfl, rfl, by decide, by kernel_rfl, fun _ => rfl, fun x u hu => by
    simp only [encLn, List.mem_cons, List.not_mem_nil, or_false] at hu
    rcases hu with rfl | rfl | rfl <;> rfl⟩
structure LnOK (w : World) (base m : Nat) (sl : Sl) (x : LnV) (e : LineE) : Prop where
  verb : x.verb = e.verb
  at_ : x.at_ = e.at_
  len : x.ws.len = e.words.length
  reads : Reads w x.ws.a (strV e.words)
  blk : ∀ y, x.ws.a = some y → base ≤ y.block ∧ y.block < m ∧ ∀ z, sl.a = some z → z.block ≠ y.block
/-- The directives, in blocks between base and m. -/
def LnsAt (w : World) (base m : Nat) (sl : Sl) (es : List LineE) : Prop :=
  ∃ ps : List (LnV × LineE), OwnK encLn 3 w base T_modfile_Line sl (ps.map (·.1)) ∧ ps.map (·.2) = es ∧ (∀ y, sl.a = some y → y.block < m) ∧ ∀ p ∈ ps, LnOK w base m sl p.1 p.2
section
variable {w w1 : World} {base m : Nat} {sl : Sl} {es : List LineE}
theorem LnsAt.keep (h : LnsAt w base m sl es) {X : Nat → Prop} (hf : Fr X w w1) (hx : ∀ k, base ≤ k → k < m → ¬ X k) : LnsAt w1 base m sl es := by
  obtain ⟨ps, h1, h2, h3, h4⟩ := h
  refine ⟨ps, h1.keep hf (fun x hx' => hx _ (h1.blk hx').1 (h3 x hx')), h2, h3, fun p hp => ?_⟩
  obtain ⟨a, b, c, d, e⟩ := h4 p hp
  exact ⟨a, b, c, d.keep hf (fun x hx' => hx _ (e x hx').1 (e x hx').2.1), e⟩
theorem LnsAt.mono (h : LnsAt w base m sl es) {m' : Nat} (hm : m ≤ m') : LnsAt w base m' sl es := by
  obtain ⟨ps, h1, h2, h3, h4⟩ := h
  refine ⟨ps, h1, h2, fun y hy => Nat.lt_of_lt_of_le (h3 y hy) hm, fun p hp => ?_⟩
  obtain ⟨a, b, c, d, e⟩ := h4 p hp
  exact ⟨a, b, c, d, fun y hy => ⟨(e y hy).1, Nat.lt_of_lt_of_le (e y hy).2.1 hm, (e y hy).2.2⟩⟩
theorem LnsAt.nil (w : World) (base m : Nat) : LnsAt w base m ⟨none, 0, 0⟩ [] := ⟨[], .nil _ _ _, rfl, fun y hy => (by cases hy), fun p hp => by simp at hp⟩
theorem LnsAt.low (h : LnsAt w base m sl es) {b : Nat} (hb : b ≤ base) : LnsAt w b m sl es := by
  obtain ⟨ps, h1, h2, h3, h4⟩ := h
  refine ⟨ps, h1.mono hb, h2, h3, fun p hp => ?_⟩
  obtain ⟨a, b, c, d, e⟩ := h4 p hp
  exact ⟨a, b, c, d, fun y hy => ⟨Nat.le_trans hb (e y hy).1, (e y hy).2⟩⟩
theorem LnsAt.len (h : LnsAt w base m sl es) : sl.len = es.length := by
  obtain ⟨ps, h1, h2, _⟩ := h
  rw [h1.len, ← h2, List.length_map, List.length_map]
theorem LnsAt.app (h : LnsAt w base m sl es) (hm : m ≤ w.heap.size) (hb : base ≤ w.heap.size) {x : LnV} {e : LineE} (h1 : x.verb = e.verb) (h2 : x.at_ = e.at_) (h3 : x.ws.len = e.words.length) (h4 : Reads w x.ws.a (strV e.words))
    (h5 : ∀ y, x.ws.a = some y → base ≤ y.block ∧ y.block < w.heap.size ∧ ∀ z, sl.a = some z → z.block ≠ y.block) (hl : es.length ≤ 70000) {w2 : World} (hw2 : w2 = w.alloc (.cells (encLn x).toArray T_modfile_Line)) :
    ∃ w' l', (Builtin.append_ #[T_S_modfile_Line, T_S_modfile_Line] T_S_modfile_Line #[.slice sl.a sl.len sl.cap, .slice (some ⟨w.heap.size, 0, none⟩) 1 1]).run Tryd.prog w2 = .ok (.slice l'.a l'.len l'.cap) w' ∧
      LnsAt w' base w'.heap.size l' (es ++ [e]) ∧ Fr (At sl) w w' := by
  obtain ⟨ps, p1, p2, p3, p4⟩ := h
  have hlen : (ps.map (·.1)).length ≤ 70000 := by rw [List.length_map]; rw [← p2, List.length_map] at hl; exact hl
  obtain ⟨w', l', hr, ho, hf, hs⟩ := append_oneK elLn p1 (x := x) (by unfold maxLen; omega) (by omega) hb hw2
  refine ⟨w', l', hr, ⟨ps ++ [(x, e)], by rw [List.map_append]; exact ho, by rw [List.map_append, p2]; rfl, fun y hy => (ho.blk hy).2, fun p hp => ?_⟩, hf⟩
  have key : ∀ (q : LnV × LineE), LnOK w base w.heap.size sl q.1 q.2 → LnOK w' base w'.heap.size l' q.1 q.2 := fun q ⟨a, b, c, d, e⟩ =>
    ⟨a, b, c, d.keep hf (fun y hy ⟨z, hz, hyz⟩ => (e y hy).2.2 z hz hyz.symm), fun y hy => ⟨(e y hy).1, Nat.lt_of_lt_of_le (e y hy).2.1 hf.size, fun z hz hzy => by
      rcases hs z hz with ⟨u, hu, huz⟩ | hn
      · exact (e y hy).2.2 u hu (huz.trans hzy)
      · have := (e y hy).2.1; omega⟩⟩
  rcases List.mem_append.1 hp with hp | hp
  · obtain ⟨a, b, c, d, e'⟩ := p4 p hp
    exact key p ⟨a, b, c, d, fun y hy => ⟨(e' y hy).1, Nat.lt_of_lt_of_le (e' y hy).2.1 hm, (e' y hy).2.2⟩⟩
  · simp at hp
    subst hp
    exact key (x, e) ⟨h1, h2, h3, h4, h5⟩
end
/-- What 'Parse' tells. -/
def PaV (w : World) (base : Nat) (res : PRes) (v : Value) : Prop :=
  match res with
  | .bad n => v = .tuple #[.slice none 0 0, .int .i64 (n : Int), .int .i64 3] ∧ n ≤ 70000
  | .good es => ∃ sl : Sl, v = .tuple #[.slice sl.a sl.len sl.cap, .int .i64 0, .int .i64 0] ∧ LnsAt w base w.heap.size sl es ∧ es.length ≤ 70000 ∧ ∀ e ∈ es, e.at_ ≤ 70000
theorem parse_big {s : ByteArray} (h : 65536 < s.size) (w : World) : Calls Tryd.prog F_modfile_Parse #[.string s] w fun e w' => e = .returned (.tuple #[.slice none 0 0, .int .i64 0, .int .i64 2]) ∧ w' = w := by
  refine vc_modfile_Parse_ok (R := fun v w' => v = .tuple #[.slice none 0 0, .int .i64 0, .int .i64 2] ∧ w' = w) ?_ (fun v w' h => ⟨by rw [h.1], h.2⟩)
  exact ⟨fun _ => ⟨rfl, rfl⟩, fun hn => by have := of_decide_eq_false hn; omega⟩
theorem parse_spec {s : ByteArray} (hs : s.size ≤ 65536) (w : World) : Calls Tryd.prog F_modfile_Parse #[.string s] w fun e w' =>
    ∃ v, e = .returned v ∧ Fr (fun _ => False) w w' ∧ ∃ res, PR s.data.toList 1 [] ⟨#[]⟩ false [] res ∧ PaV w' w.heap.size res v := by
  refine vc_modfile_Parse_ok (R := fun v w' => Fr (fun _ => False) w w' ∧ ∃ res, PR s.data.toList 1 [] ⟨#[]⟩ false [] res ∧ PaV w' w.heap.size res v) ?_ (fun v w' h => ⟨v, rfl, h⟩)
  refine ⟨fun hn => by have := of_decide_eq_true hn; omega, fun _ w1 h1 => ?_⟩
  have hlx1 : LxAt w1 w.heap.size s 0 1 := ⟨by rw [h1]; exact alloc_new _ _, Nat.zero_le _, hs, by omega⟩
  have hf1 : Fr (fun _ => False) w w1 := by rw [h1]; exact .alloc _ _ _
  have hs1 : w1.heap.size = w.heap.size + 1 := by rw [h1]; simp
  generalize hb : w.heap.size = b at *
  let St : Sl → Sl → ByteArray → Bool → World → Prop := fun l4 l5 verb inside w8 => ∃ p line m toks es, LxAt w8 b s p line ∧ b + 1 ≤ m ∧ m ≤ w8.heap.size ∧ OwnK encTk 3 w8 m T_modfile_token l5 toks ∧ LnsAt w8 (b + 1) m l4 es ∧ Fr (fun _ => False) w w8 ∧ toks.length ≤ p ∧ es.length ≤ p ∧ (∀ e ∈ es, e.at_ ≤ 70000) ∧
    ∀ res, PR (s.data.toList.drop p) line toks verb inside es res → PR s.data.toList 1 [] ⟨#[]⟩ false [] res
  refine ⟨St, fun _ _ _ _ w' => s.size - cellN w' ⟨b, 1, none⟩, ⟨0, 1, b + 1, [], [], hlx1, Nat.le_refl _, by omega, .nil _ _ _, .nil _ _ _, hf1, Nat.le_refl _, Nat.le_refl _, (fun e he => by simp at he), fun res h => h⟩, ?_⟩
  rintro l4 l5 verb inside w8 ⟨p, line, m, toks, es, hlx, hbm, hm, hown, hlns, hF8, htp, hep, hat, hPR⟩
  have hline : line ≤ 70000 := by have := hlx.hl; have := hlx.hi; have := hlx.sz; omega
  have hpl := hlx.hi
  refine (next_spec hlx).mono ?_
  rintro e w10 ⟨v, rfl, hf10, hres⟩
  have hF10 : Fr (fun _ => False) w w10 := hF8.trans hf10 fun q hq e => by omega
  have hb8 := lt_blk hlx.blk
  have hz10 := hf10.size
  have hown10 := hown.keep hf10 (fun x hx => by have := (hown.blk hx).1; omega)
  have hlns10 := hlns.keep hf10 (fun k hk _ => by omega)
  rcases hres with ⟨hZ, k, t, rfl⟩ | ⟨k, x, rr, j, hZ, rfl, hlj, hdj, hpj⟩
  · refine ⟨_, _, _, _, rfl, fun w15 h15 => ?_⟩
    have ht15 : TkAt w15 w10.heap.size 0 ⟨#[]⟩ 0 := by rw [h15]; exact alloc_new _ _
    obtain ⟨w16, g1, g2, g3⟩ := ht15.store (k := k) (t := t) (n := line)
    have hF16 : Fr (fun _ => False) w w16 := (hF10.trans' (by rw [h15]; exact .alloc _ _ _)).trans g3 fun q hq e => by have := hF10.size; omega
    exact ⟨w16, g1, fun _ => ⟨_, by rw [cell_blk g2]; rfl, fun w18 d18 => ⟨hF16.trans' (.drew _ d18), _, hPR _ (.none hZ), rfl, hline⟩⟩, fun h => by cases h⟩
  refine ⟨_, _, _, _, rfl, fun w15 h15 => ?_⟩
  have hf15 : Fr (fun _ => False) w10 w15 := by rw [h15]; exact .alloc _ _ _
  have ht15 : TkAt w15 w10.heap.size 0 ⟨#[]⟩ 0 := by rw [h15]; exact alloc_new _ _
  obtain ⟨w16, g1, g2, g3⟩ := ht15.store (k := k) (t := ⟨x.toArray⟩) (n := line)
  have hf16 : Fr (fun _ => False) w10 w16 := hf15.trans g3 fun q hq e => by omega
  have hF16 : Fr (fun _ => False) w w16 := hF10.trans' hf16
  have hz16 := hf16.size
  have htb : w10.heap.size < w16.heap.size := lt_blk g2
  have hown16 := hown10.keep hf16 (by simp)
  have hlns16 := hlns10.keep hf16 (by simp)
  have hlj16 := hlj.keep hf16 (by simp)
  have hjs := hlj.hi
  refine ⟨w16, g1, fun h => (by cases h), fun _ => ?_⟩
  have hlt : k ≠ 4 → p < j := fun hk => by
    have := next_len _ _ _ _ hZ hk
    rw [← hdj, List.length_drop, List.length_drop, bs_len] at this
    omega
  have hc0 : w16.cell? ⟨w10.heap.size, 0, none⟩ = some (.int .i64 (k : Int)) := by rw [cell_blk g2]; rfl
  have hc2 : w16.cell? ⟨w10.heap.size, 2, none⟩ = some (.int .i64 (line : Int)) := by rw [cell_blk g2]; rfl
  generalize htbe : w10.heap.size = tb at *
  have hmeas : ∀ {w' : World} {q line' : Nat}, LxAt w' b s q line' → p < q → q ≤ s.size → s.size - cellN w' ⟨b, 1, none⟩ < s.size - cellN w8 ⟨b, 1, none⟩ := fun h1 h2 h3 => by
    rw [cellN_of h1.c1, cellN_of hlx.c1]; omega
  refine ⟨fun sl w' => sl = ⟨l5.a, l5.len, l5.cap⟩ ∧ w' = w16 ∧ (k = 3 ∨ k = 4), ⟨_, hc0, fun h3 => ⟨_, hc0, fun h4 => ?_, fun h4 => ⟨rfl, rfl, .inr ?_⟩⟩, fun h3 => ⟨rfl, rfl, .inl ?_⟩⟩, ?_⟩
  · have h3 : k ≠ 3 := fun e => by rw [e] at h3; simp at h3
    have h4 : k ≠ 4 := fun e => by rw [e] at h4; simp at h4
    refine ⟨_, _, _, g2.load, fun w25 h25 => ?_⟩
    obtain ⟨w26, l27, hrun, ho26, hf26, hs26⟩ := append_oneK elTk hown16 (x := (⟨k, ⟨x.toArray⟩, line⟩ : Tok)) (by unfold maxLen; omega) (by omega) (by omega) h25
    refine ⟨w26, l27, hrun, ?_⟩
    have hx : ∀ q, q < m → ¬ At l5 q := fun q hq ⟨y, hy, e⟩ => by have := (hown16.blk hy).1; omega
    have hl26 := hlj16.keep hf26 (hx _ (by omega))
    rw [if_neg h3] at hl26
    have hpj := hlt h4
    refine ⟨⟨j, line, m, _, es, hl26, hbm, by have := hf26.size; omega, ho26, hlns16.keep hf26 (fun q _ hq => hx q hq), hF16.trans hf26 (fun q hq hh => hx q (by omega) hh), by rw [List.length_append, List.length_singleton]; omega, by omega, hat, fun res hres => hPR res (.tok hZ h3 h4 (by rw [← hdj]; exact hres))⟩, hmeas hl26 hpj hjs⟩
  · have := h4; simp at this; omega
  · have := h3; simp at this; omega
  rintro sl w29 ⟨rfl, rfl, hk⟩
  have hn : toks.length = l5.len := hown.1
  refine (line_spec (hown16.reads (fun _ => rfl)) hn hown.cap (by omega) verb inside).mono ?_
  rintro e w31 ⟨v, rfl, hf31, hres⟩
  have hz31 := hf31.size
  have hF31 := hF16.trans' hf31
  rcases hres with ⟨hL, s1, l1, n1, s2, rfl⟩ | ⟨vb, ws, op, l1, hL, rfl, how⟩
  · refine ⟨_, _, _, _, _, rfl, fun w37 h37 => ?_⟩
    have hf37 : Fr (fun _ => False) w31 w37 := by rw [h37]; exact .alloc _ _ _
    have hl37 : LnAt w37 w31.heap.size ⟨#[]⟩ ⟨none, 0, 0⟩ 0 := by rw [h37]; exact alloc_new _ _
    obtain ⟨w38, k1, k2, k3⟩ := hl37.store s1 l1 n1
    have hf38 : Fr (fun _ => False) w31 w38 := hf37.trans k3 fun q hq e => by omega
    exact ⟨w38, k1, fun _ => ⟨_, (hf31.trans' hf38).cell hc2 (by simp), fun w40 d40 => ⟨(hF31.trans' hf38).trans' (.drew _ d40), _, hPR _ (.line hZ hk hL), rfl, hline⟩⟩, fun h => by cases h⟩
  refine ⟨_, _, _, _, _, rfl, fun w37 h37 => ?_⟩
  have hf37 : Fr (fun _ => False) w31 w37 := by rw [h37]; exact .alloc _ _ _
  have hl37 : LnAt w37 w31.heap.size ⟨#[]⟩ ⟨none, 0, 0⟩ 0 := by rw [h37]; exact alloc_new _ _
  obtain ⟨w38, k1, k2, k3⟩ := hl37.store vb l1 0
  have hf38 : Fr (fun _ => False) w31 w38 := hf37.trans k3 fun q hq e => by omega
  have hf38' := hf31.trans' hf38
  have hF38 := hF31.trans' hf38
  have hlb : w31.heap.size < w38.heap.size := lt_blk k2
  have hc0' := hf38'.cell hc0 (by simp)
  have hc2' := hf38'.cell hc2 (by simp)
  have hlx38 := hlj16.keep hf38' (by simp)
  have hlns38 := hlns16.keep hf38' (by simp)
  have hown38 := hown16.keep hf38' (by simp)
  have how38 := how.keep hf38 (by simp)
  have hbig : m ≤ w38.heap.size := by omega
  -- what is said of the rest
  have hnext : k = 3 → ∀ v' i' o', stepL toks verb inside es line (vb, ws, op) = (v', i', o') → LxAt w38 b s j (line + 1) ∧ p < j ∧ ∀ res, PR (s.data.toList.drop j) (line + 1) [] v' i' o' res → PR s.data.toList 1 [] ⟨#[]⟩ false [] res := fun hk3 v' i' o' hst => by
    subst hk3
    refine ⟨hlx38, hlt (by decide), fun res hres => hPR res (.next hZ hL ?_)⟩
    rw [hst, ← hdj]; exact hres
  have hdone : k = 4 → ∀ v' o', stepL toks verb inside es line (vb, ws, op) = (v', false, o') → PR s.data.toList 1 [] ⟨#[]⟩ false [] (.good o') := fun hk4 v' o' hst => by
    subst hk4
    have := PR.done (out := es) hZ hL (by rw [hst])
    rw [hst] at this
    exact hPR _ this
  have hopen : k = 4 → ∀ v' o', stepL toks verb inside es line (vb, ws, op) = (v', true, o') → PR s.data.toList 1 [] ⟨#[]⟩ false [] (.bad line) := fun hk4 v' o' hst => by
    subst hk4
    exact hPR _ (PR.open_ (out := es) hZ hL (by rw [hst]))
  have hk3 : ((k : Int) == 4) = false → k = 3 := fun h => hk.resolve_right fun e => by rw [e] at h; simp at h
  have hk4 : ((k : Int) == 4) = true → k = 4 := fun h => by have := eq_of_beq h; omega
  refine ⟨w38, k1, fun h => (by cases h), fun _ => ⟨fun bb w' => w' = w38 ∧ (bb = true ↔ (inside = true ∧ toks.map (·.kind) = [2])), ⟨fun hin => ⟨fun h1 => ?_, fun h1 => ⟨rfl, ?_⟩⟩, fun hin => ⟨rfl, ?_⟩⟩, ?_⟩⟩
  · have h1 : l5.len = 1 := by have := eq_of_beq h1; simp only at this; omega
    obtain ⟨t, rfl⟩ := List.length_eq_one_iff.1 (hn.trans h1)
    obtain ⟨ad, had, hd0, _, _⟩ := tok_at (hown38.reads (fun _ => rfl)) (i := 0) rfl
    refine ⟨⟨by omega, by simp only; omega⟩, ad, had, _, hd0, rfl, ?_⟩
    simp [hin]; omega
  · refine ⟨fun h => (by cases h), fun h => ?_⟩
    have := congrArg List.length h.2
    rw [List.length_map, hn] at this
    simp only [List.length_singleton] at this
    simp only [this] at h1
    simp at h1
  · refine ⟨fun h => (by cases h), fun h => ?_⟩
    rw [h.1] at hin; cases hin
  rintro bb w45 ⟨hw, hbb⟩
  subst hw
  refine ⟨fun ht => ⟨_, hc0', fun h4 => ?_, fun h4 => ?_⟩, fun hft => ?_⟩
  · have hst : stepL toks verb inside es line (vb, ws, op) = (verb, false, es) := by unfold stepL; rw [if_pos (hbb.1 ht)]
    exact ⟨hF38, _, hdone (hk4 h4) _ _ hst, ⟨l4.a, l4.len, l4.cap⟩, rfl, (hlns38.mono hbig).low (by omega), by omega, hat⟩
  · have hst : stepL toks verb inside es line (vb, ws, op) = (verb, false, es) := by unfold stepL; rw [if_pos (hbb.1 ht)]
    obtain ⟨a1, a2, a3⟩ := hnext (hk3 h4) _ _ _ hst
    exact ⟨⟨j, line + 1, w45.heap.size, [], es, a1, by omega, Nat.le_refl _, .nil _ _ _, hlns38.mono hbig, hF38, Nat.zero_le _, by omega, hat, a3⟩, hmeas a1 a2 hjs⟩
  have hst0 : ¬ (inside = true ∧ toks.map (·.kind) = [2]) := fun h => by rw [hbb.2 h] at hft; cases hft
  rw [bs_eq]
  refine ⟨fun hop => ⟨_, hc0', fun h4 => ?_, fun h4 => ?_⟩, fun hop => ⟨fun hpos => ?_, fun hpos => ?_⟩⟩
  · have hop : op ≠ ⟨#[]⟩ := by simpa using hop
    have hst : stepL toks verb inside es line (vb, ws, op) = (op, true, es) := by unfold stepL; rw [if_neg hst0, if_pos hop]
    exact ⟨_, hc2', fun w49 d49 => ⟨hF38.trans' (.drew _ d49), _, hopen (hk4 h4) _ _ hst, rfl, hline⟩⟩
  · have hop : op ≠ ⟨#[]⟩ := by simpa using hop
    have hst : stepL toks verb inside es line (vb, ws, op) = (op, true, es) := by unfold stepL; rw [if_neg hst0, if_pos hop]
    obtain ⟨a1, a2, a3⟩ := hnext (hk3 h4) _ _ _ hst
    exact ⟨⟨j, line + 1, w45.heap.size, [], es, a1, by omega, Nat.le_refl _, .nil _ _ _, hlns38.mono hbig, hF38, Nat.zero_le _, by omega, hat, a3⟩, hmeas a1 a2 hjs⟩
  · have hop : op = ⟨#[]⟩ := by simpa using hop
    have hpos := of_decide_eq_true hpos
    have hne : toks.map (·.kind) ≠ [] := fun e => by
      have := congrArg List.length e
      rw [List.length_map, hn] at this
      simp only [List.length_nil] at this
      simp only [this] at hpos
      simp at hpos
    have hst : stepL toks verb inside es line (vb, ws, op) = (verb, inside, es ++ [⟨vb, ws, line⟩]) := by unfold stepL; rw [if_neg hst0, if_neg (fun h => h hop), if_pos hne]
    have hat' : ∀ e ∈ es ++ [(⟨vb, ws, line⟩ : LineE)], e.at_ ≤ 70000 := fun e he => by
      rcases List.mem_append.1 he with he | he
      · exact hat e he
      · simp at he; rw [he]; exact hline
    refine ⟨_, hc2', k2.wr2, fun w51 h51 => ?_⟩
    have hf51 : Fr (· = w31.heap.size) w45 w51 := by rw [h51]; exact .set _ _ _ rfl
    have hl51 : LnAt w51 w31.heap.size vb l1 line := by rw [h51]; exact k2.at1 _
    have hz51 := hf51.size
    refine ⟨_, l1, _, hl51.load, fun w55 h55 => ?_⟩
    have hlns51 : LnsAt w51 (b + 1) m l4 es := hlns38.keep hf51 (fun q _ hq => by omega)
    have how51 := how38.keep hf51 (fun x hx => by have := (how.blk hx).2; omega)
    obtain ⟨w56, l57, hrun, hl56, hf56⟩ := hlns51.app (by omega) (by omega) (x := ⟨vb, l1, line⟩) (e := ⟨vb, ws, line⟩) rfl rfl (by rw [how.len, strV, List.length_map]) how51.reads (fun y hy => ⟨by have := (how51.blk hy).1; omega, (how51.blk hy).2, fun z hz => by
      have h1 := (how51.blk hy).1
      obtain ⟨ps, _, _, hp3, _⟩ := hlns51
      have := hp3 z hz
      omega⟩) (by omega) h55
    have hx : ∀ q, m ≤ q ∨ q ≤ b → ¬ At l4 q := fun q hq ⟨y, hy, e⟩ => by
      obtain ⟨ps, hp1, _, hp3, _⟩ := hlns51
      have := hp3 y hy
      have := (hp1.blk hy).1
      omega
    have hfE : Fr (fun q => b < q ∧ q < m ∨ q = w31.heap.size) w45 w56 := (hf51.mono fun q _ e => .inr e).trans hf56 fun q hq hh => .inl (by
      by_cases hc : m ≤ q ∨ q ≤ b
      · exact absurd hh (hx q hc)
      · omega)
    have hF56 : Fr (fun _ => False) w w56 := hF38.trans hfE fun q hq hh => by rcases hh with hh | hh <;> omega
    have hc0E := hfE.cell hc0' (by simp only; omega)
    have hc2E := hfE.cell hc2' (by simp only; omega)
    refine ⟨w56, l57, hrun, _, hc0E, fun h4 => ⟨fun hin => ?_, fun hin => ?_⟩, fun h4 => ?_⟩
    · exact ⟨_, hc2E, fun w60 d60 => ⟨hF56.trans' (.drew _ d60), _, hopen (hk4 h4) verb (es ++ [⟨vb, ws, line⟩]) (hst.trans (by rw [hin])), rfl, hline⟩⟩
    · exact ⟨hF56, _, hdone (hk4 h4) verb (es ++ [⟨vb, ws, line⟩]) (hst.trans (by rw [hin])), l57, rfl, hl56.low (by omega), by rw [List.length_append, List.length_singleton]; omega, hat'⟩
    · obtain ⟨a1, a2, a3⟩ := hnext (hk3 h4) _ _ _ hst
      have a1' := a1.keep hfE (by omega)
      exact ⟨⟨j, line + 1, w56.heap.size, [], _, a1', by have := hfE.size; omega, Nat.le_refl _, .nil _ _ _, hl56, hF56, Nat.zero_le _, by rw [List.length_append, List.length_singleton]; omega, hat', a3⟩, hmeas a1' a2 hjs⟩
  · have hop : op = ⟨#[]⟩ := by simpa using hop
    have hpos := of_decide_eq_false hpos
    have he : toks.map (·.kind) = [] := by
      rw [List.map_eq_nil_iff, ← List.length_eq_zero_iff, hn]
      simp only at hpos; omega
    have hst : stepL toks verb inside es line (vb, ws, op) = (verb, inside, es) := by unfold stepL; rw [if_neg hst0, if_neg (fun h => h hop), if_neg (fun h => h he)]
    refine ⟨_, hc0', fun h4 => ⟨fun hin => ?_, fun hin => ?_⟩, fun h4 => ?_⟩
    · exact ⟨_, hc2', fun w60 d60 => ⟨hF38.trans' (.drew _ d60), _, hopen (hk4 h4) verb es (hst.trans (by rw [hin])), rfl, hline⟩⟩
    · exact ⟨hF38, _, hdone (hk4 h4) verb es (hst.trans (by rw [hin])), l4, rfl, (hlns38.mono hbig).low (by omega), by omega, hat⟩
    · obtain ⟨a1, a2, a3⟩ := hnext (hk3 h4) _ _ _ hst
      exact ⟨⟨j, line + 1, w45.heap.size, [], es, a1, by omega, Nat.le_refl _, .nil _ _ _, hlns38.mono hbig, hF38, Nat.zero_le _, by omega, hat, a3⟩, hmeas a1 a2 hjs⟩
end Go.Proofs.YtmhlmdnhpfhoeaaDoor

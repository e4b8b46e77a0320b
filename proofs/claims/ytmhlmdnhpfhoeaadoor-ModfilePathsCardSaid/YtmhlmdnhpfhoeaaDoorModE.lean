/- A line's directive. Conditions: as named. -/
import Derived.Test.YtmhlmdnhpfhoeaaDoorModD
import Derived.Test.YtmhlmdnhpfhoeaaDoorVcSlK
import Derived.Test.YtmhlmdnhpfhoeaaDoorSnapR
set_option linter.unusedVariables false
namespace Go.Proofs.YtmhlmdnhpfhoeaaDoor
open Go Vc Go.Proofs

def encTk (t : Tok) : List Value := [.int .i64 (t.kind : Int), .string t.text, .int .i64 (t.at_ : Int)]
theorem elTk : ElK encTk 3 Tryd.prog T_S_modfile_token T_modfile_token (.agg #[.int .i64 0, .string ⟨#[]⟩, .int .i64 0]) 32 :=
  ⟨by kernel_rfl, by kernel_rfl, rfl, by decide, by kernel_rfl, fun _ => rfl, fun x u hu => by
    simp only [encTk, List.mem_cons, List.not_mem_nil, or_false] at hu
    rcases hu with rfl | rfl | rfl <;> rfl⟩
/-- A directive in a block of its own. -/
def LnAt (w : World) (g : Nat) (v : ByteArray) (l : Sl) (n : Int) : Prop := w.heap[g]? = some (.cells #[.string v, .slice l.a l.len l.cap, .int .i64 n] T_modfile_Line (0, 0))
section
variable {w w2 : World} {g r : Nat} {v : ByteArray} {l : Sl} {n : Int}
theorem LnAt.drew (h : LnAt w g v l n) (d : Drew w w2) : LnAt w2 g v l n := by unfold LnAt; rw [d.heap]; exact h
theorem LnAt.keep (h : LnAt w g v l n) {X : Nat → Prop} (hf : Fr X w w2) (hx : ¬ X g) : LnAt w2 g v l n := hf.keep h hx
theorem LnAt.verb (h : LnAt w g v l n) (u : ByteArray) : LnAt (w.setCell ⟨g, 0, none⟩ (.string u)) g u l n := by unfold LnAt; rw [set_blk h]; rfl
theorem LnAt.words (h : LnAt w g v l n) (u : Sl) : LnAt (w.setCell ⟨g, 1, none⟩ (.slice u.a u.len u.cap)) g v u n := by unfold LnAt; rw [set_blk h]; rfl
theorem LnAt.at1 (h : LnAt w g v l n) (u : Int) : LnAt (w.setCell ⟨g, 2, none⟩ (.int .i64 u)) g v l u := by unfold LnAt; rw [set_blk h]; rfl
theorem LnAt.wr0 (h : LnAt w g v l n) : Wr w ⟨g, 0, none⟩ := wr_blk h (by simp)
theorem LnAt.wr1 (h : LnAt w g v l n) : Wr w ⟨g, 1, none⟩ := wr_blk h (by simp)
theorem LnAt.wr2 (h : LnAt w g v l n) : Wr w ⟨g, 2, none⟩ := wr_blk h (by simp)
theorem LnAt.c1 (h : LnAt w g v l n) : w.cell? ⟨g, 1, none⟩ = some (.slice l.a l.len l.cap) := by rw [cell_blk h]; rfl
theorem LnAt.load (h : LnAt w g v l n) : (loadVar T_modfile_Line ⟨g, 0, none⟩).run Tryd.prog w = .ok (.agg #[.string v, .slice l.a l.len l.cap, .int .i64 n]) w :=
  load_agg (vs := [.string v, .slice l.a l.len l.cap, .int .i64 n]) (agg_of (by kernel_rfl)) (by kernel_rfl) (fun j v hv => by
    rw [add_lit, cell_blk h, Nat.zero_add]; simpa using hv)
theorem LnAt.store {v' : ByteArray} {l' : Sl} {n' : Int} (h : LnAt w r v' l' n') (v : ByteArray) (l : Sl) (n : Int) : ∃ w', (storeVar T_modfile_Line ⟨r, 0, none⟩ (.agg #[.string v, .slice l.a l.len l.cap, .int .i64 n])).run Tryd.prog w = .ok PUnit.unit w' ∧ LnAt w' r v l n ∧ Fr (· = r) w w' := by
  have hs := run_storeVar_row (P := Tryd.prog) w r T_modfile_Line T_modfile_Line _ #[.string v, .slice l.a l.len l.cap, .int .i64 n] h (by kernel_rfl) rfl (by simp [Value.oneCell'])
  exact ⟨_, hs, setRow_heap w r _ _ T_modfile_Line (0, 0) h, setRow_frM _ w r _ rfl⟩
theorem fin_ln {v' : ByteArray} {l' : Sl} {n' : Int} (h : LnAt w r v' l' n') (v : ByteArray) (l : Sl) (n : Int) {Q : ByteArray → Sl → Int → World → Prop} (hQ : ∀ w', LnAt w' r v l n → Fr (· = r) w w' → Q v l n w') :
    ∃ w', (storeVar T_modfile_Line ⟨r, 0, none⟩ (.agg #[.string v, .slice l.a l.len l.cap, .int .i64 n])).run Tryd.prog w = .ok PUnit.unit w' ∧
      ∃ s1 : ByteArray, ∃ l1 : Sl, ∃ n1 : Int, (loadVar T_modfile_Line ⟨r, 0, none⟩).run Tryd.prog w' = .ok (.agg #[.string s1, .slice l1.a l1.len l1.cap, .int .i64 n1]) w' ∧ Q s1 l1 n1 w' := by
  obtain ⟨w', h1, h2, h3⟩ := h.store v l n
  exact ⟨w', h1, v, l, n, h2.load, hQ w' h2 h3⟩
end
theorem tok_at {w : World} {a : Option Addr} {toks : List Tok} (h : ReadsK encTk 3 w a toks) {i : Nat} {t : Tok} (hi : toks[i]? = some t) :
    ∃ ad, a = some ad ∧ w.cell? (ad.add (i * 3)) = some (.int .i64 (t.kind : Int)) ∧ w.cell? ((ad.add (i * 3)).add 1) = some (.string t.text) ∧ (loadVar T_modfile_token (ad.add (i * 3))).run Tryd.prog w = .ok (.agg #[.int .i64 (t.kind : Int), .string t.text, .int .i64 (t.at_ : Int)]) w := by
  obtain ⟨ad, ha, hc⟩ := h i t hi
  obtain ⟨ad2, ha2, hl⟩ := h.load elTk hi
  rw [ha] at ha2
  cases ha2
  exact ⟨ad, ha, hc 0 _ rfl, hc 1 _ rfl, hl⟩
/-- What 'line' tells. -/
def LR (w w' : World) (toks : List Tok) (verb : ByteArray) (inside : Bool) (v : Value) : Prop :=
  Fr (fun _ => False) w w' ∧ ((lineL toks verb inside = none ∧ ∃ (s1 : ByteArray) (l1 : Sl) (n1 : Int) (s2 : ByteArray), v = .tuple #[.agg #[.string s1, .slice l1.a l1.len l1.cap, .int .i64 n1], .string s2, .bool false]) ∨
    ∃ vb ws op, ∃ l1 : Sl, lineL toks verb inside = some (vb, ws, op) ∧ v = .tuple #[.agg #[.string vb, .slice l1.a l1.len l1.cap, .int .i64 0], .string op, .bool true] ∧ Vc.Own w' w.heap.size T_string l1 (strV ws))
theorem all_take {rest : List Tok} {k : Nat} {t : Tok} (hk : rest[k]? = some t) (h : ∀ x ∈ rest.take k, x.kind = 0) (ht : t.kind = 0) : ∀ x ∈ rest.take (k + 1), x.kind = 0 := by
  intro x hx
  rw [List.take_add_one, hk] at hx
  rcases List.mem_append.1 hx with hx | hx
  · exact h x hx
  · simp at hx; rw [hx]; exact ht
theorem line_spec {w : World} {a : Option Addr} {n c : Nat} {toks : List Tok} (hr : ReadsK encTk 3 w a toks) (hn : toks.length = n) (hc : n ≤ c) (hl : n ≤ 65537) (verb : ByteArray) (inside : Bool) :
    Calls Tryd.prog F_modfile_line #[.slice a n c, .string verb, .bool inside] w fun e w' => ∃ v, e = .returned v ∧ LR w w' toks verb inside v := by
  refine vc_modfile_line_ok (R := fun v w' => LR w w' toks verb inside v) ?_ (fun v w' h => ⟨v, rfl, h⟩)
  intro w1 h1
  have hf1 : Fr (fun _ => False) w w1 := by rw [h1]; exact .alloc _ _ _
  have hr1 : LnAt w1 w.heap.size ⟨#[]⟩ ⟨none, 0, 0⟩ 0 := by rw [h1]; exact alloc_new _ _
  have hs1 : w1.heap.size = w.heap.size + 1 := by rw [h1]; simp
  have hR1 := hr.keep hf1 (by simp)
  generalize hg : w.heap.size = r at *
  have new : ∀ {w2 w3 : World}, Fr (fun _ => False) w w2 → Fr (· = r) w2 w3 → Fr (fun _ => False) w w3 := fun h2 h3 => h2.trans h3 fun q hq e => by omega
  refine ⟨fun w' => w' = w1 ∧ toks ≠ [] ∧ ¬ (inside = true ∧ n = 1 ∧ toks.map (·.kind) = [2]), ⟨fun h0 => ?_, fun h0 => ⟨fun hin => ⟨fun hn1 => ?_, fun hn1 => ?_⟩, fun hin => ?_⟩⟩, ?_⟩
  · have h0 : toks = [] := List.length_eq_zero_iff.1 (by have := eq_of_beq h0; omega)
    subst h0
    exact fin_ln hr1 ⟨#[]⟩ ⟨none, 0, 0⟩ 0 fun w' h2 h3 => ⟨new hf1 h3, .inr ⟨⟨#[]⟩, [], ⟨#[]⟩, ⟨none, 0, 0⟩, rfl, rfl, .nil _ _ _⟩⟩
  · have hn1 : n = 1 := by have := eq_of_beq hn1; omega
    obtain ⟨t, rfl⟩ := List.length_eq_one_iff.1 (hn.trans hn1)
    obtain ⟨ad, had, hc0, hc1, _⟩ := tok_at hR1 (i := 0) rfl
    refine ⟨⟨by omega, by omega⟩, ad, had, _, hc0, fun h2 => ?_, fun h2 => ⟨rfl, by simp, fun hh => ?_⟩⟩
    · have hk : t.kind = 2 := by have := eq_of_beq h2; omega
      exact fin_ln hr1 ⟨#[]⟩ ⟨none, 0, 0⟩ 0 fun w' h2 h3 => ⟨new hf1 h3, .inr ⟨⟨#[]⟩, [], ⟨#[]⟩, ⟨none, 0, 0⟩, by unfold lineL; simp [hin, hk], rfl, .nil _ _ _⟩⟩
    · have hk := hh.2.2
      simp at hk
      rw [hk] at h2; simp at h2
  · exact ⟨rfl, fun e => by subst e; subst hn; simp at h0, fun hh => by rw [hh.2.1] at hn1; simp at hn1⟩
  · exact ⟨rfl, fun e => by subst e; subst hn; simp at h0, fun hh => by rw [hh.1] at hin; cases hin⟩
  rintro w13 ⟨hw, hne, hno⟩ w14 h14
  subst hw
  have hf14 : Fr (fun _ => False) w13 w14 := by rw [h14]; exact .alloc _ _ _
  have hl14 : LnAt w14 (r + 1) ⟨#[]⟩ ⟨none, 0, 0⟩ 0 := by rw [h14, ← hs1]; exact alloc_new _ _
  rw [hs1]
  obtain ⟨w15, hst, hl15, hf15⟩ := hl14.store verb ⟨none, 0, 0⟩ 0
  have hF15 : Fr (fun _ => False) w w15 := (hf1.trans' hf14).trans hf15 fun q hq e => by omega
  have hr15 : LnAt w15 r ⟨#[]⟩ ⟨none, 0, 0⟩ 0 := (hr1.keep hf14 (by simp)).keep hf15 (by omega)
  have hR15 := hr.keep hF15 (by simp)
  have hz15 : r + 2 ≤ w15.heap.size := by
    have := lt_blk hl15; omega
  refine ⟨w15, hst, fun sl w' => ∃ (rest : List Tok) (vb : ByteArray), ReadsK encTk 3 w sl.a rest ∧ rest.length = sl.len ∧ rest.length ≤ 65537 ∧ Fr (fun _ => False) w w' ∧ r + 2 ≤ w'.heap.size ∧ LnAt w' r ⟨#[]⟩ ⟨none, 0, 0⟩ 0 ∧ LnAt w' (r + 1) vb ⟨none, 0, 0⟩ 0 ∧
    lineL toks verb inside = (if rest.all (fun t => t.kind == 0) = true then some (vb, rest.map (·.text), ⟨#[]⟩) else none), ⟨fun hin => ?_, fun hin => ?_⟩, ?_⟩
  · have hin : inside = false := by simpa using hin
    obtain ⟨t, rr, rfl⟩ := List.exists_cons_of_ne_nil hne
    have hlen : rr.length + 1 = n := hn
    obtain ⟨ad, had, hc0, hc1, _⟩ := tok_at hR15 (i := 0) rfl
    have hL : lineL (t :: rr) verb inside = (if t.kind ≠ 0 ∨ t.text = ⟨#[]⟩ then none
      else if (rr.map (·.kind)) = [1] then some (⟨#[]⟩, [], t.text)
      else if rr.all (fun t => t.kind == 0) = true then some (t.text, rr.map (·.text), ⟨#[]⟩) else none) := by
      unfold lineL; simp only; rw [if_neg (by rw [hin]; decide)]
    refine ⟨⟨by omega, by omega⟩, ad, had, _, hc0, fun hk => ?_, fun hk => ⟨⟨by omega, by omega⟩, ad, had, _, hc1, fun ht => ?_, fun ht => ?_⟩⟩
    · have hk : t.kind ≠ 0 := fun e => by rw [e] at hk; simp at hk
      rw [if_pos (.inl hk)] at hL
      exact fin_ln hr15 ⟨#[]⟩ ⟨none, 0, 0⟩ 0 fun w' h2 h3 => ⟨new hF15 h3, .inl ⟨hL, _, ⟨none, 0, 0⟩, _, _, rfl⟩⟩
    · rw [bs_eq] at ht
      rw [if_pos (.inr (of_decide_eq_true ht))] at hL
      exact fin_ln hr15 ⟨#[]⟩ ⟨none, 0, 0⟩ 0 fun w' h2 h3 => ⟨new hF15 h3, .inl ⟨hL, _, ⟨none, 0, 0⟩, _, _, rfl⟩⟩
    rw [bs_eq] at ht
    have hk : t.kind = 0 := by simpa using hk
    rw [if_neg (fun e => e.elim (fun e => e hk) (of_decide_eq_false ht))] at hL
    refine ⟨fun w' => w' = w15 ∧ rr.map (·.kind) ≠ [1], ⟨fun h2 => ?_, fun h2 => ⟨rfl, fun e => ?_⟩⟩, ?_⟩
    · have h2 : n = 2 := by have := eq_of_beq h2; omega
      obtain ⟨u, rfl⟩ := List.length_eq_one_iff.1 (show rr.length = 1 by omega)
      obtain ⟨ad2, had2, hd0, _, _⟩ := tok_at hR15 (i := 1) rfl
      refine ⟨⟨by omega, by omega⟩, ad2, had2, _, hd0, fun hu => ?_, fun hu => ⟨rfl, fun e => ?_⟩⟩
      · have hu : u.kind = 1 := by have := eq_of_beq hu; omega
        rw [if_pos (by simp [hu])] at hL
        intro w32 d32
        refine ⟨fun w' => Fr (fun _ => False) w w', hF15.trans' (.drew _ d32), ⟨by omega, by omega⟩, ad, had, t.text, fun w' hw' => ?_, ?_⟩
        · obtain ⟨ad3, had3, _, he1, _⟩ := tok_at (hr.keep hw' (by simp)) (i := 0) rfl
          rw [had] at had3; cases had3
          exact he1
        · obtain ⟨w37, g1, g2, g3⟩ := (hr15.drew d32).store ⟨#[]⟩ ⟨none, 0, 0⟩ 0
          exact ⟨w37, g1, new (hF15.trans' (.drew _ d32)) g3, _, ⟨none, 0, 0⟩, _, g2.load, new (hF15.trans' (.drew _ d32)) g3, .inr ⟨⟨#[]⟩, [], t.text, ⟨none, 0, 0⟩, hL, rfl, .nil _ _ _⟩⟩
      · simp at e
        rw [e] at hu; simp at hu
    · have := congrArg List.length e
      rw [List.length_map] at this
      have : n = 2 := by simp at this; omega
      rw [this] at h2; simp at h2
    rintro w41 ⟨hw, hr1'⟩ w42 d42
    subst hw
    rw [if_neg hr1'] at hL
    have hl42 := hl15.drew d42
    refine ⟨fun w' => Fr (fun _ => False) w w', hF15.trans' (.drew _ d42), ⟨by omega, by omega⟩, ad, had, t.text, fun w' hw' => ?_, ⟨by omega, by omega⟩, hl42.wr0, fun w47 h47 => ?_⟩
    · obtain ⟨ad3, had3, _, he1, _⟩ := tok_at (hr.keep hw' (by simp)) (i := 0) rfl
      rw [had] at had3; cases had3
      exact he1
    · have hf47 : Fr (· = r + 1) w42 w47 := by rw [h47]; exact .set _ _ _ rfl
      have hF47 : Fr (fun _ => False) w w47 := (hF15.trans' (.drew _ d42)).trans hf47 fun q hq e => by omega
      refine ⟨hF47, rr, t.text, hr.sub (by omega) 1, ?_, by omega, hF47, ?_, (hr15.drew d42).keep hf47 (by omega), by rw [h47]; exact hl42.verb _, hL⟩
      · show rr.length = n - 1; omega
      · have := hf47.size; rw [d42.heap] at this; omega
  · have hin : inside = true := by simpa using hin
    refine ⟨toks, verb, hr, hn, by omega, hF15, hz15, hr15, hl15, ?_⟩
    obtain ⟨t, rr, rfl⟩ := List.exists_cons_of_ne_nil hne
    unfold lineL
    simp only
    rw [if_pos hin, if_neg (fun e => hno ⟨hin, by rw [← hn, e.1]; rfl, by rw [e.1]; simp [e.2]⟩)]
  rintro sl w49 ⟨rest, vb, hR, hlen, hl7, hF49, hz49, hr49, hl49, hL⟩
  refine ⟨fun z w' => ∃ k : Nat, ∃ ws : Sl, z = k ∧ k ≤ rest.length ∧ (∀ x ∈ rest.take k, x.kind = 0) ∧ Fr (fun _ => False) w w' ∧ LnAt w' r ⟨#[]⟩ ⟨none, 0, 0⟩ 0 ∧ LnAt w' (r + 1) vb ws 0 ∧ r + 2 ≤ w'.heap.size ∧ Vc.Own w' (r + 2) T_string ws (strV ((rest.take k).map (·.text))), fun z _ => rest.length - z.toNat, ⟨0, ⟨none, 0, 0⟩, rfl, Nat.zero_le _, by simp, hF49, hr49, hl49, hz49, .nil _ _ _⟩, ?_⟩
  rintro z w53 ⟨k, ws, rfl, hk, hall, hF53, hr53, hl53, hz53, how⟩
  refine ⟨fun hlt => ?_, fun hge => ?_⟩
  · have hlt := of_decide_eq_true hlt
    have hkl : k < rest.length := by omega
    have ht : rest[k]? = some rest[k] := List.getElem?_eq_getElem hkl
    generalize rest[k] = t at ht
    obtain ⟨ad, had, hc0, hc1, hld⟩ := tok_at (hR.keep hF53 (by simp)) ht
    refine ⟨⟨by omega, by omega⟩, ad, had, _, _, _, by rw [Int.toNat_natCast]; exact hld, fun w58 h58 => ?_⟩
    have hf58 : Fr (fun _ => False) w53 w58 := by rw [h58]; exact .alloc _ _ _
    have ht58 : TkAt w58 w53.heap.size 0 ⟨#[]⟩ 0 := by rw [h58]; exact alloc_new _ _
    obtain ⟨w59, g1, g2, g3⟩ := ht58.store (k := t.kind) (t := t.text) (n := t.at_)
    have hf59 : Fr (fun _ => False) w53 w59 := hf58.trans g3 fun q hq e => by omega
    have hF59 := hF53.trans' hf59
    refine ⟨w59, g1, _, by rw [cell_blk g2]; rfl, fun hk0 => ?_, fun hk0 => ?_⟩
    · have hk0 : t.kind ≠ 0 := fun e => by rw [e] at hk0; simp at hk0
      refine fin_ln (hr53.keep hf59 (by simp)) ⟨#[]⟩ ⟨none, 0, 0⟩ 0 fun w' h2 h3 => ⟨new hF59 h3, .inl ⟨?_, _, ⟨none, 0, 0⟩, _, _, rfl⟩⟩
      rw [hL, if_neg]
      rw [List.all_eq_true]
      intro hh
      exact hk0 (by simpa using hh t (List.mem_of_getElem? ht))
    · have hk0 : t.kind = 0 := by simpa using hk0
      have hl59 := hl53.keep hf59 (by simp)
      refine ⟨ws, hl59.c1, _, by rw [cell_blk g2]; rfl, fun w67 h67 => ?_⟩
      have how59 := how.keep hf59 (by simp)
      have hlw : (strV ((rest.take k).map (·.text))).length ≤ 65537 := by rw [strV, List.length_map, List.length_map, List.length_take]; omega
      obtain ⟨w68, l', hrun, ho68, hf68, hs68⟩ := append_one' elString how59 (v := .string t.text) rfl (by unfold maxLen; omega) (by omega) (by have := hf59.size; omega) h67
      refine ⟨w68, l', hrun, ?_⟩
      have hx : ∀ q, q < r + 2 → ¬ At ws q := fun q hq ⟨y, hy, e⟩ => by have := (how59.blk hy).1; omega
      have hl68 := hl59.keep hf68 (hx _ (by omega))
      refine ⟨hl68.wr1, fun w70 h70 => ?_⟩
      have hf70 : Fr (· = r + 1) w68 w70 := by rw [h70]; exact .set _ _ _ rfl
      have hF70 : Fr (fun _ => False) w w70 := (hF59.trans hf68 fun q hq hh => (hx q (by omega) hh)).trans hf70 fun q hq e => by omega
      have e1 : IntKind.i64.wrap ((k : Int) + 1) = ((k + 1 : Nat) : Int) := by rw [wrap_i64 (by omega) (by omega)]; omega
      rw [e1]
      have hz59 := hf59.size
      have hz68 := hf68.size
      have hz70 := hf70.size
      refine ⟨⟨k + 1, l', rfl, by omega, all_take ht hall hk0, hF70, ((hr53.keep hf59 (by simp)).keep hf68 (hx _ (by omega))).keep hf70 (by omega), by rw [h70]; exact hl68.words l', by omega, ?_⟩, by dsimp only; omega⟩
      rw [List.take_add_one, ht]
      have := ho68.keep hf70 (fun x hx => by have := (ho68.blk hx).1; omega)
      simpa [strV] using this
  · have hge := of_decide_eq_false hge
    have hke : k = rest.length := by omega
    rw [hke, List.take_of_length_le (Nat.le_refl _)] at hall how
    refine ⟨_, ws, _, hl53.load, fin_ln hr53 vb ws 0 fun w' h2 h3 => ⟨new hF53 h3, .inr ⟨vb, rest.map (·.text), ⟨#[]⟩, ws, ?_, rfl, ?_⟩⟩⟩
    · rw [hL, if_pos]
      rw [List.all_eq_true]
      exact fun x hx => by simp [hall x hx]
    · rw [hg]
      exact (how.keep h3 (fun x hx => by have := (how.blk hx).1; omega)).mono (by omega)
end Go.Proofs.YtmhlmdnhpfhoeaaDoor

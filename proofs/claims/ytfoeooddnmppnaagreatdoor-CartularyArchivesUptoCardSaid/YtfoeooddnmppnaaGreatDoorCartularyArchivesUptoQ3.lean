/- Texts of this seat in one: made by a program of ours. -/
import Derived.Test.YtfoeooddnmppnaaGreatDoorCartularyArchivesUptoQ0
import Derived.Test.YtfoeooddnmppnaaGreatDoorCartularyArchivesUptoQ1
import Derived.Test.YtfoeooddnmppnaaGreatDoorCartularyArchivesUptoQ2
import Derived.Shelf.Lays
import Derived.Shelf.Strings.BuilderX
import Derived.Test.YtfoeooddnmppnaaGreatDoorProg
import Derived.Handed
import Derived.HandedShaped
import Derived.Shelf.Vars
import Derived.Test.YtfoeooddnmppnaaGreatDoorRows
import Derived.Shelf.Strings.Search3
import Derived.Laws.IdiomCopy
import Derived.Laws.IdiomStrings
/- Structures of the kit over its shelf, at this seat (written by a program of the author's, laysn.py). No condition. -/
namespace Go.Proofs.YtfoeooddnmppnaaGreatDoor
open Go Go.Shelf Go.Proofs
def lays143_ren : Go.Shelf.Ren := ⟨fun | 143 => 79 | 217 => 101 | 219 => 90 | 224 => 103 | 225 => 102 | 266 => 117 | 267 => 104 | 314 => 118 | n => n, fun | 146 => 166 | 3 => 3 | 4 => 4 | 46 => 87 | 5 => 5 | 51 => 74 | 9 => 9 | n => n, fun | 1 => 0 | n => n⟩
theorem lays143 : Go.Proofs.Lays.n143 Tryz.prog lays143_ren := {
  mixed := by kernel_rfl,
  f143 := Tryz.func79.trans (congrArg some (by kernel_rfl)),
  f217 := Tryz.func101.trans (congrArg some (by kernel_rfl)),
  f219 := Tryz.func90.trans (congrArg some (by kernel_rfl)),
  f224 := Tryz.func103.trans (congrArg some (by kernel_rfl)),
  f225 := Tryz.func102.trans (congrArg some (by kernel_rfl)),
  f266 := Tryz.func117.trans (congrArg some (by kernel_rfl)),
  f267 := Tryz.func104.trans (congrArg some (by kernel_rfl)),
  f314 := Tryz.func118.trans (congrArg some (by kernel_rfl)),
  t3 := Tryz.underlying3,
  a3 := Tryz.isAgg3,
  z3 := Tryz.sizeOf3,
  v3 := Tryz.zeroValue3,
  t4 := Tryz.underlying4,
  a4 := Tryz.isAgg4,
  z4 := Tryz.sizeOf4,
  v4 := Tryz.zeroValue4,
  t5 := Tryz.underlying5,
  a5 := Tryz.isAgg5,
  z5 := Tryz.sizeOf5,
  v5 := Tryz.zeroValue5,
  t9 := Tryz.underlying9,
  a9 := Tryz.isAgg9,
  z9 := Tryz.sizeOf9,
  v9 := Tryz.zeroValue9,
  t46 := Tryz.underlying87,
  a46 := Tryz.isAgg87,
  z46 := Tryz.sizeOf87,
  v46 := Tryz.zeroValue87,
  t51 := Tryz.underlying74,
  a51 := Tryz.isAgg74,
  z51 := Tryz.sizeOf74,
  v51 := Tryz.zeroValue74,
  t146 := Tryz.underlying166,
  a146 := Tryz.isAgg166,
  z146 := Tryz.sizeOf166,
  v146 := Tryz.zeroValue166,
  g1 := by kernel_rfl }
end Go.Proofs.YtfoeooddnmppnaaGreatDoor

/- The frame of a row that lists laid tables, the world's shape kept. No condition. -/
set_option linter.unusedVariables false
namespace Go.Proofs.YtfoeooddnmppnaaGreatDoor
open Go Vc Go.Proofs
variable {H : Type} {enc : TypeId × Value → H}

theorem handed_shaped {a : Assume} {C : Checked} {os : Os} {f : FuncId} {fn : Func} {s : ChangeSpec} {conds : List PathCond} {apart fresh handsOn again : Bool} {X : World → Array Value → Prop}
    (hX : ∀ (w w' : World) (args : Array Value), w.heap = w'.heap → X w args → X w' args)
    (own : ownKnob C.prog.godebug = none) (started : os.Started) (noInit : C.prog.inits.idxOf? f = none) (hfn : C.prog.funcs[f]? = some fn)
    (witness : ∃ (w : World) (tape : Tape) (i : Input), w.os = os ∧ (w.forCall tape i).Shaped C.prog ∧ i.vars = [] ∧ Input.okWide C.prog (w.forCall tape i) .any w.heap.size f i ∧
      ((s.pre enc C.prog fn conds apart (w.forCall tape i).memory i.args ∧ X (w.forCall tape i).memory i.args) ∧ sizedMet enc C.prog fn (OpenSpec.ofChange s) apart (w.forCall tape i).memory i.args) ∧ a.holds C.prog (lone (Frame.enter C.prog f i.args .normal) [] (w.forCall tape i)))
    (contract : ∀ (W : World) (base : Nat) (args : Array Value) (ds gs : List (DataW H)) (before : List MemPlace),
      (∀ (j : Nat) t v, fn.params[j]? = some t → args[j]? = some v → Value.okWide C.prog W .any base t v) →
      DataW.Whole enc C.prog fn.params.toList s.vars apart W args.toList ds gs before →
      conds.all (PathCond.test C.prog ⟨fn.params.toList, ds, s.plain.varTypes C.prog, gs⟩) = true →
      (DataW.weightsEach C.prog (fn.params.toList ++ s.plain.varTypes C.prog) (ds ++ gs)).all (· ≤ reachBytes) = true → X W args → W.ShapedOpen C.prog →
      a.holds C.prog (lone (Frame.enter C.prog f args .normal) [] W) →
      Calls C.prog f args W fun e W' => ∃ v, e = .returned v ∧ s.post enc C.prog fn apart fresh handsOn again W args v W') :
    ReturnsInHanded a C os f .any (fun w args => (s.pre enc C.prog fn conds apart w args ∧ X w args) ∧ sizedMet enc C.prog fn (OpenSpec.ofChange s) apart w args) (s.post enc C.prog fn apart fresh handsOn again) := by
  refine returnsInHanded_of_calls own started noInit witness ?_
  intro w tape i _ hsh _ hok hpre hholds
  obtain ⟨_, _, _, fn', hfn', _, _, _, _, hval⟩ := hok
  have e : fn' = fn := Option.some.inj (hfn'.symm.trans hfn)
  subst e
  obtain ⟨⟨⟨ds, gs, before, hw, hc⟩, hx⟩, hz⟩ := hpre
  have hw' := DataW.Whole.of_heap (w' := w.forCall tape i) (by rfl) hw
  refine (contract (w.forCall tape i) w.heap.size i.args ds gs before hval hw' hc (hz.weights hw) (hX _ _ _ (by rfl) hx) hsh hholds).mono fun e W' ⟨v, he, hp⟩ => ?_
  subst he
  exact ChangeSpec.post_blind hp
/-- The library's own variable holds some number. -/
def MaxL (w : World) : Prop := ∃ m : Int, w.cell? ⟨G_bytealg_MaxLen, 0, none⟩ = some (.int .i64 m)
theorem MaxL.keep {w w' : World} (h : MaxL w) (hf : Fr (fun _ => False) w w') : MaxL w' := by
  obtain ⟨m, hm⟩ := h
  exact ⟨m, hf.cell hm (by simp)⟩
theorem maxL_of {W : World} (h : W.ShapedOpen Tryz.prog) : MaxL W :=
  cell_of_shapedOpen_int (t := T_int) (zero := #[.int .i64 0]) h (of_decide_eq_true (by kernel_rfl)) (by kernel_rfl) rfl (by kernel_rfl) (by kernel_rfl) (by kernel_rfl)
end Go.Proofs.YtfoeooddnmppnaaGreatDoor

/- Go's text functions HasSuffix, CutPrefix, CutSuffix, Contains. Condition: the texts are no longer than memory; the library's own variable holds some number. -/
set_option linter.unusedVariables false
namespace Go.Proofs.YtfoeooddnmppnaaGreatDoor
open Go Vc Go.Proofs

theorem ext_suf {s t : ByteArray} (h : t.size ≤ s.size) : decide (s.extract (s.size - t.size) s.size = t) = sufL t.data.toList s.data.toList := by
  unfold sufL
  refine decide_eq_decide.2 ?_
  rw [List.suffix_iff_eq_drop, bs_len, bs_len]
  refine ⟨fun e => ?_, fun e => bs_ext ?_⟩
  · conv => lhs; rw [← e]
    rw [bs_tail]
  · rw [bs_tail]; exact e.symm
theorem suf_short {s t : ByteArray} (h : ¬ t.size ≤ s.size) : sufL t.data.toList s.data.toList = false := decide_eq_false fun e => h (by rw [← bs_len, ← bs_len]; exact e.length_le)
theorem suffixL_spec (s t : ByteArray) (hs : s.size ≤ 140737488355328) (w : World) : Calls Tryz.prog F_stringslite_HasSuffix #[.string s, .string t] w fun e w' => e = .returned (.bool (sufL t.data.toList s.data.toList)) ∧ w' = w := by
  refine vc_stringslite_HasSuffix_ok (R := fun v w' => v = .bool (sufL t.data.toList s.data.toList) ∧ w' = w) ?_ (fun v w' h => ⟨by rw [h.1], h.2⟩)
  refine ⟨fun h => ?_, fun h => ⟨by rw [suf_short (by have := of_decide_eq_false h; omega)], rfl⟩⟩
  have h := of_decide_eq_true h
  have e1 : IntKind.i64.wrap ((s.size : Int) - (t.size : Int)) = ((s.size - t.size : Nat) : Int) := by rw [wrap_i64 (by omega) (by omega)]; omega
  rw [e1]
  refine ⟨⟨by omega, by omega⟩, ?_, rfl⟩
  rw [Int.toNat_natCast, bs_eq, ext_suf (by omega)]
theorem suffix_spec (s t : ByteArray) (hs : s.size ≤ 140737488355328) (w : World) : Calls Tryz.prog F_strings_HasSuffix #[.string s, .string t] w fun e w' => e = .returned (.bool (sufL t.data.toList s.data.toList)) ∧ w' = w := by
  refine vc_strings_HasSuffix_ok (R := fun v w' => v = .bool (sufL t.data.toList s.data.toList) ∧ w' = w) ?_ (fun v w' h => ⟨by rw [h.1], h.2⟩)
  refine (suffixL_spec s t hs w).mono ?_
  rintro e w2 ⟨rfl, rfl⟩
  exact ⟨_, rfl, rfl, rfl⟩
theorem prefixL_spec (s t : ByteArray) (w : World) : Calls Tryz.prog F_stringslite_HasPrefix #[.string s, .string t] w fun e w' => e = .returned (.bool (begB s t)) ∧ w' = w := by
  refine vc_stringslite_HasPrefix_ok (R := fun v w' => v = .bool (begB s t) ∧ w' = w) ?_ (fun v w' h => ⟨by rw [h.1], h.2⟩)
  refine ⟨fun h => ⟨⟨by omega, by have := of_decide_eq_true h; omega⟩, ?_, rfl⟩, fun h => ⟨?_, rfl⟩⟩
  · have h := of_decide_eq_true h
    rw [Int.toNat_natCast, begB_cut (by omega)]
  · rw [begB_short (by have := of_decide_eq_false h; omega)]
theorem suf_le {s t : ByteArray} (h : sufL t.data.toList s.data.toList = true) : t.size ≤ s.size := by
  have := (of_decide_eq_true h : t.data.toList <:+ s.data.toList).length_le
  rw [bs_len, bs_len] at this; exact this
theorem cutPrefix_spec (s t : ByteArray) (w : World) : Calls Tryz.prog F_strings_CutPrefix #[.string s, .string t] w fun e w' => e = .returned (.tuple #[.string (cutPre s t), .bool (begB s t)]) ∧ w' = w := by
  refine vc_strings_CutPrefix_ok (R := fun v w' => v = .tuple #[.string (cutPre s t), .bool (begB s t)] ∧ w' = w) ?_ (fun v w' h => ⟨by rw [h.1], h.2⟩)
  refine Calls.mono (R := fun e w' => e = .returned (.tuple #[.string (cutPre s t), .bool (begB s t)]) ∧ w' = w) (vc_stringslite_CutPrefix_ok (R := fun v w' => v = .tuple #[.string (cutPre s t), .bool (begB s t)] ∧ w' = w) ?_ (fun v w' h => ⟨by rw [h.1], h.2⟩)) ?_
  · refine (prefixL_spec s t w).mono ?_
    rintro e w2 ⟨rfl, rfl⟩
    refine ⟨_, rfl, fun h => ⟨?_, rfl⟩, fun h => ⟨⟨by omega, ?_⟩, ?_, rfl⟩⟩
    · have h : begB s t = false := by simpa using h
      unfold cutPre; rw [h]; rfl
    · have := beg_le (show begB s t = true by simpa using h); omega
    · have h : begB s t = true := by simpa using h
      unfold cutPre; rw [h, Int.toNat_natCast]; rfl
  · rintro e w2 ⟨rfl, rfl⟩
    exact ⟨_, _, rfl, rfl, rfl⟩
theorem contains2_spec (s t : ByteArray) (hs : s.size < 4294967281) {w : World} (hm : MaxL w) : Calls Tryz.prog F_strings_Contains #[.string s, .string t] w fun e w' => e = .returned (.bool (hasL t.data.toList s.data.toList)) ∧ w' = w := by
  refine vc_strings_Contains_ok (R := fun v w' => v = .bool (hasL t.data.toList s.data.toList) ∧ w' = w) ?_ (fun v w' h => ⟨by rw [h.1], h.2⟩)
  obtain ⟨m, hm⟩ := hm
  refine (Any.strings_Index lays143 s t m w hs hm).mono ?_
  rintro e w2 ⟨rfl, rfl⟩
  refine ⟨_, rfl, ?_, rfl⟩
  rw [← hasL_index]
end Go.Proofs.YtfoeooddnmppnaaGreatDoor

/- strings.HasPrefix. No condition. -/
set_option linter.unusedVariables false
namespace Go.Proofs.YtfoeooddnmppnaaGreatDoor
open Go Vc Go.Proofs

theorem hasPrefix_spec (s t : ByteArray) (w : World) : Calls Tryz.prog F_strings_HasPrefix #[.string s, .string t] w fun e w' => e = .returned (.bool (begB s t)) ∧ w' = w := by
  refine vc_strings_HasPrefix_ok (R := fun v w' => v = .bool (begB s t) ∧ w' = w) ?_ (fun v w' h => ⟨by rw [h.1], h.2⟩)
  refine Calls.mono (R := fun e w' => e = .returned (.bool (begB s t)) ∧ w' = w) (vc_stringslite_HasPrefix_ok (R := fun v w' => v = .bool (begB s t) ∧ w' = w) ?_ (fun v w' h => ⟨by rw [h.1], h.2⟩)) ?_
  · refine ⟨fun h => ⟨⟨by omega, by have := of_decide_eq_true h; omega⟩, ?_, rfl⟩, fun h => ⟨?_, rfl⟩⟩
    · have h := of_decide_eq_true h
      rw [Int.toNat_natCast, begB_cut (by omega)]
    · rw [begB_short (by have := of_decide_eq_false h; omega)]
  · rintro e w2 ⟨rfl, rfl⟩
    exact ⟨_, rfl, rfl, rfl⟩
end Go.Proofs.YtfoeooddnmppnaaGreatDoor

/- Slices of the call's own whose row may bear the run-time's mark behind its last cell, as that of a text's bytes. No condition: for all programs. -/
set_option linter.unusedVariables false
namespace Vc
open Go

/-- As 'Own', but the row may bear the mark behind its cells. -/
def OwnZ (w : World) (base : Nat) (e : TypeId) (l : Sl) (xs : List Value) : Prop :=
  xs.length = l.len ∧ ((l.a = none ∧ l.len = 0 ∧ l.cap = 0) ∨
    ∃ g cur fz, l.a = some ⟨g, 0, none⟩ ∧ base ≤ g ∧ w.heap[g]? = some (.cells cur e fz) ∧ (cur.size ≤ fz.1 ∨ fz.2 = 0) ∧ l.len ≤ l.cap ∧ l.cap ≤ maxLen ∧ cur.size = l.cap ∧ cur.toList.take l.len = xs)
section
variable {w w1 : World} {base : Nat} {e : TypeId} {l : Sl} {xs : List Value}
theorem OwnZ.of (h : Own w base e l xs) : OwnZ w base e l xs := by
  refine ⟨h.1, ?_⟩
  rcases h.2 with hn | ⟨g, cur, ha, hb, hg, hl, hm, hs, ht⟩
  · exact .inl hn
  · exact .inr ⟨g, cur, (0, 0), ha, hb, hg, .inr rfl, hl, hm, hs, ht⟩
theorem OwnZ.len (h : OwnZ w base e l xs) : l.len = xs.length := h.1.symm
theorem OwnZ.blk (h : OwnZ w base e l xs) {x : Addr} (hx : l.a = some x) : base ≤ x.block ∧ x.block < w.heap.size := by
  rcases h.2 with ⟨ha, _⟩ | ⟨g, cur, fz, ha, hb, hg, _⟩
  · rw [ha] at hx; cases hx
  · rw [ha] at hx; cases hx; exact ⟨hb, lt_blk hg⟩
theorem OwnZ.keep (h : OwnZ w base e l xs) {X : Nat → Prop} (hf : Fr X w w1) (hx : ∀ x, l.a = some x → ¬ X x.block) : OwnZ w1 base e l xs := by
  refine ⟨h.1, ?_⟩
  rcases h.2 with hn | ⟨g, cur, fz, ha, hb, hg, r⟩
  · exact .inl hn
  · exact .inr ⟨g, cur, fz, ha, hb, hf.keep hg (hx _ ha), r⟩
theorem OwnZ.cap (h : OwnZ w base e l xs) : l.len ≤ l.cap := by
  rcases h.2 with ⟨_, h2, h3⟩ | ⟨_, _, _, _, _, _, _, hl, _⟩
  · omega
  · exact hl
theorem OwnZ.reads (h : OwnZ w base e l xs) : Reads w l.a xs := fun i v hv => by
  rcases h.2 with ⟨_, h2, _⟩ | ⟨g, cur, fz, ha, hb, hg, hz, hl, hm, hs, ht⟩
  · have h1 := h.1
    rw [h2] at h1
    rw [List.length_eq_zero_iff.1 h1] at hv; simp at hv
  · refine ⟨_, ha, ?_⟩
    rw [add_lit, cell_blk hg, Nat.zero_add]
    rw [← ht, List.getElem?_take] at hv
    split at hv
    · simpa using hv
    · cases hv
theorem OwnZ.nil (w : World) (base : Nat) (e : TypeId) : OwnZ w base e ⟨none, 0, 0⟩ [] := ⟨rfl, .inl ⟨rfl, rfl, rfl⟩⟩
theorem frozen_z {b : Nat} {cs : Array Value} {t : TypeId} {fz : Nat × Nat} (h : w.heap[b]? = some (.cells cs t fz)) (hz : cs.size ≤ fz.1 ∨ fz.2 = 0) {i : Nat} (hi : i < cs.size) : w.frozen? ⟨b, i, none⟩ = false := by
  obtain ⟨lo, hi'⟩ := fz
  simp only [World.frozen?, h]
  rcases hz with hz | hz
  · have : ¬ lo ≤ i := by simp only at hz; omega
    simp [this]
  · simp only at hz; simp [hz]
/-- One element set. -/
theorem OwnZ.set (h : OwnZ w base e l xs) {i : Nat} (hi : i < xs.length) :
    ∃ x, l.a = some x ∧ w.cell? (x.add i) = some xs[i] ∧ Wr w (x.add i) ∧ ∀ v, OwnZ (w.setCell (x.add i) v) base e l (xs.set i v) ∧ Fr (At l) w (w.setCell (x.add i) v) := by
  obtain ⟨x, hx, hc⟩ := h.reads.at hi
  rcases h.2 with ⟨_, h2, _⟩ | ⟨g, cur, fz, ha, hb, hg, hz, hl, hm, hs, ht⟩
  · have := h.1; omega
  · rw [ha] at hx; cases hx
    have hil : i < cur.size := by have := h.1; omega
    refine ⟨_, ha, hc, ⟨⟨_, hc⟩, by rw [add_lit, Nat.zero_add]; exact frozen_z hg hz hil⟩, fun v => ⟨⟨by simpa using h.1, .inr ⟨g, cur.setIfInBounds i v, fz, ha, hb, ?_, by simpa using hz, hl, hm, by simpa using hs, ?_⟩⟩, .set _ _ _ ⟨_, ha, add_block _ _⟩⟩⟩
    · rw [add_lit, Nat.zero_add]; exact set_blk hg i v
    · rw [Array.toList_setIfInBounds, List.take_set, ht]
end
theorem setCells_blk (g : Nat) (e : TypeId) (fz : Nat × Nat) : ∀ (vs : List Value) (o : Nat) (cur : Array Value) (w : World), w.heap[g]? = some (.cells cur e fz) → o + vs.length ≤ cur.size →
    ∃ cur', (w.setCells g o vs).heap[g]? = some (.cells cur' e fz) ∧ cur'.size = cur.size ∧ cur'.toList.take (o + vs.length) = cur.toList.take o ++ vs
  | [], o, cur, w, h, hl => ⟨cur, h, rfl, by simp⟩
  | v :: r, o, cur, w, h, hl => by
    have h1 := set_blk h o v
    simp only [List.length_cons] at hl
    obtain ⟨cur', h2, h3, h4⟩ := setCells_blk g e fz r (o + 1) (cur.setIfInBounds o v) (w.setCell ⟨g, o, none⟩ v) h1 (by rw [Array.size_setIfInBounds]; omega)
    refine ⟨cur', h2, by simpa using h3, ?_⟩
    rw [List.length_cons, show o + (r.length + 1) = o + 1 + r.length by omega, h4, Array.toList_setIfInBounds, List.take_set]
    have ho : o < cur.toList.length := by simp; omega
    rw [List.take_succ_eq_append_getElem ho, List.set_append_right _ _ (by rw [List.length_take]; omega)]
    have : o - (cur.toList.take o).length = 0 := by rw [List.length_take]; omega
    rw [this]; simp
theorem setCells_fr (g : Nat) : ∀ (vs : List Value) (o : Nat) (w : World), Fr (· = g) w (w.setCells g o vs)
  | [], o, w => .refl _ _
  | v :: r, o, w => (Fr.set (· = g) w (a := ⟨g, o, none⟩) v rfl).trans' (setCells_fr g r (o + 1) _)
section
variable {P : Program} {t e : TypeId} {z : Value} {bytes : Nat} {w : World} {base : Nat} {l : Sl} {xs : List Value}
theorem append_z (el : El P t e z bytes) (h : OwnZ w base e l xs) (x : Addr) (c : Nat) (news : List Value) (hn : ∀ j u, news[j]? = some u → w.cell? (x.add j) = some u) (h1 : ∀ u ∈ news, u.oneCell' = true)
    (hm : xs.length + news.length ≤ maxLen) (hb : (xs.length + news.length) * bytes ≤ 140737488355328) (hbase : base ≤ w.heap.size) :
    ∃ w' l', (Builtin.append_ #[t, t] t #[.slice l.a l.len l.cap, .slice (some x) news.length c]).run P w = .ok (.slice l'.a l'.len l'.cap) w' ∧ OwnZ w' base e l' (xs ++ news) ∧ Fr (At l) w w' ∧ Since w l l' := by
  obtain ⟨i, hi, hi2⟩ := Option.map_eq_some_iff.1 el.info
  simp only [Prod.mk.injEq] at hi2
  obtain ⟨hz, hs1, hby⟩ := hi2
  have hlen := h.1
  rcases h.2 with ⟨ha, hl0, hc0⟩ | ⟨g, cur, fz, ha, hbg, hg, hzz, hl, hmx, hs, ht⟩
  · have hx : xs = [] := List.eq_nil_of_length_eq_zero (by omega)
    have ho : Own w base e l xs := ⟨hlen, .inl ⟨ha, hl0, hc0⟩⟩
    obtain ⟨w', l', hr, o', f'⟩ := append_run el ho x c news hn h1 hm hb hbase
    exact ⟨w', l', hr, .of o', f', since_run el ho x c news hn h1 hm hb hr⟩
  · have hml : maxLen ≤ 9223372036854775807 := by decide
    by_cases hroom : l.len + news.length ≤ l.cap
    · have hf := run_firstCells_some (P := P) w i.size news.length x news.length c news (by rw [hs1]; omega) hn
      have hst := run_storeCells_cells (P := P) g l.len news 0 w (fun j hj => by rw [Nat.add_zero, cell_blk hg]; simp; omega) (fun j hj => by rw [Nat.add_zero]; exact frozen_z hg hzz (by omega)) h1
      rw [Nat.add_zero] at hst
      obtain ⟨cur', k1, k2, k3⟩ := setCells_blk g e fz news l.len cur w hg (by omega)
      refine ⟨w.setCells g l.len news, ⟨l.a, l.len + news.length, l.cap⟩, ?_, ⟨by simp only [List.length_append]; omega, .inr ⟨g, cur', fz, ha, hbg, k1, by rw [k2]; exact hzz, hroom, hmx, by rw [k2]; exact hs, by simp only; rw [k3, ht]⟩⟩,
        (setCells_fr g news l.len w).mono fun k _ hk => ⟨_, ha, hk⟩, fun y hy => .inl ⟨y, hy, rfl⟩⟩
      rw [ha]
      rw [hs1] at hf
      simp [Builtin.append_, run_underlying el.sl, Go.sizeOf, typeInfo, hi, hs1, Builtin.lenOf, hroom, hf, Addr.add_lit, hst]
    · have holds : ∀ j u, xs[j]? = some u → w.cell? ((⟨g, 0, none⟩ : Addr).add j) = some u := fun j u hu => by
        obtain ⟨q, hq, hc⟩ := h.reads j u hu
        rw [ha] at hq; cases hq; exact hc
      have hr := run_append_grow (P := P) w t t e i z el.sl hi hz ⟨g, 0, none⟩ l.len l.cap xs (by rw [hs1]; omega) holds x news.length c news (by rw [hs1]; omega) hn (by omega) (by omega) (growslice_fits (by omega) (by rw [hby, ← hlen]; exact hb))
      have hge := grownCap_ge w (l.len + news.length) l.cap e
      have hcm2 : grownCap w (l.len + news.length) l.cap e ≤ maxLen := grownCap_le_maxLen w (l.len + news.length) l.cap e (by omega)
      rw [← ha] at hr
      refine ⟨_, ⟨some ⟨w.heap.size, 0, none⟩, l.len + news.length, grownCap w (l.len + news.length) l.cap e⟩, hr, ⟨by simp only [List.length_append]; omega, .inr ⟨w.heap.size, _, (0, 0), rfl, hbase, heap_alloc_new w.drew _, .inr rfl, hge, hcm2, ?_, ?_⟩⟩, ⟨rfl, rfl, rfl, by simp, fun k hk _ => alloc_old w.drew _ hk⟩, fun y hy => by cases hy; exact .inr (Nat.le_refl _)⟩
      · have := el.one
        simp only [Array.size_append, List.size_toArray, size_zeroCells, this, Nat.mul_one]
        omega
      · simp only [Array.toList_append, List.append_assoc]
        rw [← List.append_assoc]
        have : l.len + news.length = (xs ++ news).length := by rw [List.length_append]; omega
        rw [this]; exact List.take_left
theorem append_one_z (el : El P t e z bytes) (h : OwnZ w base e l xs) {v : Value} (hv : v.oneCell' = true)
    (hm : xs.length + 1 ≤ maxLen) (hb : (xs.length + 1) * bytes ≤ 140737488355328) (hbase : base ≤ w.heap.size) {w2 : World} (hw2 : w2 = w.alloc (.cells #[v] e)) :
    ∃ w' l', (Builtin.append_ #[t, t] t #[.slice l.a l.len l.cap, .slice (some ⟨w.heap.size, 0, none⟩) 1 1]).run P w2 = .ok (.slice l'.a l'.len l'.cap) w' ∧ OwnZ w' base e l' (xs ++ [v]) ∧
      Fr (At l) w w' ∧ Since w l l' := by
  subst hw2
  have h2 : OwnZ (w.alloc (.cells #[v] e)) base e l xs := h.keep (.alloc (fun _ => False) _ _) (by simp)
  obtain ⟨w', l', hr, ho, hf, hs⟩ := append_z el h2 ⟨w.heap.size, 0, none⟩ 1 [v] (fun j u hu => by
      cases j with
      | zero => simp at hu; subst hu; rw [add_lit, cell_blk (alloc_new w _)]; rfl
      | succ j => simp at hu) (by simpa using hv) (by simpa using hm) (by simpa using hb) (by simp; omega)
  refine ⟨w', l', hr, ho, (Fr.alloc _ _ _).trans' hf, fun y hy => ?_⟩
  rcases hs y hy with hx | hn
  · exact .inl hx
  · simp only [World.alloc, Array.size_push] at hn
    exact .inr (by omega)
theorem append_all_z (el : El P t e z bytes) (h : OwnZ w base e l xs) {src : Option Addr} (c : Nat) {news : List Value} (hr : Reads w src news) (h1 : ∀ u ∈ news, u.oneCell' = true)
    (hm : xs.length + news.length ≤ maxLen) (hb : (xs.length + news.length) * bytes ≤ 140737488355328) (hbase : base ≤ w.heap.size) {m : Nat} (hlen : news.length = m) :
    ∃ w' l', (Builtin.append_ #[t, t] t #[.slice l.a l.len l.cap, .slice src m c]).run P w = .ok (.slice l'.a l'.len l'.cap) w' ∧ OwnZ w' base e l' (xs ++ news) ∧
      Fr (At l) w w' ∧ Since w l l' := by
  subst hlen
  cases src with
  | some x => exact append_z el h x c news (fun j u hu => by obtain ⟨y, hy, hc⟩ := hr j u hu; cases hy; exact hc) h1 hm hb hbase
  | none =>
    have hn : news = [] := by
      cases news with
      | nil => rfl
      | cons v r => obtain ⟨y, hy, _⟩ := hr 0 v rfl; cases hy
    subst hn
    refine ⟨w, l, ?_, by simpa using h, .refl _ _, .refl _ _⟩
    obtain ⟨i, hi, hi2⟩ := Option.map_eq_some_iff.1 el.info
    have hcap := h.cap
    cases ha : l.a <;> simp [Builtin.append_, run_underlying el.sl, Go.sizeOf, typeInfo, hi, Builtin.lenOf, Builtin.firstCells, hcap, storeCells]
/-- '[]byte(s)'. -/
theorem bytes_of {src dst : TypeId} (hs : P.underlying src = some .string) (hd : P.underlying dst = some (.slice e)) (he : P.underlying e = some (.int .u8)) (s : ByteArray) (hl : s.size ≤ maxLen) (w : World) :
    ∃ w' l', (convert src dst (.string s)).run P w = .ok (.slice l'.a l'.len l'.cap) w' ∧ OwnZ w' w.heap.size e l' (byteV s.data.toList) ∧ Fr (fun _ => False) w w' := by
  have hr := run_bytes_of_string (P := P) w src dst e s hs hd he
  have hge := grownCap_ge w s.size 0 e
  have hcm2 : grownCap w s.size 0 e ≤ maxLen := grownCap_le_maxLen w s.size 0 e hl
  refine ⟨_, ⟨some ⟨w.heap.size, 0, none⟩, s.size, grownCap w s.size 0 e⟩, hr, ⟨by simp, .inr ⟨w.heap.size, _, _, rfl, Nat.le_refl _, heap_alloc_new w.drew _, .inl (Nat.le_refl _), hge, hcm2, ?_, ?_⟩⟩, ⟨rfl, rfl, rfl, by simp, fun k hk _ => alloc_old w.drew _ hk⟩⟩
  · have : s.data.size = s.size := rfl
    simp only [bytesRow, Array.size_append, Array.size_map, Array.size_replicate, this]; omega
  · have : s.size = (byteV s.data.toList).length := by simp
    simp only [bytesRow, Array.toList_append, Array.toList_map]
    rw [this]; exact List.take_left
end
end Vc

/- Parts of the package modzip: plain, fold, vendored, Front, prefixed, check. Conditions: as named. -/
set_option linter.unusedVariables false
namespace Go.Proofs.YtfoeooddnmppnaaGreatDoor
open Go Vc Go.Proofs

theorem trimSuffix_spec (s t : ByteArray) (hs : s.size ≤ 140737488355328) (w : World) : Calls Tryz.prog F_strings_TrimSuffix #[.string s, .string t] w fun e w' => e = .returned (.string (cutSuf s t)) ∧ w' = w := by
  refine vc_strings_TrimSuffix_ok (R := fun v w' => v = .string (cutSuf s t) ∧ w' = w) ?_ (fun v w' h => ⟨by rw [h.1], h.2⟩)
  refine Calls.mono (R := fun e w' => e = .returned (.string (cutSuf s t)) ∧ w' = w) (vc_stringslite_TrimSuffix_ok (R := fun v w' => v = .string (cutSuf s t) ∧ w' = w) ?_ (fun v w' h => ⟨by rw [h.1], h.2⟩)) (fun e w' h => ⟨_, h.1, rfl, h.2⟩)
  refine (suffixL_spec s t hs w).mono ?_
  rintro e w2 ⟨rfl, rfl⟩
  refine ⟨_, rfl, fun h => ?_, fun h => ⟨?_, rfl⟩⟩
  · have hle := suf_le h
    have e1 : IntKind.i64.wrap ((s.size : Int) - (t.size : Int)) = ((s.size - t.size : Nat) : Int) := by rw [wrap_i64 (by omega) (by omega)]; omega
    rw [e1]
    refine ⟨⟨by omega, by omega⟩, ?_, rfl⟩
    unfold cutSuf; rw [h, Int.toNat_natCast]; rfl
  · unfold cutSuf; rw [h]; rfl
def encI (x : ItE) : List Value := [.string x.path, .int .i64 x.mode, .string x.data]
theorem elI : ElK encI 3 Tryz.prog T_S_modzip_Item T_modzip_Item (.agg #[.string ⟨#[]⟩, .int .i64 0, .string ⟨#[]⟩]) 40 :=
  ⟨by kernel_rfl, by kernel_rfl, rfl, by decide, by kernel_rfl, fun _ => rfl, fun x u hu => by
    simp only [encI, List.mem_cons, List.mem_nil_iff, or_false] at hu
    rcases hu with rfl | rfl | rfl <;> rfl⟩
theorem plain_spec (x : ItE) (w : World) : Calls Tryz.prog F_modzip_Item_plain #[.agg #[.string x.path, .int .i64 x.mode, .string x.data]] w fun e w' => e = .returned (.bool (plainI x)) ∧ Fr (fun _ => False) w w' := by
  refine vc_modzip_Item_plain_ok (R := fun v w' => v = .bool (plainI x) ∧ Fr (fun _ => False) w w') ?_ (fun v w' h => ⟨by rw [h.1], h.2⟩)
  intro w1 h1
  have hb : w1.heap[w.heap.size]? = some (.cells (encI x).toArray T_modzip_Item (0, 0)) := by rw [h1]; exact alloc_new _ _
  have hf : Fr (fun _ => False) w w1 := by rw [h1]; exact .alloc _ _ _
  have hc : w1.cell? ⟨w.heap.size, 1, none⟩ = some (.int .i64 x.mode) := by rw [cell_blk hb]; rfl
  have b2d : ∀ k : Int, (x.mode == k) = decide (x.mode = k) := fun k => by by_cases h : x.mode = k <;> simp [h]
  refine ⟨x.mode, hc, fun h => ⟨?_, hf⟩, fun h => ⟨x.mode, hc, ?_, hf⟩⟩
  · unfold plainI; rw [← b2d, h]; rfl
  · unfold plainI; rw [← b2d, h, b2d]; rfl
theorem byteV_get {l : List UInt8} {k : Nat} {c : UInt8} (h : l[k]? = some c) : (byteV l)[k]? = some (.int .u8 ((c.toNat : Nat) : Int)) := by
  unfold byteV; rw [List.getElem?_map, h]; rfl
theorem fold_spec (s : ByteArray) (hs : s.size ≤ 1000000) (w : World) : Calls Tryz.prog F_modzip_fold #[.string s] w fun e w' => e = .returned (.string (foldE s)) ∧ Fr (fun _ => False) w w' := by
  refine vc_modzip_fold_ok (R := fun v w' => v = .string (foldE s) ∧ Fr (fun _ => False) w w') ?_ (fun v w' h => ⟨by rw [h.1], h.2⟩)
  obtain ⟨w1, l2, hr1, o1, f1⟩ := bytes_of (P := Tryz.prog) (src := T_string) (dst := T_S_uint8) (e := T_uint8) (by kernel_rfl) elByte.sl (by kernel_rfl) s (by unfold maxLen; omega) w
  obtain ⟨L, hL⟩ : ∃ L, s.data.toList = L := ⟨_, rfl⟩
  have hLl : L.length = s.size := by rw [← hL, bs_len]
  rw [hL] at o1
  have hl2 : l2.len = L.length := by rw [o1.len, bv_len]
  refine ⟨w1, l2, hr1, fun i w' => ∃ k : Nat, i = k ∧ k ≤ L.length ∧ OwnZ w' w.heap.size T_uint8 l2 (byteV ((L.take k).map foldC ++ L.drop k)) ∧ Fr (fun _ => False) w w', fun i _ => L.length - i.toNat, ⟨0, rfl, Nat.zero_le _, by simpa using o1, f1⟩, ?_⟩
  clear o1
  rintro i w6 ⟨k, rfl, hk, ho, hf⟩
  refine ⟨fun hlt => ?_, fun hge => ?_⟩
  · have hlt := of_decide_eq_true hlt
    have hkl : k < L.length := by omega
    have hdr : L.drop k = L[k] :: L.drop (k + 1) := List.drop_eq_getElem_cons hkl
    have htk : L.take (k + 1) = L.take k ++ [L[k]] := (List.take_append_getElem hkl).symm
    generalize L[k] = c at hdr htk
    have hml : ((L.take k).map foldC).length = k := by rw [List.length_map, List.length_take]; omega
    have hget : ((L.take k).map foldC ++ L.drop k)[k]? = some c := by rw [List.getElem?_append_right (by omega), hml, Nat.sub_self, hdr]; rfl
    have hlt2 : k < (byteV ((L.take k).map foldC ++ L.drop k)).length := by rw [bv_len, List.length_append, hml, List.length_drop]; omega
    obtain ⟨x, hx, hc, hwr, hset⟩ := ho.set hlt2
    have hg := byteV_get hget
    rw [List.getElem?_eq_getElem hlt2] at hg
    rw [Option.some.inj hg] at hc
    have hnext : ∀ w10 : World, OwnZ w10 w.heap.size T_uint8 l2 (byteV ((L.take k).map foldC ++ foldC c :: L.drop (k + 1))) → Fr (fun _ => False) w w10 →
        (∃ k' : Nat, IntKind.i64.wrap ((k : Int) + 1) = k' ∧ k' ≤ L.length ∧ OwnZ w10 w.heap.size T_uint8 l2 (byteV ((L.take k').map foldC ++ L.drop k')) ∧ Fr (fun _ => False) w w10) ∧ L.length - (IntKind.i64.wrap ((k : Int) + 1)).toNat < L.length - ((k : Int)).toNat := fun w10 ho10 hf10 => by
      have e1 : IntKind.i64.wrap ((k : Int) + 1) = ((k + 1 : Nat) : Int) := by rw [wrap_i64 (by omega) (by omega)]; omega
      rw [e1]
      refine ⟨⟨k + 1, rfl, by omega, ?_, hf10⟩, by omega⟩
      rw [htk, List.map_append, List.append_assoc]
      exact ho10
    have hsame : foldC c = c → OwnZ w6 w.heap.size T_uint8 l2 (byteV ((L.take k).map foldC ++ foldC c :: L.drop (k + 1))) := fun h => by
      rw [h, ← hdr]; exact ho
    refine ⟨⟨by omega, by omega⟩, x, hx, _, by rw [Int.toNat_natCast, Nat.mul_one]; exact hc, fun h1 => ⟨fun h2 => ?_, fun h2 => ?_⟩, fun h1 => ?_⟩
    · have h1 := of_decide_eq_true h1
      have h2 := of_decide_eq_true h2
      refine ⟨⟨by omega, by omega⟩, x, hx, by rw [Int.toNat_natCast, Nat.mul_one]; exact hwr, fun w10 h10 => ?_⟩
      have hv : IntKind.u8.wrap (((c.toNat : Nat) : Int) + 32) = (((foldC c).toNat : Nat) : Int) := by
        unfold foldC
        rw [if_pos ⟨by rw [UInt8.le_iff_toNat_le]; exact Int.ofNat_le.1 h1, by rw [UInt8.le_iff_toNat_le]; exact Int.ofNat_le.1 h2⟩, wrap_u8 (by omega) (by omega), UInt8.toNat_add]
        have : (32 : UInt8).toNat = 32 := rfl
        omega
      obtain ⟨ho10, hf10⟩ := hset (.int .u8 (((foldC c).toNat : Nat) : Int))
      rw [hv, Int.toNat_natCast, Nat.mul_one] at h10
      rw [← h10] at ho10 hf10
      refine hnext w10 ?_ (hf.trans hf10 fun q hq ⟨y, hy, e⟩ => by have := (ho.blk hy).1; omega)
      have hse : (byteV ((L.take k).map foldC ++ L.drop k)).set k (.int .u8 (((foldC c).toNat : Nat) : Int)) = byteV ((L.take k).map foldC ++ foldC c :: L.drop (k + 1)) := by
        rw [hdr]
        unfold byteV
        rw [← List.map_set (f := fun b : UInt8 => Value.int .u8 ((b.toNat : Nat) : Int)) (a := foldC c), List.set_append_right _ _ (by omega), hml, Nat.sub_self, List.set_cons_zero]
      rw [hse] at ho10
      exact ho10
    · have h2 := of_decide_eq_false h2
      refine hnext w6 (hsame ?_) hf
      unfold foldC
      rw [if_neg (fun h : 65 ≤ c ∧ c ≤ 90 => h2 (Int.ofNat_le.2 (UInt8.le_iff_toNat_le.1 h.2)))]
    · have h1 := of_decide_eq_false h1
      refine hnext w6 (hsame ?_) hf
      unfold foldC
      rw [if_neg (fun h : 65 ≤ c ∧ c ≤ 90 => h1 (Int.ofNat_le.2 (UInt8.le_iff_toNat_le.1 h.1)))]
  · have hge := of_decide_eq_false hge
    have hk' : k = L.length := by omega
    rw [hk', List.take_length, List.drop_length, List.append_nil] at ho
    refine ⟨w6, _, bytes_str (P := Tryz.prog) (t := T_S_uint8) (d := T_string) elByte.sl (by kernel_rfl) (by kernel_rfl) l2.cap ho.reads (by rw [List.length_map]; omega), ?_, hf⟩
    unfold foldE
    rw [hL]
theorem vendored_spec (s : ByteArray) (hs : s.size < 4294967281) {w : World} (hm : MaxL w) : Calls Tryz.prog F_modzip_vendored #[.string s] w fun e w' => e = .returned (.bool (vend s)) ∧ w' = w := by
  refine vc_modzip_vendored_ok (R := fun v w' => v = .bool (vend s) ∧ w' = w) ?_ (fun v w' h => ⟨by rw [h.1], h.2⟩)
  refine (hasPrefix_spec s sVen w).mono ?_
  rintro e w2 ⟨rfl, rfl⟩
  refine ⟨_, rfl, fun h => ⟨by unfold vend; rw [h]; rfl, rfl⟩, fun h => (contains2_spec s sVen2 hs hm).mono ?_⟩
  rintro e w5 ⟨rfl, rfl⟩
  exact ⟨_, rfl, by unfold vend; rw [h]; rfl, rfl⟩
def frontE (m v : ByteArray) : ByteArray := m ++ ⟨#[64]⟩ ++ v ++ ⟨#[47]⟩
theorem front_spec (m v : ByteArray) (hs : m.size + v.size ≤ 4611686018427387904) (w : World) : Calls Tryz.prog F_modzip_Front #[.string m, .string v] w fun e w' => e = .returned (.string (frontE m v)) ∧ w' = w := by
  refine vc_modzip_Front_ok (R := fun u w' => u = .string (frontE m v) ∧ w' = w) ?_ (fun u w' h => ⟨by rw [h.1], h.2⟩)
  refine ⟨?_, ?_, ?_, rfl, rfl⟩
  · show m.size + 1 ≤ 9223372036854775807
    omega
  · rw [ByteArray.size_append]
    show m.size + 1 + v.size ≤ 9223372036854775807
    omega
  · rw [ByteArray.size_append, ByteArray.size_append]
    show m.size + 1 + v.size + 1 ≤ 9223372036854775807
    omega
theorem fclone_spec {w : World} {a : Option Addr} {n c : Nat} {xs : List FileE} (hr : ReadsK encF 2 w a xs) (hn : xs.length = n) (hl : n ≤ 1000000) : Calls Tryz.prog F_slices_Clone #[.slice a n c] w fun e w' =>
    ∃ l, e = .returned (.slice l.a l.len l.cap) ∧ OwnK encF 2 w' w.heap.size T_api_File l xs ∧ Fr (fun _ => False) w w' := by
  refine vc_slices_Clone_ok (R := fun v w' => ∃ l : Sl, v = .slice l.a l.len l.cap ∧ OwnK encF 2 w' w.heap.size T_api_File l xs ∧ Fr (fun _ => False) w w') ?_ (fun v w' ⟨l, h⟩ => ⟨l, by rw [h.1], h.2⟩)
  refine ⟨fun ha => ?_, fun ha w1 h1 => ?_⟩
  · have ha : a = none := by simpa using ha
    have hx : xs = [] := by
      cases xs with
      | nil => rfl
      | cons x r =>
        obtain ⟨ad, h, _⟩ := hr 0 x rfl
        rw [ha] at h; cases h
    subst hx
    exact ⟨⟨none, 0, 0⟩, rfl, .nil _ _ _, .refl _ _⟩
  · have hf1 : Fr (fun _ => False) w w1 := by rw [h1]; exact .alloc _ _ _
    have ho1 : OwnK encF 2 w1 w.heap.size T_api_File ⟨some ⟨w.heap.size, 0, none⟩, 0, 0⟩ [] := by rw [h1]; exact .empty w T_api_File
    obtain ⟨w2, l3, hr2, ho2, hf2⟩ := append_allK elF ho1 c (hr.keep hf1 (by simp)) (by simp [maxLen]; omega) (by simp; omega) hf1.size hn
    exact ⟨w2, l3, hr2, l3, rfl, ho2, hf1.trans hf2 fun q hq ⟨y, hy, e⟩ => by cases hy; simp only at e; omega⟩
def preF (front : ByteArray) (x : FileE) : FileE := ⟨front ++ x.path, x.data⟩
theorem prefixed_spec {w : World} {a : Option Addr} {n c : Nat} {xs : List FileE} (hr : ReadsK encF 2 w a xs) (hn : xs.length = n) (hl : n ≤ 1000000) (front : ByteArray) (hs : ∀ x ∈ xs, front.size + x.path.size ≤ 9223372036854775807) :
    Calls Tryz.prog F_modzip_prefixed #[.slice a n c, .string front] w fun e w' => ∃ l, e = .returned (.slice l.a l.len l.cap) ∧ OwnK encF 2 w' w.heap.size T_api_File l (xs.map (preF front)) ∧ Fr (fun _ => False) w w' := by
  refine vc_modzip_prefixed_ok (R := fun v w' => ∃ l : Sl, v = .slice l.a l.len l.cap ∧ OwnK encF 2 w' w.heap.size T_api_File l (xs.map (preF front)) ∧ Fr (fun _ => False) w w') ?_ (fun v w' ⟨l, h⟩ => ⟨l, by rw [h.1], h.2⟩)
  refine (fclone_spec hr hn hl).mono ?_
  rintro e w2 ⟨l, rfl, ho, hf2⟩
  have hll := ho.len
  refine ⟨l, rfl, fun i w' => ∃ k : Nat, i = k ∧ k ≤ xs.length ∧ OwnK encF 2 w' w.heap.size T_api_File l ((xs.take k).map (preF front) ++ xs.drop k) ∧ Fr (fun _ => False) w w', fun i _ => xs.length - i.toNat, ⟨0, rfl, Nat.zero_le _, by simpa using ho, hf2⟩, ?_⟩
  clear ho
  rintro i w7 ⟨k, rfl, hk, ho, hf⟩
  refine ⟨fun hlt => ?_, fun hge => ?_⟩
  · have hlt := of_decide_eq_true hlt
    have hkl : k < xs.length := by omega
    have hx : xs[k]? = some xs[k] := List.getElem?_eq_getElem hkl
    have hdr : xs.drop k = xs[k] :: xs.drop (k + 1) := List.drop_eq_getElem_cons hkl
    generalize xs[k] = x at hx hdr
    have htl : ((xs.take k).map (preF front)).length = k := by rw [List.length_map, List.length_take]; omega
    have hxk : ((xs.take k).map (preF front) ++ xs.drop k)[k]? = some x := by rw [List.getElem?_append_right (by omega), htl, Nat.sub_self, hdr]; rfl
    obtain ⟨ad, had, hrd⟩ := (ho.reads fun _ => rfl) k x hxk
    have hrd0 := hrd 0 (.string x.path) rfl
    obtain ⟨ad', had', hwr, ho', hf'⟩ := OwnK.setField (enc := encF) (k := 2) (fun _ => rfl) ho (i := k) (j := 0) (x := x) (y := preF front x) (v := .string (front ++ x.path)) hxk (show 0 < 2 by decide) rfl
    rw [had] at had'; cases had'
    have hz : ∀ q : Addr, q.add 0 = q := fun q => by cases q; rfl
    rw [hz] at hrd0 hwr ho' hf'
    have e1 : IntKind.i64.wrap ((k : Int) + 1) = ((k + 1 : Nat) : Int) := by rw [wrap_i64 (by omega) (by omega)]; omega
    rw [e1]
    refine ⟨⟨by omega, by omega⟩, ad, had, x.path, by rw [Int.toNat_natCast]; exact hrd0, hs x (List.mem_of_getElem? hx), ⟨by omega, by omega⟩, ad, had, by rw [Int.toNat_natCast]; exact hwr, fun w11 h11 => ?_⟩
    rw [Int.toNat_natCast] at h11
    subst h11
    refine ⟨⟨k + 1, rfl, by omega, ?_, hf.trans hf' fun q hq ⟨y, hy, e⟩ => by have := (ho.blk hy).1; omega⟩, by dsimp only; omega⟩
    have hset : ((xs.take k).map (preF front) ++ xs.drop k).set k (preF front x) = (xs.take (k + 1)).map (preF front) ++ xs.drop (k + 1) := by
      rw [List.set_append_right _ _ (by omega), htl, Nat.sub_self, hdr, List.set_cons_zero, List.take_add_one, hx, List.map_append, List.append_assoc]
      rfl
    rw [← hset]; exact ho'
  · have hge := of_decide_eq_false hge
    have hk' : k = xs.length := by omega
    rw [hk', List.take_length, List.drop_length, List.append_nil] at ho
    exact ⟨l, rfl, ho, hf⟩
end Go.Proofs.YtfoeooddnmppnaaGreatDoor

/- modzip.check: what is wrong with a module's files. Condition: the files are no more than a hundred thousand, their texts no longer than memory. -/
set_option linter.unusedVariables false
namespace Go.Proofs.YtfoeooddnmppnaaGreatDoor
open Go Vc Go.Proofs

def hasK (l : List ByteArray) (k : ByteArray) : Bool := l.any fun a => decide (a = k)
theorem hasK_iff {l : List ByteArray} {k : ByteArray} : hasK l k = true ↔ k ∈ l := by
  unfold hasK
  rw [List.any_eq_true]
  exact ⟨fun ⟨x, hx, h⟩ => of_decide_eq_true h ▸ hx, fun h => ⟨k, h, decide_eq_true rfl⟩⟩
theorem mlook_keys (l : List ByteArray) (k : ByteArray) : mlook (l.map fun a => (a, Value.bool true)) k = if hasK l k = true then some (Value.bool true) else none := by
  induction l with
  | nil => rfl
  | cons a r ih =>
    rw [List.map_cons, mlook, ih]
    unfold hasK
    rw [List.any_cons]
    by_cases h : a = k
    · rw [if_pos h, decide_eq_true h]; rfl
    · rw [if_neg h, decide_eq_false h, Bool.false_or]
theorem mupd_keys (l : List ByteArray) (k : ByteArray) (h : k ∉ l) : mupd (l.map fun a => (a, Value.bool true)) k (.bool true) = (l ++ [k]).map fun a => (a, Value.bool true) := by
  induction l with
  | nil => rfl
  | cons a r ih =>
    rw [List.map_cons, mupd, if_neg fun e => h (by rw [e]; exact List.mem_cons_self), ih fun hm => h (List.mem_cons_of_mem _ hm)]
    rfl
theorem check_spec {w : World} {a : Option Addr} {n c : Nat} {ys : List FileE} (hr : ReadsK encF 2 w a ys) (hn : ys.length = n) (hl : n ≤ 100000) (hp : ∀ y ∈ ys, y.path.size ≤ 140737488355328) (ht : totalF ys ≤ 4611686018427387904) :
    Calls Tryz.prog F_modzip_check #[.slice a n c] w fun e w' => e = .returned (.int .i64 (chkE ys)) ∧ Fr (fun _ => False) w w' := by
  refine vc_modzip_check_ok (R := fun v w' => v = .int .i64 (chkE ys) ∧ Fr (fun _ => False) w w') ?_ (fun v w' h => ⟨by rw [h.1], h.2⟩)
  intro w1 h1
  have hf1 : Fr (fun _ => False) w w1 := by rw [h1]; exact .alloc _ _ _
  have hm1 : MapOf w1 w.heap.size (([] : List ByteArray).map fun a => (a, Value.bool true)) := by rw [h1]; exact MapOf.new
  have hlt1 : w.heap.size < w1.heap.size := by rw [h1]; simp
  clear h1
  refine ⟨fun z i w' => ∃ k : Nat, i = k ∧ k ≤ ys.length ∧ z = (totalF (ys.take k) : Int) ∧ (ys.take k).all (fun f => fileB f.path) = true ∧ Fr (fun _ => False) w1 w', fun z i _ => ys.length - i.toNat, ⟨0, rfl, Nat.zero_le _, rfl, rfl, .refl _ _⟩, ?_⟩
  rintro z i w6 ⟨k, rfl, hk, rfl, hall, hf⟩
  have hT := totalF_le ys k
  refine ⟨fun hlt => ?_, fun hge => ?_⟩
  · have hlt := of_decide_eq_true hlt
    have hkl : k < ys.length := by omega
    have hx : ys[k]? = some ys[k] := List.getElem?_eq_getElem hkl
    have htk : ys.take (k + 1) = ys.take k ++ [ys[k]] := (List.take_append_getElem hkl).symm
    generalize ys[k] = x at hx htk
    have hxm := List.mem_of_getElem? hx
    obtain ⟨ad, had, hld⟩ := ((hr.keep (hf1.trans' hf) (by simp)).load elF hx)
    refine ⟨⟨by omega, by omega⟩, ad, had, x.path, x.data, by rw [Int.toNat_natCast]; exact hld, fun w10 h10 => ?_⟩
    subst h10
    refine ⟨_, boxF_run w6 x, x.path, boxF_cell w6 x (X := fun _ => False) (.refl _ _) (by simp) (j := 0) rfl, (filePath_spec x.path (hp x hxm) _).mono ?_⟩
    rintro e w14 ⟨rfl, hf14⟩
    have hf14' : Fr (fun _ => False) w1 w14 := (hf.trans' (.alloc _ _ _)).trans' hf14
    refine ⟨_, rfl, fun h => ⟨?_, hf1.trans' hf14'⟩, fun h => ⟨x.data, boxF_cell w6 x hf14 (by simp) (j := 1) rfl, ?_⟩⟩
    · have h : fileB x.path = false := by simpa using h
      unfold chkE
      rw [if_pos]
      rw [Bool.eq_false_iff]
      intro ha
      rw [List.all_eq_true.1 ha x hxm] at h
      cases h
    · have h : fileB x.path = true := by simpa using h
      have hT2 := totalF_take hx
      have hT3 := totalF_le ys (k + 1)
      have e1 : IntKind.i64.wrap ((k : Int) + 1) = ((k + 1 : Nat) : Int) := by rw [wrap_i64 (by omega) (by omega)]; omega
      have e2 : IntKind.i64.wrap ((totalF (ys.take k) : Int) + (x.data.size : Int)) = (totalF (ys.take (k + 1)) : Int) := by rw [wrap_i64 (by omega) (by omega)]; omega
      rw [e1, e2]
      refine ⟨⟨k + 1, rfl, by omega, rfl, ?_, hf14'⟩, by dsimp only; omega⟩
      rw [htk, List.all_append, hall]
      simp [h]
  · have hge := of_decide_eq_false hge
    have hk' : k = ys.length := by omega
    subst hk'
    rw [List.take_length] at hall ⊢
    have hc4 : ¬ (ys.all (fun f => fileB f.path) = false) := by rw [hall]; decide
    refine ⟨fun i w' => ∃ k : Nat, i = k ∧ k ≤ ys.length ∧ ((ys.take k).map fun f => foldE f.path).Nodup ∧ MapOf w' w.heap.size (((ys.take k).map fun f => foldE f.path).map fun a => (a, Value.bool true)) ∧ Fr (fun _ => False) w w', fun i _ => ys.length - i.toNat, ⟨0, rfl, Nat.zero_le _, by simp, hm1.keep hf (by simp), hf1.trans' hf⟩, ?_⟩
    clear hf
    rintro i w20 ⟨k, rfl, hk, hnd, hm20, hf⟩
    refine ⟨fun hlt => ?_, fun hge => ?_⟩
    · have hlt := of_decide_eq_true hlt
      have hkl : k < ys.length := by omega
      have hx : ys[k]? = some ys[k] := List.getElem?_eq_getElem hkl
      have htk : ys.take (k + 1) = ys.take k ++ [ys[k]] := (List.take_append_getElem hkl).symm
      generalize ys[k] = x at hx htk
      have hxm := List.mem_of_getElem? hx
      have hfile : fileB x.path = true := List.all_eq_true.1 hall x hxm
      have hsz : x.path.size ≤ 1000000 := by
        unfold fileB cleanB at hfile
        simp only [Bool.and_eq_true, decide_eq_true_eq] at hfile
        omega
      obtain ⟨ad, had, hld⟩ := ((hr.keep hf (by simp)).load elF hx)
      refine ⟨⟨by omega, by omega⟩, ad, had, x.path, x.data, by rw [Int.toNat_natCast]; exact hld, fun w24 h24 => ?_⟩
      subst h24
      have hfb : Fr (fun _ => False) w20 (w20.alloc (.cells (encF x).toArray T_api_File)) := .alloc _ _ _
      refine ⟨_, boxF_run w20 x, x.path, boxF_cell w20 x (X := fun _ => False) (.refl _ _) (by simp) (j := 0) rfl, (fold_spec x.path hsz _).mono ?_⟩
      rintro e w28 ⟨rfl, hf28⟩
      have hf28' : Fr (fun _ => False) w20 w28 := hfb.trans' hf28
      have hlk := map_lookup (P := Tryz.prog) (mt := T_map_string_bool) (kt := T_string) (et := T_bool) (by kernel_rfl) (by kernel_rfl) (z := .bool false) (w := w28) (by kernel_rfl) (hm20.keep hf28' (by simp)) (foldE x.path) false
      rw [mlook_keys] at hlk
      refine ⟨_, rfl, w28, hasK ((ys.take k).map fun f => foldE f.path) (foldE x.path), ?_, fun hd => ⟨?_, hf.trans' hf28'⟩, fun hd => ?_⟩
      · rw [hlk]
        cases hasK ((ys.take k).map fun f => foldE f.path) (foldE x.path) <;> rfl
      · have hd := hasK_iff.1 hd
        unfold chkE
        rw [if_neg hc4, if_pos]
        intro hnd2
        have := (List.take_append_drop (k + 1) ys).symm
        rw [this, htk, List.append_assoc, List.map_append, List.nodup_append] at hnd2
        exact hnd2.2.2 _ hd _ (List.mem_map.2 ⟨x, by simp, rfl⟩) rfl
      · have hd : foldE x.path ∉ (ys.take k).map fun f => foldE f.path := fun h => by rw [hasK_iff.2 h] at hd; cases hd
        have hf28b : w28.cell? ⟨w20.heap.size, 0, none⟩ = some (.string x.path) := boxF_cell w20 x hf28 (by simp) (j := 0) rfl
        refine ⟨x.path, hf28b, (fold_spec x.path hsz _).mono ?_⟩
        rintro e w34 ⟨rfl, hf34⟩
        obtain ⟨w36, hup, hm36, hf36⟩ := map_update (P := Tryz.prog) (mt := T_map_string_bool) (kt := T_string) (et := T_bool) (by kernel_rfl) (by kernel_rfl) (hm20.keep (hf28'.trans' hf34) (by simp)) (foldE x.path) (.bool true)
        rw [mupd_keys _ _ hd] at hm36
        have e1 : IntKind.i64.wrap ((k : Int) + 1) = ((k + 1 : Nat) : Int) := by rw [wrap_i64 (by omega) (by omega)]; omega
        rw [e1]
        have hmt : (ys.take (k + 1)).map (fun f => foldE f.path) = (ys.take k).map (fun f => foldE f.path) ++ [foldE x.path] := by rw [htk, List.map_append]; rfl
        refine ⟨_, rfl, w36, hup, ⟨k + 1, rfl, by omega, ?_, by rw [hmt]; exact hm36, ((hf.trans' hf28').trans' hf34).trans hf36 fun q hq e => by omega⟩, by dsimp only; omega⟩
        rw [hmt, List.nodup_append]
        refine ⟨hnd, by simp, fun a ha b hb he => ?_⟩
        rw [List.mem_singleton] at hb
        rw [he, hb] at ha
        exact hd ha
    · have hge := of_decide_eq_false hge
      have hk' : k = ys.length := by omega
      rw [hk', List.take_length] at hnd
      have hc8 : ¬ ¬ (ys.map fun f => foldE f.path).Nodup := fun h => h hnd
      refine ⟨fun h => ⟨?_, hf⟩, fun h => ⟨fun h2 => ⟨?_, hf⟩, fun h2 => ⟨?_, hf⟩⟩⟩
      · have h := of_decide_eq_true h
        unfold chkE
        rw [if_neg hc4, if_neg hc8, if_pos (.inl (by omega))]
      · have h := of_decide_eq_false h
        have h2 := of_decide_eq_true h2
        unfold chkE
        rw [if_neg hc4, if_neg hc8, if_pos (.inr (by omega))]
      · have h := of_decide_eq_false h
        have h2 := of_decide_eq_false h2
        unfold chkE
        rw [if_neg hc4, if_neg hc8, if_neg (by omega)]
end Go.Proofs.YtfoeooddnmppnaaGreatDoor

/- Formulas of 7 Go functions of this seat (written by a program of the author's, vcgen.py), and that each is enough for the call. No condition. -/
set_option linter.unusedVariables false
namespace Go.Proofs.YtfoeooddnmppnaaGreatDoor
open Go Vc Go.Proofs
set_option maxRecDepth 100000
/-- modzip.Select$1$1 -/
def vc_modzip_Select_1_1 (x0 : ByteArray) (c0 : Addr) (w : World) (R : Value → World → Prop) : Prop :=
  ∃ s1 : ByteArray, (World.cell? w c0 = some (Value.string s1) ∧
   Calls Tryz.prog (29 : Nat) (Array.mk [Value.string s1, Value.string x0]) (w) (fun e2 w3 =>
     ∃ b4 : Bool, (e2 = Ending.returned (Value.bool b4) ∧
      R (Value.bool b4) w3)))
theorem vc_modzip_Select_1_1_ok {x0 : ByteArray} {c0 : Addr} {w : World} {R : Value → World → Prop} {R' : Ending → World → Prop} (h : vc_modzip_Select_1_1 x0 c0 w R) (hR : ∀ v w', R v w' → R' (.returned v) w') :
    Calls Tryz.prog 28 #[.string x0, .pointer (some c0)] w R' :=
  calls_of_body (vs := [(.string x0, false), (.pointer (some c0), true)]) (ty := ty) (ann := ⟨[], [], [], []⟩) (c := Tryz.f28.body.getD .skip) (by kernel_rfl) Tryz.func28 (by kernel_rfl) (by kernel_rfl) (Eq.mp (by kernel_rfl) h) hR
/-- slices.IndexFunc[[]string,string]#in -/
def vc_slices_IndexFunc_in (x0a : Option Addr) (x0n : Nat) (x0c : Nat) (f : Addr) (w : World) (R : Value → World → Prop) : Prop :=
  ∃ I1 : Int → World → Prop, ∃ I2 : Int → World → Nat, (I1 0 w ∧
   ∀ n3 : Int,
   ∀ w4 : World,
   (I1 n3 w4 →
     (((decide (n3 < (↑x0n : Int)) = true →
        ((0 ≤ n3 ∧
          n3 < (↑x0n : Int)) ∧
         ∃ a5 : Addr, (x0a = some a5 ∧
          ∃ s6 : ByteArray, (World.cell? w4 (Addr.add a5 (Int.toNat n3 * 1)) = some (Value.string s6) ∧
           Calls Tryz.prog (28 : FuncId) (Array.mk [Value.string s6, Value.pointer (some f)]) (w4) (fun e7 w8 =>
             ∃ b9 : Bool, (e7 = Ending.returned (Value.bool b9) ∧
              (((b9 = true →
                 R (Value.int IntKind.i64 n3) w8)) ∧
               (b9 = false →
                 (I1 (IntKind.wrap IntKind.i64 (n3 + 1)) w8 ∧
                  I2 (IntKind.wrap IntKind.i64 (n3 + 1)) w8 < I2 n3 w4)))))))))) ∧
      (decide (n3 < (↑x0n : Int)) = false →
        R (Value.int IntKind.i64 (-1)) w4))))
theorem vc_slices_IndexFunc_in_ok {x0a : Option Addr} {x0n : Nat} {x0c : Nat} {f : Addr} {w : World} {R : Value → World → Prop} {R' : Ending → World → Prop} (h : vc_slices_IndexFunc_in x0a x0n x0c f w R) (hR : ∀ v w', R v w' → R' (.returned v) w') :
    Calls Tryz.prog 60 #[.slice x0a x0n x0c, .func (.func 28) #[] #[.pointer (some f)]] w R' :=
  calls_of_body (vs := [(.slice x0a x0n x0c, false), (.func (.func 28) #[] #[.pointer (some f)], false)]) (ty := ty) (ann := ⟨[], [(2, [(8, .int .i64)])], [], []⟩) (c := Tryz.f60.body.getD .skip) (by kernel_rfl) Tryz.func60 (by kernel_rfl) (by kernel_rfl) (Eq.mp (by kernel_rfl) h) hR
/-- slices.ContainsFunc[[]string,string]#in -/
def vc_slices_ContainsFunc_in (x0a : Option Addr) (x0n : Nat) (x0c : Nat) (f : Addr) (w : World) (R : Value → World → Prop) : Prop :=
  Calls Tryz.prog (60 : Nat) (Array.mk [Value.slice x0a x0n x0c, Value.func (Fn.func 28) (Array.mk []) (Array.mk [Value.pointer (some f)])]) (w) (fun e1 w2 =>
    ∃ n3 : Int, (e1 = Ending.returned (Value.int IntKind.i64 n3) ∧
     R (Value.bool (decide (n3 ≥ 0))) w2))
theorem vc_slices_ContainsFunc_in_ok {x0a : Option Addr} {x0n : Nat} {x0c : Nat} {f : Addr} {w : World} {R : Value → World → Prop} {R' : Ending → World → Prop} (h : vc_slices_ContainsFunc_in x0a x0n x0c f w R) (hR : ∀ v w', R v w' → R' (.returned v) w') :
    Calls Tryz.prog 27 #[.slice x0a x0n x0c, .func (.func 28) #[] #[.pointer (some f)]] w R' :=
  calls_of_body (vs := [(.slice x0a x0n x0c, false), (.func (.func 28) #[] #[.pointer (some f)], false)]) (ty := ty) (ann := ⟨[], [], [], []⟩) (c := Tryz.f27.body.getD .skip) (by kernel_rfl) Tryz.func27 (by kernel_rfl) (by kernel_rfl) (Eq.mp (by kernel_rfl) h) hR
/-- modzip.Select$1 -/
def vc_modzip_Select_1 (x0 : ByteArray) (c0 : Addr) (w : World) (R : Value → World → Prop) : Prop :=
  ∀ w1 : World,
  (w1 = World.alloc w (Obj.cells (Array.mk [Value.string x0]) 9) →
    ∃ l2 : Sl, (World.cell? w1 c0 = some (Value.slice l2.1 l2.2 l2.3) ∧
     Calls Tryz.prog (27 : Nat) (Array.mk [Value.slice l2.1 l2.2 l2.3, Value.func (Fn.func 28) (Array.mk []) (Array.mk [Value.pointer (some (Addr.mk (Array.size (World.heap w)) 0 none))])]) (w1) (fun e3 w4 =>
       ∃ b5 : Bool, (e3 = Ending.returned (Value.bool b5) ∧
        R (Value.bool b5) w4))))
theorem vc_modzip_Select_1_ok {x0 : ByteArray} {c0 : Addr} {w : World} {R : Value → World → Prop} {R' : Ending → World → Prop} (h : vc_modzip_Select_1 x0 c0 w R) (hR : ∀ v w', R v w' → R' (.returned v) w') :
    Calls Tryz.prog 26 #[.string x0, .pointer (some c0)] w R' :=
  calls_of_body (vs := [(.string x0, false), (.pointer (some c0), true)]) (ty := ty) (ann := ⟨[], [], [], []⟩) (c := Tryz.f26.body.getD .skip) (by kernel_rfl) Tryz.func26 (by kernel_rfl) (by kernel_rfl) (Eq.mp (by kernel_rfl) h) hR
/-- modzip.Select$2 -/
def vc_modzip_Select_2 (x0_0 : ByteArray) (x0_1 : ByteArray) (w : World) (R : Value → World → Prop) : Prop :=
  ∀ w1 : World,
  (w1 = World.alloc w (Obj.cells (Array.mk [Value.string x0_0, Value.string x0_1]) 35) →
    ∃ s2 : ByteArray, (World.cell? w1 (Addr.mk (Array.size (World.heap w)) 0 none) = some (Value.string s2) ∧
     R (Value.bool (ByteArray.toList s2 == ByteArray.toList (ByteArray.mk (Array.mk [76, 73, 67, 69, 78, 83, 69])))) w1))
theorem vc_modzip_Select_2_ok {x0_0 : ByteArray} {x0_1 : ByteArray} {w : World} {R : Value → World → Prop} {R' : Ending → World → Prop} (h : vc_modzip_Select_2 x0_0 x0_1 w R) (hR : ∀ v w', R v w' → R' (.returned v) w') :
    Calls Tryz.prog 32 #[.agg #[.string x0_0, .string x0_1]] w R' :=
  calls_of_body (vs := [(.agg #[.string x0_0, .string x0_1], false)]) (ty := ty) (ann := ⟨[], [], [], []⟩) (c := Tryz.f32.body.getD .skip) (by kernel_rfl) Tryz.func32 (by kernel_rfl) (by kernel_rfl) (Eq.mp (by kernel_rfl) h) hR
/-- slices.IndexFunc[[]api.File,api.File]#lic -/
def vc_slices_IndexFunc_lic (x0a : Option Addr) (x0n : Nat) (x0c : Nat) (w : World) (R : Value → World → Prop) : Prop :=
  ∃ I1 : Int → World → Prop, ∃ I2 : Int → World → Nat, (I1 0 w ∧
   ∀ n3 : Int,
   ∀ w4 : World,
   (I1 n3 w4 →
     (((decide (n3 < (↑x0n : Int)) = true →
        ((0 ≤ n3 ∧
          n3 < (↑x0n : Int)) ∧
         ∃ a5 : Addr, (x0a = some a5 ∧
          ∃ s6 : ByteArray, ∃ s7 : ByteArray, (Sem.run Tryz.prog (loadVar 35 (Addr.add a5 (Int.toNat n3 * 2))) w4 = Result.ok (Value.agg (Array.mk [Value.string s6, Value.string s7])) w4 ∧
           Calls Tryz.prog (32 : FuncId) (Array.mk [Value.agg (Array.mk [Value.string s6, Value.string s7])]) (w4) (fun e8 w9 =>
             ∃ b10 : Bool, (e8 = Ending.returned (Value.bool b10) ∧
              (((b10 = true →
                 R (Value.int IntKind.i64 n3) w9)) ∧
               (b10 = false →
                 (I1 (IntKind.wrap IntKind.i64 (n3 + 1)) w9 ∧
                  I2 (IntKind.wrap IntKind.i64 (n3 + 1)) w9 < I2 n3 w4)))))))))) ∧
      (decide (n3 < (↑x0n : Int)) = false →
        R (Value.int IntKind.i64 (-1)) w4))))
theorem vc_slices_IndexFunc_lic_ok {x0a : Option Addr} {x0n : Nat} {x0c : Nat} {w : World} {R : Value → World → Prop} {R' : Ending → World → Prop} (h : vc_slices_IndexFunc_lic x0a x0n x0c w R) (hR : ∀ v w', R v w' → R' (.returned v) w') :
    Calls Tryz.prog 63 #[.slice x0a x0n x0c, .func (.func 32) #[] #[]] w R' :=
  calls_of_body (vs := [(.slice x0a x0n x0c, false), (.func (.func 32) #[] #[], false)]) (ty := ty) (ann := ⟨[], [(2, [(8, .int .i64)])], [], []⟩) (c := Tryz.f63.body.getD .skip) (by kernel_rfl) Tryz.func63 (by kernel_rfl) (by kernel_rfl) (Eq.mp (by kernel_rfl) h) hR
/-- slices.ContainsFunc[[]api.File,api.File]#lic -/
def vc_slices_ContainsFunc_lic (x0a : Option Addr) (x0n : Nat) (x0c : Nat) (w : World) (R : Value → World → Prop) : Prop :=
  Calls Tryz.prog (63 : Nat) (Array.mk [Value.slice x0a x0n x0c, Value.func (Fn.func 32) (Array.mk []) (Array.mk [])]) (w) (fun e1 w2 =>
    ∃ n3 : Int, (e1 = Ending.returned (Value.int IntKind.i64 n3) ∧
     R (Value.bool (decide (n3 ≥ 0))) w2))
theorem vc_slices_ContainsFunc_lic_ok {x0a : Option Addr} {x0n : Nat} {x0c : Nat} {w : World} {R : Value → World → Prop} {R' : Ending → World → Prop} (h : vc_slices_ContainsFunc_lic x0a x0n x0c w R) (hR : ∀ v w', R v w' → R' (.returned v) w') :
    Calls Tryz.prog 31 #[.slice x0a x0n x0c, .func (.func 32) #[] #[]] w R' :=
  calls_of_body (vs := [(.slice x0a x0n x0c, false), (.func (.func 32) #[] #[], false)]) (ty := ty) (ann := ⟨[], [], [], []⟩) (c := Tryz.f31.body.getD .skip) (by kernel_rfl) Tryz.func31 (by kernel_rfl) (by kernel_rfl) (Eq.mp (by kernel_rfl) h) hR
end Go.Proofs.YtfoeooddnmppnaaGreatDoor

/- modzip.Select's closures, and what looks through rows with them. Condition: rows are no longer than a million. -/
set_option linter.unusedVariables false
namespace Go.Proofs.YtfoeooddnmppnaaGreatDoor
open Go Vc Go.Proofs

theorem sel11_spec (n path : ByteArray) {f : Addr} {w : World} (hf : w.cell? f = some (.string path)) : Calls Tryz.prog F_modzip_Select_1_1 #[.string n, .pointer (some f)] w fun e w' => e = .returned (.bool (begB path n)) ∧ w' = w := by
  refine vc_modzip_Select_1_1_ok (R := fun v w' => v = .bool (begB path n) ∧ w' = w) ?_ (fun v w' h => ⟨by rw [h.1], h.2⟩)
  refine ⟨path, hf, (hasPrefix_spec path n w).mono ?_⟩
  rintro e w3 ⟨rfl, rfl⟩
  exact ⟨_, rfl, rfl, rfl⟩
theorem indexIn_spec {w : World} {a : Option Addr} {n c : Nat} {ns : List ByteArray} (hr : Reads w a (strV ns)) (hn : ns.length = n) (hl : n ≤ 1000000) {path : ByteArray} {f : Addr} (hf : w.cell? f = some (.string path)) :
    Calls Tryz.prog F_slices_ContainsFunc #[.slice a n c, .func (.func F_modzip_Select_1_1) #[] #[.pointer (some f)]] w fun e w' => e = .returned (.bool (inB ns path)) ∧ w' = w := by
  refine vc_slices_ContainsFunc_in_ok (R := fun v w' => v = .bool (inB ns path) ∧ w' = w) ?_ (fun v w' h => ⟨by rw [h.1], h.2⟩)
  refine Calls.mono (R := fun e w' => ∃ z : Int, e = .returned (.int .i64 z) ∧ decide (z ≥ 0) = inB ns path ∧ w' = w) (vc_slices_IndexFunc_in_ok (R := fun v w' => ∃ z : Int, v = .int .i64 z ∧ decide (z ≥ 0) = inB ns path ∧ w' = w) ?_ (fun v w' ⟨z, h1, h2⟩ => ⟨z, by rw [h1], h2⟩)) (fun e w' ⟨z, h1, h2, h3⟩ => ⟨z, h1, by rw [h2], h3⟩)
  refine ⟨fun i w' => ∃ k : Nat, i = k ∧ k ≤ ns.length ∧ (ns.take k).any (begB path) = false ∧ w' = w, fun i _ => ns.length - i.toNat, ⟨0, rfl, Nat.zero_le _, rfl, rfl⟩, ?_⟩
  rintro i w4 ⟨k, rfl, hk, hno, hw⟩
  subst hw
  refine ⟨fun hlt => ?_, fun hge => ⟨-1, rfl, ?_, rfl⟩⟩
  · have hlt := of_decide_eq_true hlt
    have hkl : k < ns.length := by omega
    have hx : ns[k]? = some ns[k] := List.getElem?_eq_getElem hkl
    have htk : ns.take (k + 1) = ns.take k ++ [ns[k]] := (List.take_append_getElem hkl).symm
    generalize ns[k] = x at hx htk
    obtain ⟨ad, had, hc⟩ := hr k (.string x) (by unfold strV; rw [List.getElem?_map, hx]; rfl)
    have e1 : IntKind.i64.wrap ((k : Int) + 1) = ((k + 1 : Nat) : Int) := by rw [wrap_i64 (by omega) (by omega)]; omega
    rw [e1]
    refine ⟨⟨by omega, by omega⟩, ad, had, x, by rw [Int.toNat_natCast, Nat.mul_one]; exact hc, (sel11_spec x path hf).mono ?_⟩
    rintro e w8 ⟨rfl, rfl⟩
    refine ⟨_, rfl, fun h => ⟨_, rfl, ?_, rfl⟩, fun h => ⟨⟨k + 1, rfl, by omega, ?_, rfl⟩, by dsimp only; omega⟩⟩
    · have hin : inB ns path = true := List.any_eq_true.2 ⟨x, List.mem_of_getElem? hx, h⟩
      rw [hin]; exact decide_eq_true (by omega)
    · rw [htk, List.any_append, hno]; simp [h]
  · have hge := of_decide_eq_false hge
    have hk' : k = ns.length := by omega
    rw [hk', List.take_length] at hno
    unfold inB
    rw [hno]; rfl
/-- The captured row of folders of other modules. -/
structure NestAt (w : World) (b : Nat) (ns : List ByteArray) (l : Sl) : Prop where
  box : w.heap[b]? = some (.cells #[.slice l.a l.len l.cap] T_S_string (0, 0))
  own : Vc.Own w (b + 1) T_string l (strV ns)
theorem NestAt.keep {w w2 : World} {b : Nat} {ns : List ByteArray} {l : Sl} (h : NestAt w b ns l) {X : Nat → Prop} (hf : Fr X w w2) (hb : ¬ X b) (hx : ∀ x, l.a = some x → ¬ X x.block) : NestAt w2 b ns l := ⟨hf.keep h.box hb, h.own.keep hf hx⟩
theorem inside_spec {w : World} {b : Nat} {ns : List ByteArray} {l : Sl} (h : NestAt w b ns l) (hl : ns.length ≤ 1000000) (path : ByteArray) : Calls Tryz.prog F_modzip_Select_1 #[.string path, .pointer (some ⟨b, 0, none⟩)] w fun e w' => e = .returned (.bool (inB ns path)) ∧ Fr (fun _ => False) w w' := by
  refine vc_modzip_Select_1_ok (R := fun v w' => v = .bool (inB ns path) ∧ Fr (fun _ => False) w w') ?_ (fun v w' h => ⟨by rw [h.1], h.2⟩)
  intro w1 h1
  have hf1 : Fr (fun _ => False) w w1 := by rw [h1]; exact .alloc _ _ _
  have hb1 : w1.heap[w.heap.size]? = some (.cells #[.string path] T_string (0, 0)) := by rw [h1]; exact alloc_new _ _
  have h2 := h.keep hf1 (by simp) (by simp)
  have hlen : ns.length = l.len := by rw [h.own.len, strV, List.length_map]
  refine ⟨l, by rw [cell_blk h2.box]; rfl, (indexIn_spec h2.own.reads hlen (by omega) (by rw [cell_blk hb1]; rfl)).mono ?_⟩
  rintro e w4 ⟨rfl, rfl⟩
  exact ⟨_, rfl, rfl, hf1⟩
theorem sel2_spec (x : FileE) (w : World) : Calls Tryz.prog F_modzip_Select_2 #[.agg #[.string x.path, .string x.data]] w fun e w' => e = .returned (.bool (decide (x.path = sLic))) ∧ Fr (fun _ => False) w w' := by
  refine vc_modzip_Select_2_ok (R := fun v w' => v = .bool (decide (x.path = sLic)) ∧ Fr (fun _ => False) w w') ?_ (fun v w' h => ⟨by rw [h.1], h.2⟩)
  intro w1 h1
  have hf1 : Fr (fun _ => False) w w1 := by rw [h1]; exact .alloc _ _ _
  have hb1 : w1.heap[w.heap.size]? = some (.cells (encF x).toArray T_api_File (0, 0)) := by rw [h1]; exact alloc_new _ _
  exact ⟨x.path, by rw [cell_blk hb1]; rfl, by rw [bs_eq]; rfl, hf1⟩
theorem hasLic_spec {w : World} {a : Option Addr} {n c : Nat} {ys : List FileE} (hr : ReadsK encF 2 w a ys) (hn : ys.length = n) (hl : n ≤ 1000000) :
    Calls Tryz.prog F_slices_ContainsFunc_2 #[.slice a n c, .func (.func F_modzip_Select_2) #[] #[]] w fun e w' => e = .returned (.bool (hasLic ys)) ∧ Fr (fun _ => False) w w' := by
  refine vc_slices_ContainsFunc_lic_ok (R := fun v w' => v = .bool (hasLic ys) ∧ Fr (fun _ => False) w w') ?_ (fun v w' h => ⟨by rw [h.1], h.2⟩)
  refine Calls.mono (R := fun e w' => ∃ z : Int, e = .returned (.int .i64 z) ∧ decide (z ≥ 0) = hasLic ys ∧ Fr (fun _ => False) w w') (vc_slices_IndexFunc_lic_ok (R := fun v w' => ∃ z : Int, v = .int .i64 z ∧ decide (z ≥ 0) = hasLic ys ∧ Fr (fun _ => False) w w') ?_ (fun v w' ⟨z, h1, h2⟩ => ⟨z, by rw [h1], h2⟩)) (fun e w' ⟨z, h1, h2, h3⟩ => ⟨z, h1, by rw [h2], h3⟩)
  refine ⟨fun i w' => ∃ k : Nat, i = k ∧ k ≤ ys.length ∧ hasLic (ys.take k) = false ∧ Fr (fun _ => False) w w', fun i _ => ys.length - i.toNat, ⟨0, rfl, Nat.zero_le _, rfl, .refl _ _⟩, ?_⟩
  rintro i w4 ⟨k, rfl, hk, hno, hf⟩
  refine ⟨fun hlt => ?_, fun hge => ⟨-1, rfl, ?_, hf⟩⟩
  · have hlt := of_decide_eq_true hlt
    have hkl : k < ys.length := by omega
    have hx : ys[k]? = some ys[k] := List.getElem?_eq_getElem hkl
    have htk : ys.take (k + 1) = ys.take k ++ [ys[k]] := (List.take_append_getElem hkl).symm
    generalize ys[k] = x at hx htk
    obtain ⟨ad, had, hld⟩ := ((hr.keep hf (by simp)).load elF hx)
    have e1 : IntKind.i64.wrap ((k : Int) + 1) = ((k + 1 : Nat) : Int) := by rw [wrap_i64 (by omega) (by omega)]; omega
    rw [e1]
    refine ⟨⟨by omega, by omega⟩, ad, had, x.path, x.data, by rw [Int.toNat_natCast]; exact hld, (sel2_spec x w4).mono ?_⟩
    rintro e w8 ⟨rfl, hf8⟩
    refine ⟨_, rfl, fun h => ⟨_, rfl, ?_, hf.trans' hf8⟩, fun h => ⟨⟨k + 1, rfl, by omega, ?_, hf.trans' hf8⟩, by dsimp only; omega⟩⟩
    · have hin : hasLic ys = true := List.any_eq_true.2 ⟨x, List.mem_of_getElem? hx, h⟩
      rw [hin]; exact decide_eq_true (by omega)
    · unfold hasLic at *
      rw [htk, List.any_append, hno]; simp [h]
  · have hge := of_decide_eq_false hge
    have hk' : k = ys.length := by omega
    rw [hk', List.take_length] at hno
    rw [hno]; rfl
end Go.Proofs.YtfoeooddnmppnaaGreatDoor

/- Formulas of 6 Go functions of this seat (written by a program of the author's, vcgen.py), and that each is enough for the call. No condition. -/
set_option linter.unusedVariables false
namespace Go.Proofs.YtfoeooddnmppnaaGreatDoor
open Go Vc Go.Proofs
set_option maxRecDepth 100000
/-- slices.swapRangeCmpFunc[api.File]#sel -/
def vc_slices_swapRangeCmpFunc_sel (x0a : Option Addr) (x0n : Nat) (x0c : Nat) (x1 : Int) (x2 : Int) (x3 : Int) (w : World) (R : Value → World → Prop) : Prop :=
  ∃ I1 : Int → World → Prop, ∃ I2 : Int → World → Nat, (I1 0 w ∧
   ∀ n3 : Int,
   ∀ w4 : World,
   (I1 n3 w4 →
     (((decide (n3 < x3) = true →
        ∀ w5 : World,
        (Drew w4 w5 →
          ∃ I6 : World → Prop, (I6 w5 ∧
           ((0 ≤ IntKind.wrap IntKind.i64 (x2 + n3) ∧
             IntKind.wrap IntKind.i64 (x2 + n3) < (↑x0n : Int)) ∧
            ∃ a7 : Addr, (x0a = some a7 ∧
             ∃ s8 : ByteArray, ∃ s9 : ByteArray, ((∀ w10 : World,
              (I6 w10 →
                Sem.run Tryz.prog (loadVar 35 (Addr.add a7 (Int.toNat (IntKind.wrap IntKind.i64 (x2 + n3)) * 2))) w10 = Result.ok (Value.agg (Array.mk [Value.string s8, Value.string s9])) w10)) ∧
              ((0 ≤ IntKind.wrap IntKind.i64 (x1 + n3) ∧
                IntKind.wrap IntKind.i64 (x1 + n3) < (↑x0n : Int)) ∧
               ∃ a11 : Addr, (x0a = some a11 ∧
                ∃ s12 : ByteArray, ∃ s13 : ByteArray, ((∀ w14 : World,
                 (I6 w14 →
                   Sem.run Tryz.prog (loadVar 35 (Addr.add a11 (Int.toNat (IntKind.wrap IntKind.i64 (x1 + n3)) * 2))) w14 = Result.ok (Value.agg (Array.mk [Value.string s12, Value.string s13])) w14)) ∧
                 ((0 ≤ IntKind.wrap IntKind.i64 (x1 + n3) ∧
                   IntKind.wrap IntKind.i64 (x1 + n3) < (↑x0n : Int)) ∧
                  ∃ a15 : Addr, (x0a = some a15 ∧
                   ∃ w16 : World, (Sem.run Tryz.prog (storeVar 35 (Addr.add a15 (Int.toNat (IntKind.wrap IntKind.i64 (x1 + n3)) * 2)) (Value.agg (Array.mk [Value.string s8, Value.string s9]))) w5 = Result.ok PUnit.unit w16 ∧
                    ((0 ≤ IntKind.wrap IntKind.i64 (x2 + n3) ∧
                      IntKind.wrap IntKind.i64 (x2 + n3) < (↑x0n : Int)) ∧
                     ∃ a17 : Addr, (x0a = some a17 ∧
                      ∃ w18 : World, (Sem.run Tryz.prog (storeVar 35 (Addr.add a17 (Int.toNat (IntKind.wrap IntKind.i64 (x2 + n3)) * 2)) (Value.agg (Array.mk [Value.string s12, Value.string s13]))) w16 = Result.ok PUnit.unit w18 ∧
                       (I1 (IntKind.wrap IntKind.i64 (n3 + 1)) w18 ∧
                        I2 (IntKind.wrap IntKind.i64 (n3 + 1)) w18 < I2 n3 w4))))))))))))))))) ∧
      (decide (n3 < x3) = false →
        R (Value.tuple (Array.mk [])) w4))))
theorem vc_slices_swapRangeCmpFunc_sel_ok {x0a : Option Addr} {x0n : Nat} {x0c : Nat} {x1 : Int} {x2 : Int} {x3 : Int} {w : World} {R : Value → World → Prop} {R' : Ending → World → Prop} (h : vc_slices_swapRangeCmpFunc_sel x0a x0n x0c x1 x2 x3 w R) (hR : ∀ v w', R v w' → R' (.returned v) w') :
    Calls Tryz.prog 99 #[.slice x0a x0n x0c, .int .i64 x1, .int .i64 x2, .int .i64 x3, .func (.func 33) #[] #[]] w R' :=
  calls_of_body (vs := [(.slice x0a x0n x0c, false), (.int .i64 x1, false), (.int .i64 x2, false), (.int .i64 x3, false), (.func (.func 33) #[] #[], false)]) (ty := ty) (ann := ⟨[], [(1, [(10, .int .i64)])], [(3, .swap [13, 19] [(0, true), (1, true), (2, true), (3, true), (4, true), (5, true), (6, true), (7, true), (8, true), (9, true), (10, true), (11, true), (12, true), (13, true), (14, true), (15, true), (16, true), (17, true), (18, true), (19, true), (20, true), (21, false), (22, true), (23, false)])], []⟩) (c := Tryz.f99.body.getD .skip) (by kernel_rfl) Tryz.func99 (by kernel_rfl) (by kernel_rfl) (Eq.mp (by kernel_rfl) h) hR
/-- slices.rotateCmpFunc[api.File]#sel -/
def vc_slices_rotateCmpFunc_sel (x0a : Option Addr) (x0n : Nat) (x0c : Nat) (x1 : Int) (x2 : Int) (x3 : Int) (w : World) (R : Value → World → Prop) : Prop :=
  ∃ I1 : Int → Int → World → Prop, ∃ I2 : Int → Int → World → Nat, (I1 (IntKind.wrap IntKind.i64 (x2 - x1)) (IntKind.wrap IntKind.i64 (x3 - x2)) w ∧
   ∀ n3 : Int,
   ∀ n4 : Int,
   ∀ w5 : World,
   (I1 n3 n4 w5 →
     ((((n3 != n4) = true →
        (((decide (n3 > n4) = true →
           Calls Tryz.prog (99 : Nat) (Array.mk [Value.slice x0a x0n x0c, Value.int IntKind.i64 (IntKind.wrap IntKind.i64 (x2 - n3)), Value.int IntKind.i64 x2, Value.int IntKind.i64 n4, Value.func (Fn.func 33) (Array.mk []) (Array.mk [])]) (w5) (fun e6 w7 =>
             (e6 = Ending.returned (Value.tuple (Array.mk [])) ∧
              (I1 (IntKind.wrap IntKind.i64 (n3 - n4)) n4 w7 ∧
               I2 (IntKind.wrap IntKind.i64 (n3 - n4)) n4 w7 < I2 n3 n4 w5))))) ∧
         (decide (n3 > n4) = false →
           Calls Tryz.prog (99 : Nat) (Array.mk [Value.slice x0a x0n x0c, Value.int IntKind.i64 (IntKind.wrap IntKind.i64 (x2 - n3)), Value.int IntKind.i64 (IntKind.wrap IntKind.i64 (IntKind.wrap IntKind.i64 (x2 + n4) - n3)), Value.int IntKind.i64 n3, Value.func (Fn.func 33) (Array.mk []) (Array.mk [])]) (w5) (fun e8 w9 =>
             (e8 = Ending.returned (Value.tuple (Array.mk [])) ∧
              (I1 n3 (IntKind.wrap IntKind.i64 (n4 - n3)) w9 ∧
               I2 n3 (IntKind.wrap IntKind.i64 (n4 - n3)) w9 < I2 n3 n4 w5))))))) ∧
      ((n3 != n4) = false →
        Calls Tryz.prog (99 : Nat) (Array.mk [Value.slice x0a x0n x0c, Value.int IntKind.i64 (IntKind.wrap IntKind.i64 (x2 - n3)), Value.int IntKind.i64 x2, Value.int IntKind.i64 n3, Value.func (Fn.func 33) (Array.mk []) (Array.mk [])]) (w5) (fun e10 w11 =>
          (e10 = Ending.returned (Value.tuple (Array.mk [])) ∧
           R (Value.tuple (Array.mk [])) w11))))))
theorem vc_slices_rotateCmpFunc_sel_ok {x0a : Option Addr} {x0n : Nat} {x0c : Nat} {x1 : Int} {x2 : Int} {x3 : Int} {w : World} {R : Value → World → Prop} {R' : Ending → World → Prop} (h : vc_slices_rotateCmpFunc_sel x0a x0n x0c x1 x2 x3 w R) (hR : ∀ v w', R v w' → R' (.returned v) w') :
    Calls Tryz.prog 86 #[.slice x0a x0n x0c, .int .i64 x1, .int .i64 x2, .int .i64 x3, .func (.func 33) #[] #[]] w R' :=
  calls_of_body (vs := [(.slice x0a x0n x0c, false), (.int .i64 x1, false), (.int .i64 x2, false), (.int .i64 x3, false), (.func (.func 33) #[] #[], false)]) (ty := ty) (ann := ⟨[], [(2, [(10, .int .i64), (11, .int .i64)])], [], []⟩) (c := Tryz.f86.body.getD .skip) (by kernel_rfl) Tryz.func86 (by kernel_rfl) (by kernel_rfl) (Eq.mp (by kernel_rfl) h) hR
/-- slices.insertionSortCmpFunc[api.File]#sel -/
def vc_slices_insertionSortCmpFunc_sel (x0a : Option Addr) (x0n : Nat) (x0c : Nat) (x1 : Int) (x2 : Int) (w : World) (R : Value → World → Prop) : Prop :=
  ∃ I1 : Int → World → Prop, ∃ I2 : Int → World → Nat, (I1 (IntKind.wrap IntKind.i64 (x1 + 1)) w ∧
   ∀ n3 : Int,
   ∀ w4 : World,
   (I1 n3 w4 →
     (((decide (n3 < x2) = true →
        ∃ I5 : Int → World → Prop, ∃ I6 : Int → World → Nat, (I5 n3 w4 ∧
         ∀ n7 : Int,
         ∀ w8 : World,
         (I5 n7 w8 →
           ∀ w9 : World,
           (Drew w8 w9 →
             ∃ I10 : World → Prop, (I10 w9 ∧
              (((decide (n7 > x1) = true →
                 ((0 ≤ n7 ∧
                   n7 < (↑x0n : Int)) ∧
                  ∃ a11 : Addr, (x0a = some a11 ∧
                   ((0 ≤ IntKind.wrap IntKind.i64 (n7 - 1) ∧
                     IntKind.wrap IntKind.i64 (n7 - 1) < (↑x0n : Int)) ∧
                    ∃ a12 : Addr, (x0a = some a12 ∧
                     ∃ s13 : ByteArray, ∃ s14 : ByteArray, ((∀ w15 : World,
                      (I10 w15 →
                        Sem.run Tryz.prog (loadVar 35 (Addr.add a11 (Int.toNat n7 * 2))) w15 = Result.ok (Value.agg (Array.mk [Value.string s13, Value.string s14])) w15)) ∧
                      ∃ s16 : ByteArray, ∃ s17 : ByteArray, ((∀ w18 : World,
                       (I10 w18 →
                         Sem.run Tryz.prog (loadVar 35 (Addr.add a12 (Int.toNat (IntKind.wrap IntKind.i64 (n7 - 1)) * 2))) w18 = Result.ok (Value.agg (Array.mk [Value.string s16, Value.string s17])) w18)) ∧
                       Calls Tryz.prog (33 : FuncId) (Array.mk [Value.agg (Array.mk [Value.string s13, Value.string s14]), Value.agg (Array.mk [Value.string s16, Value.string s17])]) (w9) (fun e19 w20 =>
                         ∃ n21 : Int, (e19 = Ending.returned (Value.int IntKind.i64 n21) ∧
                          (I10 w20 ∧
                           (((decide (n21 < 0) = true →
                              ∀ w22 : World,
                              (Drew w20 w22 →
                                ∃ I23 : World → Prop, (I23 w22 ∧
                                 ((0 ≤ IntKind.wrap IntKind.i64 (n7 - 1) ∧
                                   IntKind.wrap IntKind.i64 (n7 - 1) < (↑x0n : Int)) ∧
                                  ∃ a24 : Addr, (x0a = some a24 ∧
                                   ∃ s25 : ByteArray, ∃ s26 : ByteArray, ((∀ w27 : World,
                                    (I23 w27 →
                                      Sem.run Tryz.prog (loadVar 35 (Addr.add a24 (Int.toNat (IntKind.wrap IntKind.i64 (n7 - 1)) * 2))) w27 = Result.ok (Value.agg (Array.mk [Value.string s25, Value.string s26])) w27)) ∧
                                    ((0 ≤ n7 ∧
                                      n7 < (↑x0n : Int)) ∧
                                     ∃ a28 : Addr, (x0a = some a28 ∧
                                      ∃ s29 : ByteArray, ∃ s30 : ByteArray, ((∀ w31 : World,
                                       (I23 w31 →
                                         Sem.run Tryz.prog (loadVar 35 (Addr.add a28 (Int.toNat n7 * 2))) w31 = Result.ok (Value.agg (Array.mk [Value.string s29, Value.string s30])) w31)) ∧
                                       ((0 ≤ n7 ∧
                                         n7 < (↑x0n : Int)) ∧
                                        ∃ a32 : Addr, (x0a = some a32 ∧
                                         ∃ w33 : World, (Sem.run Tryz.prog (storeVar 35 (Addr.add a32 (Int.toNat n7 * 2)) (Value.agg (Array.mk [Value.string s25, Value.string s26]))) w22 = Result.ok PUnit.unit w33 ∧
                                          ((0 ≤ IntKind.wrap IntKind.i64 (n7 - 1) ∧
                                            IntKind.wrap IntKind.i64 (n7 - 1) < (↑x0n : Int)) ∧
                                           ∃ a34 : Addr, (x0a = some a34 ∧
                                            ∃ w35 : World, (Sem.run Tryz.prog (storeVar 35 (Addr.add a34 (Int.toNat (IntKind.wrap IntKind.i64 (n7 - 1)) * 2)) (Value.agg (Array.mk [Value.string s29, Value.string s30]))) w33 = Result.ok PUnit.unit w35 ∧
                                             (I5 (IntKind.wrap IntKind.i64 (n7 - 1)) w35 ∧
                                              I6 (IntKind.wrap IntKind.i64 (n7 - 1)) w35 < I6 n7 w8))))))))))))))))) ∧
                            (decide (n21 < 0) = false →
                              (I1 (IntKind.wrap IntKind.i64 (n3 + 1)) w20 ∧
                               I2 (IntKind.wrap IntKind.i64 (n3 + 1)) w20 < I2 n3 w4)))))))))))))) ∧
               (decide (n7 > x1) = false →
                 (I10 w9 ∧
                  (I1 (IntKind.wrap IntKind.i64 (n3 + 1)) w9 ∧
                   I2 (IntKind.wrap IntKind.i64 (n3 + 1)) w9 < I2 n3 w4)))))))))) ∧
      (decide (n3 < x2) = false →
        R (Value.tuple (Array.mk [])) w4))))
theorem vc_slices_insertionSortCmpFunc_sel_ok {x0a : Option Addr} {x0n : Nat} {x0c : Nat} {x1 : Int} {x2 : Int} {w : World} {R : Value → World → Prop} {R' : Ending → World → Prop} (h : vc_slices_insertionSortCmpFunc_sel x0a x0n x0c x1 x2 w R) (hR : ∀ v w', R v w' → R' (.returned v) w') :
    Calls Tryz.prog 71 #[.slice x0a x0n x0c, .int .i64 x1, .int .i64 x2, .func (.func 33) #[] #[]] w R' :=
  calls_of_body (vs := [(.slice x0a x0n x0c, false), (.int .i64 x1, false), (.int .i64 x2, false), (.func (.func 33) #[] #[], false)]) (ty := ty) (ann := ⟨[], [(1, [(8, .int .i64)]), (4, [(9, .int .i64)])], [(4, .held [(0, true), (1, true), (2, true), (3, true), (4, true), (5, true), (6, true), (7, true), (9, true), (10, true), (11, true), (12, true), (8, true), (13, true), (14, false), (15, true), (16, true)]), (6, .swap [9, 13] [(0, true), (1, true), (2, true), (3, true), (4, true), (5, true), (6, true), (7, true), (8, true), (9, true), (10, true), (11, true), (12, true), (13, true), (14, true), (15, false), (16, true), (17, false)])], []⟩) (c := Tryz.f71.body.getD .skip) (by kernel_rfl) Tryz.func71 (by kernel_rfl) (by kernel_rfl) (Eq.mp (by kernel_rfl) h) hR
/-- slices.symMergeCmpFunc[api.File]#sel -/
def vc_slices_symMergeCmpFunc_sel (x0a : Option Addr) (x0n : Nat) (x0c : Nat) (x1 : Int) (x2 : Int) (x3 : Int) (w : World) (R : Value → World → Prop) : Prop :=
  ((((IntKind.wrap IntKind.i64 (x2 - x1) == 1) = true →
     ∃ I1 : Int → Int → World → Prop, ∃ I2 : Int → Int → World → Nat, (I1 x2 x3 w ∧
      ∀ n3 : Int,
      ∀ n4 : Int,
      ∀ w5 : World,
      (I1 n3 n4 w5 →
        (((decide (n3 < n4) = true →
           ((0 : Int) ≤ (1 : Int) ∧
            ∀ w6 : World,
            (Drew w5 w6 →
              ∃ I7 : World → Prop, (I7 w6 ∧
               ((0 ≤ IntKind.wrap IntKind.i64 (Int.fdiv (IntKind.wrap IntKind.u64 (IntKind.wrap IntKind.i64 (n3 + n4))) (2 ^ min (Int.toNat 1) 64)) ∧
                 IntKind.wrap IntKind.i64 (Int.fdiv (IntKind.wrap IntKind.u64 (IntKind.wrap IntKind.i64 (n3 + n4))) (2 ^ min (Int.toNat 1) 64)) < (↑x0n : Int)) ∧
                ∃ a8 : Addr, (x0a = some a8 ∧
                 ((0 ≤ x1 ∧
                   x1 < (↑x0n : Int)) ∧
                  ∃ a9 : Addr, (x0a = some a9 ∧
                   ∃ s10 : ByteArray, ∃ s11 : ByteArray, ((∀ w12 : World,
                    (I7 w12 →
                      Sem.run Tryz.prog (loadVar 35 (Addr.add a8 (Int.toNat (IntKind.wrap IntKind.i64 (Int.fdiv (IntKind.wrap IntKind.u64 (IntKind.wrap IntKind.i64 (n3 + n4))) (2 ^ min (Int.toNat 1) 64))) * 2))) w12 = Result.ok (Value.agg (Array.mk [Value.string s10, Value.string s11])) w12)) ∧
                    ∃ s13 : ByteArray, ∃ s14 : ByteArray, ((∀ w15 : World,
                     (I7 w15 →
                       Sem.run Tryz.prog (loadVar 35 (Addr.add a9 (Int.toNat x1 * 2))) w15 = Result.ok (Value.agg (Array.mk [Value.string s13, Value.string s14])) w15)) ∧
                     Calls Tryz.prog (33 : FuncId) (Array.mk [Value.agg (Array.mk [Value.string s10, Value.string s11]), Value.agg (Array.mk [Value.string s13, Value.string s14])]) (w6) (fun e16 w17 =>
                       ∃ n18 : Int, (e16 = Ending.returned (Value.int IntKind.i64 n18) ∧
                        (I7 w17 ∧
                         (((decide (n18 < 0) = true →
                            (I1 (IntKind.wrap IntKind.i64 (IntKind.wrap IntKind.i64 (Int.fdiv (IntKind.wrap IntKind.u64 (IntKind.wrap IntKind.i64 (n3 + n4))) (2 ^ min (Int.toNat 1) 64)) + 1)) n4 w17 ∧
                             I2 (IntKind.wrap IntKind.i64 (IntKind.wrap IntKind.i64 (Int.fdiv (IntKind.wrap IntKind.u64 (IntKind.wrap IntKind.i64 (n3 + n4))) (2 ^ min (Int.toNat 1) 64)) + 1)) n4 w17 < I2 n3 n4 w5))) ∧
                          (decide (n18 < 0) = false →
                            (I1 n3 (IntKind.wrap IntKind.i64 (Int.fdiv (IntKind.wrap IntKind.u64 (IntKind.wrap IntKind.i64 (n3 + n4))) (2 ^ min (Int.toNat 1) 64))) w17 ∧
                             I2 n3 (IntKind.wrap IntKind.i64 (Int.fdiv (IntKind.wrap IntKind.u64 (IntKind.wrap IntKind.i64 (n3 + n4))) (2 ^ min (Int.toNat 1) 64))) w17 < I2 n3 n4 w5))))))))))))))))) ∧
         (decide (n3 < n4) = false →
           ∃ I19 : Int → World → Prop, ∃ I20 : Int → World → Nat, (I19 x1 w5 ∧
            ∀ n21 : Int,
            ∀ w22 : World,
            (I19 n21 w22 →
              (((decide (n21 < IntKind.wrap IntKind.i64 (n3 - 1)) = true →
                 ∀ w23 : World,
                 (Drew w22 w23 →
                   ∃ I24 : World → Prop, (I24 w23 ∧
                    ((0 ≤ IntKind.wrap IntKind.i64 (n21 + 1) ∧
                      IntKind.wrap IntKind.i64 (n21 + 1) < (↑x0n : Int)) ∧
                     ∃ a25 : Addr, (x0a = some a25 ∧
                      ∃ s26 : ByteArray, ∃ s27 : ByteArray, ((∀ w28 : World,
                       (I24 w28 →
                         Sem.run Tryz.prog (loadVar 35 (Addr.add a25 (Int.toNat (IntKind.wrap IntKind.i64 (n21 + 1)) * 2))) w28 = Result.ok (Value.agg (Array.mk [Value.string s26, Value.string s27])) w28)) ∧
                       ((0 ≤ n21 ∧
                         n21 < (↑x0n : Int)) ∧
                        ∃ a29 : Addr, (x0a = some a29 ∧
                         ∃ s30 : ByteArray, ∃ s31 : ByteArray, ((∀ w32 : World,
                          (I24 w32 →
                            Sem.run Tryz.prog (loadVar 35 (Addr.add a29 (Int.toNat n21 * 2))) w32 = Result.ok (Value.agg (Array.mk [Value.string s30, Value.string s31])) w32)) ∧
                          ((0 ≤ n21 ∧
                            n21 < (↑x0n : Int)) ∧
                           ∃ a33 : Addr, (x0a = some a33 ∧
                            ∃ w34 : World, (Sem.run Tryz.prog (storeVar 35 (Addr.add a33 (Int.toNat n21 * 2)) (Value.agg (Array.mk [Value.string s26, Value.string s27]))) w23 = Result.ok PUnit.unit w34 ∧
                             ((0 ≤ IntKind.wrap IntKind.i64 (n21 + 1) ∧
                               IntKind.wrap IntKind.i64 (n21 + 1) < (↑x0n : Int)) ∧
                              ∃ a35 : Addr, (x0a = some a35 ∧
                               ∃ w36 : World, (Sem.run Tryz.prog (storeVar 35 (Addr.add a35 (Int.toNat (IntKind.wrap IntKind.i64 (n21 + 1)) * 2)) (Value.agg (Array.mk [Value.string s30, Value.string s31]))) w34 = Result.ok PUnit.unit w36 ∧
                                (I19 (IntKind.wrap IntKind.i64 (n21 + 1)) w36 ∧
                                 I20 (IntKind.wrap IntKind.i64 (n21 + 1)) w36 < I20 n21 w22))))))))))))))))) ∧
               (decide (n21 < IntKind.wrap IntKind.i64 (n3 - 1)) = false →
                 R (Value.tuple (Array.mk [])) w22)))))))))) ∧
   ((IntKind.wrap IntKind.i64 (x2 - x1) == 1) = false →
     ((((IntKind.wrap IntKind.i64 (x3 - x2) == 1) = true →
        ∃ I37 : Int → Int → World → Prop, ∃ I38 : Int → Int → World → Nat, (I37 x1 x2 w ∧
         ∀ n39 : Int,
         ∀ n40 : Int,
         ∀ w41 : World,
         (I37 n39 n40 w41 →
           (((decide (n39 < n40) = true →
              ((0 : Int) ≤ (1 : Int) ∧
               ∀ w42 : World,
               (Drew w41 w42 →
                 ∃ I43 : World → Prop, (I43 w42 ∧
                  ((0 ≤ x2 ∧
                    x2 < (↑x0n : Int)) ∧
                   ∃ a44 : Addr, (x0a = some a44 ∧
                    ((0 ≤ IntKind.wrap IntKind.i64 (Int.fdiv (IntKind.wrap IntKind.u64 (IntKind.wrap IntKind.i64 (n39 + n40))) (2 ^ min (Int.toNat 1) 64)) ∧
                      IntKind.wrap IntKind.i64 (Int.fdiv (IntKind.wrap IntKind.u64 (IntKind.wrap IntKind.i64 (n39 + n40))) (2 ^ min (Int.toNat 1) 64)) < (↑x0n : Int)) ∧
                     ∃ a45 : Addr, (x0a = some a45 ∧
                      ∃ s46 : ByteArray, ∃ s47 : ByteArray, ((∀ w48 : World,
                       (I43 w48 →
                         Sem.run Tryz.prog (loadVar 35 (Addr.add a44 (Int.toNat x2 * 2))) w48 = Result.ok (Value.agg (Array.mk [Value.string s46, Value.string s47])) w48)) ∧
                       ∃ s49 : ByteArray, ∃ s50 : ByteArray, ((∀ w51 : World,
                        (I43 w51 →
                          Sem.run Tryz.prog (loadVar 35 (Addr.add a45 (Int.toNat (IntKind.wrap IntKind.i64 (Int.fdiv (IntKind.wrap IntKind.u64 (IntKind.wrap IntKind.i64 (n39 + n40))) (2 ^ min (Int.toNat 1) 64))) * 2))) w51 = Result.ok (Value.agg (Array.mk [Value.string s49, Value.string s50])) w51)) ∧
                        Calls Tryz.prog (33 : FuncId) (Array.mk [Value.agg (Array.mk [Value.string s46, Value.string s47]), Value.agg (Array.mk [Value.string s49, Value.string s50])]) (w42) (fun e52 w53 =>
                          ∃ n54 : Int, (e52 = Ending.returned (Value.int IntKind.i64 n54) ∧
                           (I43 w53 ∧
                            ((((!decide (n54 < 0)) = true →
                               (I37 (IntKind.wrap IntKind.i64 (IntKind.wrap IntKind.i64 (Int.fdiv (IntKind.wrap IntKind.u64 (IntKind.wrap IntKind.i64 (n39 + n40))) (2 ^ min (Int.toNat 1) 64)) + 1)) n40 w53 ∧
                                I38 (IntKind.wrap IntKind.i64 (IntKind.wrap IntKind.i64 (Int.fdiv (IntKind.wrap IntKind.u64 (IntKind.wrap IntKind.i64 (n39 + n40))) (2 ^ min (Int.toNat 1) 64)) + 1)) n40 w53 < I38 n39 n40 w41))) ∧
                             ((!decide (n54 < 0)) = false →
                               (I37 n39 (IntKind.wrap IntKind.i64 (Int.fdiv (IntKind.wrap IntKind.u64 (IntKind.wrap IntKind.i64 (n39 + n40))) (2 ^ min (Int.toNat 1) 64))) w53 ∧
                                I38 n39 (IntKind.wrap IntKind.i64 (Int.fdiv (IntKind.wrap IntKind.u64 (IntKind.wrap IntKind.i64 (n39 + n40))) (2 ^ min (Int.toNat 1) 64))) w53 < I38 n39 n40 w41))))))))))))))))) ∧
            (decide (n39 < n40) = false →
              ∃ I55 : Int → World → Prop, ∃ I56 : Int → World → Nat, (I55 x2 w41 ∧
               ∀ n57 : Int,
               ∀ w58 : World,
               (I55 n57 w58 →
                 (((decide (n57 > n39) = true →
                    ∀ w59 : World,
                    (Drew w58 w59 →
                      ∃ I60 : World → Prop, (I60 w59 ∧
                       ((0 ≤ IntKind.wrap IntKind.i64 (n57 - 1) ∧
                         IntKind.wrap IntKind.i64 (n57 - 1) < (↑x0n : Int)) ∧
                        ∃ a61 : Addr, (x0a = some a61 ∧
                         ∃ s62 : ByteArray, ∃ s63 : ByteArray, ((∀ w64 : World,
                          (I60 w64 →
                            Sem.run Tryz.prog (loadVar 35 (Addr.add a61 (Int.toNat (IntKind.wrap IntKind.i64 (n57 - 1)) * 2))) w64 = Result.ok (Value.agg (Array.mk [Value.string s62, Value.string s63])) w64)) ∧
                          ((0 ≤ n57 ∧
                            n57 < (↑x0n : Int)) ∧
                           ∃ a65 : Addr, (x0a = some a65 ∧
                            ∃ s66 : ByteArray, ∃ s67 : ByteArray, ((∀ w68 : World,
                             (I60 w68 →
                               Sem.run Tryz.prog (loadVar 35 (Addr.add a65 (Int.toNat n57 * 2))) w68 = Result.ok (Value.agg (Array.mk [Value.string s66, Value.string s67])) w68)) ∧
                             ((0 ≤ n57 ∧
                               n57 < (↑x0n : Int)) ∧
                              ∃ a69 : Addr, (x0a = some a69 ∧
                               ∃ w70 : World, (Sem.run Tryz.prog (storeVar 35 (Addr.add a69 (Int.toNat n57 * 2)) (Value.agg (Array.mk [Value.string s62, Value.string s63]))) w59 = Result.ok PUnit.unit w70 ∧
                                ((0 ≤ IntKind.wrap IntKind.i64 (n57 - 1) ∧
                                  IntKind.wrap IntKind.i64 (n57 - 1) < (↑x0n : Int)) ∧
                                 ∃ a71 : Addr, (x0a = some a71 ∧
                                  ∃ w72 : World, (Sem.run Tryz.prog (storeVar 35 (Addr.add a71 (Int.toNat (IntKind.wrap IntKind.i64 (n57 - 1)) * 2)) (Value.agg (Array.mk [Value.string s66, Value.string s67]))) w70 = Result.ok PUnit.unit w72 ∧
                                   (I55 (IntKind.wrap IntKind.i64 (n57 - 1)) w72 ∧
                                    I56 (IntKind.wrap IntKind.i64 (n57 - 1)) w72 < I56 n57 w58))))))))))))))))) ∧
                  (decide (n57 > n39) = false →
                    R (Value.tuple (Array.mk [])) w58)))))))))) ∧
      ((IntKind.wrap IntKind.i64 (x3 - x2) == 1) = false →
        ((0 : Int) ≤ (1 : Int) ∧
         ∃ I73 : Int → Int → World → Prop, ((((decide (x2 > IntKind.wrap IntKind.i64 (Int.fdiv (IntKind.wrap IntKind.u64 (IntKind.wrap IntKind.i64 (x1 + x3))) (2 ^ min (Int.toNat 1) 64))) = true →
             I73 (IntKind.wrap IntKind.i64 (IntKind.wrap IntKind.i64 (IntKind.wrap IntKind.i64 (Int.fdiv (IntKind.wrap IntKind.u64 (IntKind.wrap IntKind.i64 (x1 + x3))) (2 ^ min (Int.toNat 1) 64)) + x2) - x3)) (IntKind.wrap IntKind.i64 (Int.fdiv (IntKind.wrap IntKind.u64 (IntKind.wrap IntKind.i64 (x1 + x3))) (2 ^ min (Int.toNat 1) 64))) w)) ∧
           (decide (x2 > IntKind.wrap IntKind.i64 (Int.fdiv (IntKind.wrap IntKind.u64 (IntKind.wrap IntKind.i64 (x1 + x3))) (2 ^ min (Int.toNat 1) 64))) = false →
             I73 x1 x2 w)) ∧
          ∀ n74 : Int,
          ∀ n75 : Int,
          ∀ w76 : World,
          (I73 n74 n75 w76 →
            ∃ I77 : Int → Int → World → Prop, ∃ I78 : Int → Int → World → Nat, (I77 n74 n75 w76 ∧
             ∀ n79 : Int,
             ∀ n80 : Int,
             ∀ w81 : World,
             (I77 n79 n80 w81 →
               (((decide (n79 < n80) = true →
                  ((0 : Int) ≤ (1 : Int) ∧
                   ∀ w82 : World,
                   (Drew w81 w82 →
                     ∃ I83 : World → Prop, (I83 w82 ∧
                      ((0 ≤ IntKind.wrap IntKind.i64 (IntKind.wrap IntKind.i64 (IntKind.wrap IntKind.i64 (IntKind.wrap IntKind.i64 (Int.fdiv (IntKind.wrap IntKind.u64 (IntKind.wrap IntKind.i64 (x1 + x3))) (2 ^ min (Int.toNat 1) 64)) + x2) - 1) - IntKind.wrap IntKind.i64 (Int.fdiv (IntKind.wrap IntKind.u64 (IntKind.wrap IntKind.i64 (n79 + n80))) (2 ^ min (Int.toNat 1) 64))) ∧
                        IntKind.wrap IntKind.i64 (IntKind.wrap IntKind.i64 (IntKind.wrap IntKind.i64 (IntKind.wrap IntKind.i64 (Int.fdiv (IntKind.wrap IntKind.u64 (IntKind.wrap IntKind.i64 (x1 + x3))) (2 ^ min (Int.toNat 1) 64)) + x2) - 1) - IntKind.wrap IntKind.i64 (Int.fdiv (IntKind.wrap IntKind.u64 (IntKind.wrap IntKind.i64 (n79 + n80))) (2 ^ min (Int.toNat 1) 64))) < (↑x0n : Int)) ∧
                       ∃ a84 : Addr, (x0a = some a84 ∧
                        ((0 ≤ IntKind.wrap IntKind.i64 (Int.fdiv (IntKind.wrap IntKind.u64 (IntKind.wrap IntKind.i64 (n79 + n80))) (2 ^ min (Int.toNat 1) 64)) ∧
                          IntKind.wrap IntKind.i64 (Int.fdiv (IntKind.wrap IntKind.u64 (IntKind.wrap IntKind.i64 (n79 + n80))) (2 ^ min (Int.toNat 1) 64)) < (↑x0n : Int)) ∧
                         ∃ a85 : Addr, (x0a = some a85 ∧
                          ∃ s86 : ByteArray, ∃ s87 : ByteArray, ((∀ w88 : World,
                           (I83 w88 →
                             Sem.run Tryz.prog (loadVar 35 (Addr.add a84 (Int.toNat (IntKind.wrap IntKind.i64 (IntKind.wrap IntKind.i64 (IntKind.wrap IntKind.i64 (IntKind.wrap IntKind.i64 (Int.fdiv (IntKind.wrap IntKind.u64 (IntKind.wrap IntKind.i64 (x1 + x3))) (2 ^ min (Int.toNat 1) 64)) + x2) - 1) - IntKind.wrap IntKind.i64 (Int.fdiv (IntKind.wrap IntKind.u64 (IntKind.wrap IntKind.i64 (n79 + n80))) (2 ^ min (Int.toNat 1) 64)))) * 2))) w88 = Result.ok (Value.agg (Array.mk [Value.string s86, Value.string s87])) w88)) ∧
                           ∃ s89 : ByteArray, ∃ s90 : ByteArray, ((∀ w91 : World,
                            (I83 w91 →
                              Sem.run Tryz.prog (loadVar 35 (Addr.add a85 (Int.toNat (IntKind.wrap IntKind.i64 (Int.fdiv (IntKind.wrap IntKind.u64 (IntKind.wrap IntKind.i64 (n79 + n80))) (2 ^ min (Int.toNat 1) 64))) * 2))) w91 = Result.ok (Value.agg (Array.mk [Value.string s89, Value.string s90])) w91)) ∧
                            Calls Tryz.prog (33 : FuncId) (Array.mk [Value.agg (Array.mk [Value.string s86, Value.string s87]), Value.agg (Array.mk [Value.string s89, Value.string s90])]) (w82) (fun e92 w93 =>
                              ∃ n94 : Int, (e92 = Ending.returned (Value.int IntKind.i64 n94) ∧
                               (I83 w93 ∧
                                ((((!decide (n94 < 0)) = true →
                                   (I77 (IntKind.wrap IntKind.i64 (IntKind.wrap IntKind.i64 (Int.fdiv (IntKind.wrap IntKind.u64 (IntKind.wrap IntKind.i64 (n79 + n80))) (2 ^ min (Int.toNat 1) 64)) + 1)) n80 w93 ∧
                                    I78 (IntKind.wrap IntKind.i64 (IntKind.wrap IntKind.i64 (Int.fdiv (IntKind.wrap IntKind.u64 (IntKind.wrap IntKind.i64 (n79 + n80))) (2 ^ min (Int.toNat 1) 64)) + 1)) n80 w93 < I78 n79 n80 w81))) ∧
                                 ((!decide (n94 < 0)) = false →
                                   (I77 n79 (IntKind.wrap IntKind.i64 (Int.fdiv (IntKind.wrap IntKind.u64 (IntKind.wrap IntKind.i64 (n79 + n80))) (2 ^ min (Int.toNat 1) 64))) w93 ∧
                                    I78 n79 (IntKind.wrap IntKind.i64 (Int.fdiv (IntKind.wrap IntKind.u64 (IntKind.wrap IntKind.i64 (n79 + n80))) (2 ^ min (Int.toNat 1) 64))) w93 < I78 n79 n80 w81))))))))))))))))) ∧
                (decide (n79 < n80) = false →
                  ∃ I95 : World → Prop, ((((decide (n79 < x2) = true →
                      (((decide (x2 < IntKind.wrap IntKind.i64 (IntKind.wrap IntKind.i64 (IntKind.wrap IntKind.i64 (Int.fdiv (IntKind.wrap IntKind.u64 (IntKind.wrap IntKind.i64 (x1 + x3))) (2 ^ min (Int.toNat 1) 64)) + x2) - n79)) = true →
                         Calls Tryz.prog (86 : Nat) (Array.mk [Value.slice x0a x0n x0c, Value.int IntKind.i64 n79, Value.int IntKind.i64 x2, Value.int IntKind.i64 (IntKind.wrap IntKind.i64 (IntKind.wrap IntKind.i64 (IntKind.wrap IntKind.i64 (Int.fdiv (IntKind.wrap IntKind.u64 (IntKind.wrap IntKind.i64 (x1 + x3))) (2 ^ min (Int.toNat 1) 64)) + x2) - n79)), Value.func (Fn.func 33) (Array.mk []) (Array.mk [])]) (w81) (fun e96 w97 =>
                           (e96 = Ending.returned (Value.tuple (Array.mk [])) ∧
                            I95 w97)))) ∧
                       (decide (x2 < IntKind.wrap IntKind.i64 (IntKind.wrap IntKind.i64 (IntKind.wrap IntKind.i64 (Int.fdiv (IntKind.wrap IntKind.u64 (IntKind.wrap IntKind.i64 (x1 + x3))) (2 ^ min (Int.toNat 1) 64)) + x2) - n79)) = false →
                         I95 w81)))) ∧
                    (decide (n79 < x2) = false →
                      I95 w81)) ∧
                   ∀ w98 : World,
                   (I95 w98 →
                     (((decide (x1 < n79) = true →
                        (((decide (n79 < IntKind.wrap IntKind.i64 (Int.fdiv (IntKind.wrap IntKind.u64 (IntKind.wrap IntKind.i64 (x1 + x3))) (2 ^ min (Int.toNat 1) 64))) = true →
                           Calls Tryz.prog (72 : Nat) (Array.mk [Value.slice x0a x0n x0c, Value.int IntKind.i64 x1, Value.int IntKind.i64 n79, Value.int IntKind.i64 (IntKind.wrap IntKind.i64 (Int.fdiv (IntKind.wrap IntKind.u64 (IntKind.wrap IntKind.i64 (x1 + x3))) (2 ^ min (Int.toNat 1) 64))), Value.func (Fn.func 33) (Array.mk []) (Array.mk [])]) (w98) (fun e99 w100 =>
                             (e99 = Ending.returned (Value.tuple (Array.mk [])) ∧
                              (((decide (IntKind.wrap IntKind.i64 (Int.fdiv (IntKind.wrap IntKind.u64 (IntKind.wrap IntKind.i64 (x1 + x3))) (2 ^ min (Int.toNat 1) 64)) < IntKind.wrap IntKind.i64 (IntKind.wrap IntKind.i64 (IntKind.wrap IntKind.i64 (Int.fdiv (IntKind.wrap IntKind.u64 (IntKind.wrap IntKind.i64 (x1 + x3))) (2 ^ min (Int.toNat 1) 64)) + x2) - n79)) = true →
                                 (((decide (IntKind.wrap IntKind.i64 (IntKind.wrap IntKind.i64 (IntKind.wrap IntKind.i64 (Int.fdiv (IntKind.wrap IntKind.u64 (IntKind.wrap IntKind.i64 (x1 + x3))) (2 ^ min (Int.toNat 1) 64)) + x2) - n79) < x3) = true →
                                    Calls Tryz.prog (72 : Nat) (Array.mk [Value.slice x0a x0n x0c, Value.int IntKind.i64 (IntKind.wrap IntKind.i64 (Int.fdiv (IntKind.wrap IntKind.u64 (IntKind.wrap IntKind.i64 (x1 + x3))) (2 ^ min (Int.toNat 1) 64))), Value.int IntKind.i64 (IntKind.wrap IntKind.i64 (IntKind.wrap IntKind.i64 (IntKind.wrap IntKind.i64 (Int.fdiv (IntKind.wrap IntKind.u64 (IntKind.wrap IntKind.i64 (x1 + x3))) (2 ^ min (Int.toNat 1) 64)) + x2) - n79)), Value.int IntKind.i64 x3, Value.func (Fn.func 33) (Array.mk []) (Array.mk [])]) (w100) (fun e101 w102 =>
                                      (e101 = Ending.returned (Value.tuple (Array.mk [])) ∧
                                       R (Value.tuple (Array.mk [])) w102)))) ∧
                                  (decide (IntKind.wrap IntKind.i64 (IntKind.wrap IntKind.i64 (IntKind.wrap IntKind.i64 (Int.fdiv (IntKind.wrap IntKind.u64 (IntKind.wrap IntKind.i64 (x1 + x3))) (2 ^ min (Int.toNat 1) 64)) + x2) - n79) < x3) = false →
                                    R (Value.tuple (Array.mk [])) w100)))) ∧
                               (decide (IntKind.wrap IntKind.i64 (Int.fdiv (IntKind.wrap IntKind.u64 (IntKind.wrap IntKind.i64 (x1 + x3))) (2 ^ min (Int.toNat 1) 64)) < IntKind.wrap IntKind.i64 (IntKind.wrap IntKind.i64 (IntKind.wrap IntKind.i64 (Int.fdiv (IntKind.wrap IntKind.u64 (IntKind.wrap IntKind.i64 (x1 + x3))) (2 ^ min (Int.toNat 1) 64)) + x2) - n79)) = false →
                                 R (Value.tuple (Array.mk [])) w100)))))) ∧
                         (decide (n79 < IntKind.wrap IntKind.i64 (Int.fdiv (IntKind.wrap IntKind.u64 (IntKind.wrap IntKind.i64 (x1 + x3))) (2 ^ min (Int.toNat 1) 64))) = false →
                           (((decide (IntKind.wrap IntKind.i64 (Int.fdiv (IntKind.wrap IntKind.u64 (IntKind.wrap IntKind.i64 (x1 + x3))) (2 ^ min (Int.toNat 1) 64)) < IntKind.wrap IntKind.i64 (IntKind.wrap IntKind.i64 (IntKind.wrap IntKind.i64 (Int.fdiv (IntKind.wrap IntKind.u64 (IntKind.wrap IntKind.i64 (x1 + x3))) (2 ^ min (Int.toNat 1) 64)) + x2) - n79)) = true →
                              (((decide (IntKind.wrap IntKind.i64 (IntKind.wrap IntKind.i64 (IntKind.wrap IntKind.i64 (Int.fdiv (IntKind.wrap IntKind.u64 (IntKind.wrap IntKind.i64 (x1 + x3))) (2 ^ min (Int.toNat 1) 64)) + x2) - n79) < x3) = true →
                                 Calls Tryz.prog (72 : Nat) (Array.mk [Value.slice x0a x0n x0c, Value.int IntKind.i64 (IntKind.wrap IntKind.i64 (Int.fdiv (IntKind.wrap IntKind.u64 (IntKind.wrap IntKind.i64 (x1 + x3))) (2 ^ min (Int.toNat 1) 64))), Value.int IntKind.i64 (IntKind.wrap IntKind.i64 (IntKind.wrap IntKind.i64 (IntKind.wrap IntKind.i64 (Int.fdiv (IntKind.wrap IntKind.u64 (IntKind.wrap IntKind.i64 (x1 + x3))) (2 ^ min (Int.toNat 1) 64)) + x2) - n79)), Value.int IntKind.i64 x3, Value.func (Fn.func 33) (Array.mk []) (Array.mk [])]) (w98) (fun e103 w104 =>
                                   (e103 = Ending.returned (Value.tuple (Array.mk [])) ∧
                                    R (Value.tuple (Array.mk [])) w104)))) ∧
                               (decide (IntKind.wrap IntKind.i64 (IntKind.wrap IntKind.i64 (IntKind.wrap IntKind.i64 (Int.fdiv (IntKind.wrap IntKind.u64 (IntKind.wrap IntKind.i64 (x1 + x3))) (2 ^ min (Int.toNat 1) 64)) + x2) - n79) < x3) = false →
                                 R (Value.tuple (Array.mk [])) w98)))) ∧
                            (decide (IntKind.wrap IntKind.i64 (Int.fdiv (IntKind.wrap IntKind.u64 (IntKind.wrap IntKind.i64 (x1 + x3))) (2 ^ min (Int.toNat 1) 64)) < IntKind.wrap IntKind.i64 (IntKind.wrap IntKind.i64 (IntKind.wrap IntKind.i64 (Int.fdiv (IntKind.wrap IntKind.u64 (IntKind.wrap IntKind.i64 (x1 + x3))) (2 ^ min (Int.toNat 1) 64)) + x2) - n79)) = false →
                              R (Value.tuple (Array.mk [])) w98)))))) ∧
                      (decide (x1 < n79) = false →
                        (((decide (IntKind.wrap IntKind.i64 (Int.fdiv (IntKind.wrap IntKind.u64 (IntKind.wrap IntKind.i64 (x1 + x3))) (2 ^ min (Int.toNat 1) 64)) < IntKind.wrap IntKind.i64 (IntKind.wrap IntKind.i64 (IntKind.wrap IntKind.i64 (Int.fdiv (IntKind.wrap IntKind.u64 (IntKind.wrap IntKind.i64 (x1 + x3))) (2 ^ min (Int.toNat 1) 64)) + x2) - n79)) = true →
                           (((decide (IntKind.wrap IntKind.i64 (IntKind.wrap IntKind.i64 (IntKind.wrap IntKind.i64 (Int.fdiv (IntKind.wrap IntKind.u64 (IntKind.wrap IntKind.i64 (x1 + x3))) (2 ^ min (Int.toNat 1) 64)) + x2) - n79) < x3) = true →
                              Calls Tryz.prog (72 : Nat) (Array.mk [Value.slice x0a x0n x0c, Value.int IntKind.i64 (IntKind.wrap IntKind.i64 (Int.fdiv (IntKind.wrap IntKind.u64 (IntKind.wrap IntKind.i64 (x1 + x3))) (2 ^ min (Int.toNat 1) 64))), Value.int IntKind.i64 (IntKind.wrap IntKind.i64 (IntKind.wrap IntKind.i64 (IntKind.wrap IntKind.i64 (Int.fdiv (IntKind.wrap IntKind.u64 (IntKind.wrap IntKind.i64 (x1 + x3))) (2 ^ min (Int.toNat 1) 64)) + x2) - n79)), Value.int IntKind.i64 x3, Value.func (Fn.func 33) (Array.mk []) (Array.mk [])]) (w98) (fun e105 w106 =>
                                (e105 = Ending.returned (Value.tuple (Array.mk [])) ∧
                                 R (Value.tuple (Array.mk [])) w106)))) ∧
                            (decide (IntKind.wrap IntKind.i64 (IntKind.wrap IntKind.i64 (IntKind.wrap IntKind.i64 (Int.fdiv (IntKind.wrap IntKind.u64 (IntKind.wrap IntKind.i64 (x1 + x3))) (2 ^ min (Int.toNat 1) 64)) + x2) - n79) < x3) = false →
                              R (Value.tuple (Array.mk [])) w98)))) ∧
                         (decide (IntKind.wrap IntKind.i64 (Int.fdiv (IntKind.wrap IntKind.u64 (IntKind.wrap IntKind.i64 (x1 + x3))) (2 ^ min (Int.toNat 1) 64)) < IntKind.wrap IntKind.i64 (IntKind.wrap IntKind.i64 (IntKind.wrap IntKind.i64 (Int.fdiv (IntKind.wrap IntKind.u64 (IntKind.wrap IntKind.i64 (x1 + x3))) (2 ^ min (Int.toNat 1) 64)) + x2) - n79)) = false →
                           R (Value.tuple (Array.mk [])) w98)))))))))))))))))
theorem vc_slices_symMergeCmpFunc_sel_ok {x0a : Option Addr} {x0n : Nat} {x0c : Nat} {x1 : Int} {x2 : Int} {x3 : Int} {w : World} {R : Value → World → Prop} {R' : Ending → World → Prop} (h : vc_slices_symMergeCmpFunc_sel x0a x0n x0c x1 x2 x3 w R) (hR : ∀ v w', R v w' → R' (.returned v) w') :
    Calls Tryz.prog 72 #[.slice x0a x0n x0c, .int .i64 x1, .int .i64 x2, .int .i64 x3, .func (.func 33) #[] #[]] w R' :=
  calls_of_body (vs := [(.slice x0a x0n x0c, false), (.int .i64 x1, false), (.int .i64 x2, false), (.int .i64 x3, false), (.func (.func 33) #[] #[], false)]) (ty := ty) (ann := ⟨[(32, [(20, .int .i64), (21, .int .i64)]), (41, [])], [(3, [(10, .int .i64), (11, .int .i64)]), (9, [(13, .int .i64)]), (15, [(14, .int .i64), (15, .int .i64)]), (21, [(17, .int .i64)]), (33, [(20, .int .i64), (21, .int .i64)])], [(5, .held [(0, true), (1, true), (2, true), (3, true), (5, true), (6, true), (7, true), (4, true), (8, true), (9, false), (10, true)]), (11, .swap [9, 13] [(0, true), (1, true), (2, true), (3, true), (4, true), (5, true), (6, true), (7, true), (8, true), (9, true), (10, true), (11, true), (12, true), (13, true), (14, true), (15, false), (16, true), (17, false)]), (17, .held [(0, true), (1, true), (2, true), (3, true), (5, true), (6, true), (7, true), (4, true), (8, true), (9, false), (10, true), (11, true)]), (23, .swap [9, 13] [(0, true), (1, true), (2, true), (3, true), (4, true), (5, true), (6, true), (7, true), (8, true), (9, true), (10, true), (11, true), (12, true), (13, true), (14, true), (15, false), (16, true), (17, false)]), (35, .held [(0, true), (1, true), (2, true), (3, true), (4, true), (5, true), (7, true), (8, true), (9, true), (6, true), (10, true), (11, false), (12, true), (13, true)])], []⟩) (c := Tryz.f72.body.getD .skip) (by kernel_rfl) Tryz.func72 (by kernel_rfl) (by kernel_rfl) (Eq.mp (by kernel_rfl) h) hR
/-- slices.stableCmpFunc[api.File]#sel -/
def vc_slices_stableCmpFunc_sel (x0a : Option Addr) (x0n : Nat) (x0c : Nat) (x1 : Int) (w : World) (R : Value → World → Prop) : Prop :=
  ∃ I1 : Int → Int → World → Prop, ∃ I2 : Int → Int → World → Nat, (I1 0 20 w ∧
   ∀ n3 : Int,
   ∀ n4 : Int,
   ∀ w5 : World,
   (I1 n3 n4 w5 →
     (((decide (n4 ≤ x1) = true →
        Calls Tryz.prog (71 : Nat) (Array.mk [Value.slice x0a x0n x0c, Value.int IntKind.i64 n3, Value.int IntKind.i64 n4, Value.func (Fn.func 33) (Array.mk []) (Array.mk [])]) (w5) (fun e6 w7 =>
          (e6 = Ending.returned (Value.tuple (Array.mk [])) ∧
           (I1 n4 (IntKind.wrap IntKind.i64 (n4 + 20)) w7 ∧
            I2 n4 (IntKind.wrap IntKind.i64 (n4 + 20)) w7 < I2 n3 n4 w5))))) ∧
      (decide (n4 ≤ x1) = false →
        Calls Tryz.prog (71 : Nat) (Array.mk [Value.slice x0a x0n x0c, Value.int IntKind.i64 n3, Value.int IntKind.i64 x1, Value.func (Fn.func 33) (Array.mk []) (Array.mk [])]) (w5) (fun e8 w9 =>
          (e8 = Ending.returned (Value.tuple (Array.mk [])) ∧
           ∃ I10 : Int → World → Prop, ∃ I11 : Int → World → Nat, (I10 20 w9 ∧
            ∀ n12 : Int,
            ∀ w13 : World,
            (I10 n12 w13 →
              (((decide (n12 < x1) = true →
                 ∃ I14 : Int → Int → World → Prop, ∃ I15 : Int → Int → World → Nat, (I14 0 (IntKind.wrap IntKind.i64 (2 * n12)) w13 ∧
                  ∀ n16 : Int,
                  ∀ n17 : Int,
                  ∀ w18 : World,
                  (I14 n16 n17 w18 →
                    (((decide (n17 ≤ x1) = true →
                       Calls Tryz.prog (72 : Nat) (Array.mk [Value.slice x0a x0n x0c, Value.int IntKind.i64 n16, Value.int IntKind.i64 (IntKind.wrap IntKind.i64 (n16 + n12)), Value.int IntKind.i64 n17, Value.func (Fn.func 33) (Array.mk []) (Array.mk [])]) (w18) (fun e19 w20 =>
                         (e19 = Ending.returned (Value.tuple (Array.mk [])) ∧
                          (I14 n17 (IntKind.wrap IntKind.i64 (n17 + IntKind.wrap IntKind.i64 (2 * n12))) w20 ∧
                           I15 n17 (IntKind.wrap IntKind.i64 (n17 + IntKind.wrap IntKind.i64 (2 * n12))) w20 < I15 n16 n17 w18))))) ∧
                     (decide (n17 ≤ x1) = false →
                       (((decide (IntKind.wrap IntKind.i64 (n16 + n12) < x1) = true →
                          Calls Tryz.prog (72 : Nat) (Array.mk [Value.slice x0a x0n x0c, Value.int IntKind.i64 n16, Value.int IntKind.i64 (IntKind.wrap IntKind.i64 (n16 + n12)), Value.int IntKind.i64 x1, Value.func (Fn.func 33) (Array.mk []) (Array.mk [])]) (w18) (fun e21 w22 =>
                            (e21 = Ending.returned (Value.tuple (Array.mk [])) ∧
                             (I10 (IntKind.wrap IntKind.i64 (n12 * 2)) w22 ∧
                              I11 (IntKind.wrap IntKind.i64 (n12 * 2)) w22 < I11 n12 w13))))) ∧
                        (decide (IntKind.wrap IntKind.i64 (n16 + n12) < x1) = false →
                          (I10 (IntKind.wrap IntKind.i64 (n12 * 2)) w18 ∧
                           I11 (IntKind.wrap IntKind.i64 (n12 * 2)) w18 < I11 n12 w13))))))))) ∧
               (decide (n12 < x1) = false →
                 R (Value.tuple (Array.mk [])) w13))))))))))
theorem vc_slices_stableCmpFunc_sel_ok {x0a : Option Addr} {x0n : Nat} {x0c : Nat} {x1 : Int} {w : World} {R : Value → World → Prop} {R' : Ending → World → Prop} (h : vc_slices_stableCmpFunc_sel x0a x0n x0c x1 w R) (hR : ∀ v w', R v w' → R' (.returned v) w') :
    Calls Tryz.prog 48 #[.slice x0a x0n x0c, .int .i64 x1, .func (.func 33) #[] #[]] w R' :=
  calls_of_body (vs := [(.slice x0a x0n x0c, false), (.int .i64 x1, false), (.func (.func 33) #[] #[], false)]) (ty := ty) (ann := ⟨[], [(2, [(7, .int .i64), (8, .int .i64)]), (7, [(6, .int .i64)]), (9, [(7, .int .i64), (8, .int .i64)])], [], []⟩) (c := Tryz.f48.body.getD .skip) (by kernel_rfl) Tryz.func48 (by kernel_rfl) (by kernel_rfl) (Eq.mp (by kernel_rfl) h) hR
/-- slices.SortStableFunc[[]api.File,api.File]#sel -/
def vc_slices_SortStableFunc_sel (x0a : Option Addr) (x0n : Nat) (x0c : Nat) (w : World) (R : Value → World → Prop) : Prop :=
  Calls Tryz.prog (48 : Nat) (Array.mk [Value.slice x0a x0n x0c, Value.int IntKind.i64 (↑x0n : Int), Value.func (Fn.func 33) (Array.mk []) (Array.mk [])]) (w) (fun e1 w2 =>
    (e1 = Ending.returned (Value.tuple (Array.mk [])) ∧
     R (Value.tuple (Array.mk [])) w2))
theorem vc_slices_SortStableFunc_sel_ok {x0a : Option Addr} {x0n : Nat} {x0c : Nat} {w : World} {R : Value → World → Prop} {R' : Ending → World → Prop} (h : vc_slices_SortStableFunc_sel x0a x0n x0c w R) (hR : ∀ v w', R v w' → R' (.returned v) w') :
    Calls Tryz.prog 13 #[.slice x0a x0n x0c, .func (.func 33) #[] #[]] w R' :=
  calls_of_body (vs := [(.slice x0a x0n x0c, false), (.func (.func 33) #[] #[], false)]) (ty := ty) (ann := ⟨[], [], [], []⟩) (c := Tryz.f13.body.getD .skip) (by kernel_rfl) Tryz.func13 (by kernel_rfl) (by kernel_rfl) (Eq.mp (by kernel_rfl) h) hR
end Go.Proofs.YtfoeooddnmppnaaGreatDoor

/- slices.SortStableFunc's parts over files, held against one another by Select's last closure: swapRange, rotate, insertionSort. Condition: no more than a million files. -/
set_option linter.unusedVariables false
namespace Go.Proofs.YtfoeooddnmppnaaGreatDoor
open Go Vc Go.Proofs StabM

section
variable {w : World} {base : Nat} {l : Sl}
theorem swapRange_sel {P X M Y S : List FileE} (ho : OwnK encF 2 w base T_api_File l (P ++ (X ++ (M ++ (Y ++ S))))) (hl : Y.length = X.length) (hs : l.len ≤ 1000000) :
    Calls Tryz.prog F_slices_swapRangeCmpFunc #[.slice l.a l.len l.cap, .int .i64 (P.length : Int), .int .i64 ((P.length + X.length + M.length : Nat) : Int), .int .i64 (X.length : Int), .func (.func F_modzip_Select_3) #[] #[]] w fun e w' =>
      e = .returned (.tuple #[]) ∧ OwnK encF 2 w' base T_api_File l (P ++ (Y ++ (M ++ (X ++ S)))) ∧ Fr (At l) w w' := by
  refine vc_slices_swapRangeCmpFunc_sel_ok (R := fun v w' => v = .tuple #[] ∧ OwnK encF 2 w' base T_api_File l (P ++ (Y ++ (M ++ (X ++ S)))) ∧ Fr (At l) w w') ?_ (fun v w' h => ⟨by rw [h.1], h.2⟩)
  have hlen := ho.len
  simp only [List.length_append] at hlen
  refine ⟨fun i w' => ∃ k : Nat, i = k ∧ k ≤ X.length ∧ OwnK encF 2 w' base T_api_File l (P ++ (Y.take k ++ (X.drop k ++ (M ++ (X.take k ++ (Y.drop k ++ S)))))) ∧ Fr (At l) w w', fun i _ => X.length - i.toNat, ⟨0, rfl, Nat.zero_le _, by simpa using ho, .refl _ _⟩, ?_⟩
  clear ho
  rintro i w4 ⟨k, rfl, hk, ho, hf⟩
  refine ⟨fun hlt w5 d5 => ?_, fun hge => ?_⟩
  · have hlt := of_decide_eq_true hlt
    have hkX : k < X.length := by omega
    have hkY : k < Y.length := by omega
    have hX : X.drop k = X[k] :: X.drop (k + 1) := List.drop_eq_getElem_cons hkX
    have hY : Y.drop k = Y[k] :: Y.drop (k + 1) := List.drop_eq_getElem_cons hkY
    have hX2 : X.take (k + 1) = X.take k ++ [X[k]] := (List.take_append_getElem hkX).symm
    have hY2 : Y.take (k + 1) = Y.take k ++ [Y[k]] := (List.take_append_getElem hkY).symm
    generalize X[k] = x at hX hX2
    generalize Y[k] = y at hY hY2
    have ho5 := ho.drew d5
    have hxs : P ++ (Y.take k ++ (X.drop k ++ (M ++ (X.take k ++ (Y.drop k ++ S))))) = (P ++ Y.take k) ++ x :: ((X.drop (k + 1) ++ (M ++ X.take k)) ++ y :: (Y.drop (k + 1) ++ S)) := by
      rw [hX, hY]; simp only [List.append_assoc, List.cons_append]
    rw [hxs] at ho5
    have l1 : (P ++ Y.take k).length = P.length + k := by rw [List.length_append, List.length_take]; omega
    have l2 : (X.drop (k + 1) ++ (M ++ X.take k)).length = X.length - (k + 1) + (M.length + k) := by rw [List.length_append, List.length_append, List.length_drop, List.length_take]; omega
    have hgx : ((P ++ Y.take k) ++ x :: ((X.drop (k + 1) ++ (M ++ X.take k)) ++ y :: (Y.drop (k + 1) ++ S)))[P.length + k]? = some x := by rw [← l1]; exact gets _ _ _
    have hgy : ((P ++ Y.take k) ++ x :: ((X.drop (k + 1) ++ (M ++ X.take k)) ++ y :: (Y.drop (k + 1) ++ S)))[P.length + X.length + M.length + k]? = some y := by
      have := gets (((P ++ Y.take k) ++ x :: (X.drop (k + 1) ++ (M ++ X.take k)))) (Y.drop (k + 1) ++ S) y
      rw [List.length_append, List.length_cons, l1, l2, show P.length + k + (X.length - (k + 1) + (M.length + k) + 1) = P.length + X.length + M.length + k by omega] at this
      rw [← this]
      simp only [List.append_assoc, List.cons_append]
    obtain ⟨ad, had, hlx, hly, w16, hr16, w18, hr18, ho18, hf18⟩ := swap_at ho5 hgx hgy
    have e1 : IntKind.i64.wrap (((P.length + X.length + M.length : Nat) : Int) + (k : Int)) = ((P.length + X.length + M.length + k : Nat) : Int) := by rw [wrap_i64 (by omega) (by omega)]; omega
    have e2 : IntKind.i64.wrap ((P.length : Int) + (k : Int)) = ((P.length + k : Nat) : Int) := by rw [wrap_i64 (by omega) (by omega)]; omega
    have e3 : IntKind.i64.wrap ((k : Int) + 1) = ((k + 1 : Nat) : Int) := by rw [wrap_i64 (by omega) (by omega)]; omega
    rw [e1, e2, e3]
    repeat rw [Int.toNat_natCast]
    refine ⟨fun w' => w' = w5, rfl, ⟨by omega, by omega⟩, ad, had, y.path, y.data, fun w' h => by rw [h]; exact hly, ⟨by omega, by omega⟩, ad, had, x.path, x.data, fun w' h => by rw [h]; exact hlx, ⟨by omega, by omega⟩, ad, had, w16, hr16, ⟨by omega, by omega⟩, ad, had, w18, hr18, ⟨k + 1, rfl, by omega, ?_, (hf.trans' (.drew _ d5)).trans hf18 fun q _ h => h⟩, by dsimp only; omega⟩
    have hsw := swp (P ++ Y.take k) (X.drop (k + 1) ++ (M ++ X.take k)) (Y.drop (k + 1) ++ S) x y
    rw [l1, l2, show P.length + k + 1 + (X.length - (k + 1) + (M.length + k)) = P.length + X.length + M.length + k by omega] at hsw
    rw [hsw] at ho18
    rw [hX2, hY2]
    simpa only [List.append_assoc, List.cons_append, List.nil_append] using ho18
  · have hge := of_decide_eq_false hge
    have hk' : k = X.length := by omega
    rw [hk', List.take_length, List.drop_length, ← hl, List.take_length, List.drop_length] at ho
    exact ⟨rfl, by simpa using ho, hf⟩
theorem rotate_sel {P X Y S : List FileE} (ho : OwnK encF 2 w base T_api_File l (P ++ (X ++ (Y ++ S)))) (hX : 0 < X.length) (hY : 0 < Y.length) (hs : l.len ≤ 1000000) :
    Calls Tryz.prog F_slices_rotateCmpFunc #[.slice l.a l.len l.cap, .int .i64 (P.length : Int), .int .i64 ((P.length + X.length : Nat) : Int), .int .i64 ((P.length + X.length + Y.length : Nat) : Int), .func (.func F_modzip_Select_3) #[] #[]] w fun e w' =>
      e = .returned (.tuple #[]) ∧ OwnK encF 2 w' base T_api_File l (P ++ (Y ++ (X ++ S))) ∧ Fr (At l) w w' := by
  refine vc_slices_rotateCmpFunc_sel_ok (R := fun v w' => v = .tuple #[] ∧ OwnK encF 2 w' base T_api_File l (P ++ (Y ++ (X ++ S))) ∧ Fr (At l) w w') ?_ (fun v w' h => ⟨by rw [h.1], h.2⟩)
  have hlen := ho.len
  simp only [List.length_append] at hlen
  have e1 : IntKind.i64.wrap (((P.length + X.length : Nat) : Int) - (P.length : Int)) = (X.length : Int) := by rw [wrap_i64 (by omega) (by omega)]; omega
  have e2 : IntKind.i64.wrap (((P.length + X.length + Y.length : Nat) : Int) - ((P.length + X.length : Nat) : Int)) = (Y.length : Int) := by rw [wrap_i64 (by omega) (by omega)]; omega
  unfold vc_slices_rotateCmpFunc_sel
  rw [e1, e2]
  refine ⟨fun i j w' => ∃ P' X' Y' S' : List FileE, OwnK encF 2 w' base T_api_File l (P' ++ (X' ++ (Y' ++ S'))) ∧ P' ++ (Y' ++ (X' ++ S')) = P ++ (Y ++ (X ++ S)) ∧ i = X'.length ∧ j = Y'.length ∧ 0 < X'.length ∧ 0 < Y'.length ∧ P'.length + X'.length = P.length + X.length ∧ Fr (At l) w w',
    fun i j _ => i.toNat + j.toNat, ⟨P, X, Y, S, ho, rfl, rfl, rfl, hX, hY, rfl, .refl _ _⟩, ?_⟩
  clear ho e1 e2
  rintro i j w5 ⟨P', X', Y', S', ho, hT, rfl, rfl, hX', hY', hm, hf⟩
  have hlen' := ho.len
  simp only [List.length_append] at hlen'
  have e3 : IntKind.i64.wrap (((P.length + X.length : Nat) : Int) - (X'.length : Int)) = (P'.length : Int) := by rw [wrap_i64 (by omega) (by omega)]; omega
  rw [e3]
  refine ⟨fun hne => ⟨fun hgt => ?_, fun hle => ?_⟩, fun heq => ?_⟩
  · have hgt := of_decide_eq_true hgt
    have e4 : ((P.length + X.length : Nat) : Int) = ((P'.length + (X'.take Y'.length).length + (X'.drop Y'.length).length : Nat) : Int) := by rw [List.length_take, List.length_drop]; omega
    have e5 : (Y'.length : Int) = ((X'.take Y'.length).length : Int) := by rw [List.length_take]; omega
    have e6 : IntKind.i64.wrap ((X'.length : Int) - (Y'.length : Int)) = ((X'.length - Y'.length : Nat) : Int) := by rw [wrap_i64 (by omega) (by omega)]; omega
    have ho' : OwnK encF 2 w5 base T_api_File l (P' ++ (X'.take Y'.length ++ (X'.drop Y'.length ++ (Y' ++ S')))) := by
      rw [← List.append_assoc (X'.take Y'.length), List.take_append_drop]; exact ho
    rw [e4, e6]
    conv => arg 3; rw [e5]
    refine (swapRange_sel ho' (by rw [List.length_take]; omega) hs).mono ?_
    rintro e w7 ⟨rfl, ho7, hf7⟩
    refine ⟨rfl, ⟨P' ++ Y', X'.drop Y'.length, X'.take Y'.length, S', by rw [List.append_assoc]; exact ho7, ?_, by rw [List.length_drop], by rw [List.length_take]; omega, by rw [List.length_drop]; omega, by rw [List.length_take]; omega, by rw [List.length_append, List.length_drop]; omega, hf.trans hf7 fun q _ h => h⟩, by dsimp only; omega⟩
    rw [← hT, List.append_assoc, ← List.append_assoc (X'.take Y'.length), List.take_append_drop]
  · have hle := of_decide_eq_false hle
    have hne : X'.length ≠ Y'.length := fun h => by rw [h] at hne; simp at hne
    have e4 : IntKind.i64.wrap (IntKind.i64.wrap (((P.length + X.length : Nat) : Int) + (Y'.length : Int)) - (X'.length : Int)) = ((P'.length + X'.length + (Y'.take (Y'.length - X'.length)).length : Nat) : Int) := by
      rw [wrap_i64 (x := ((P.length + X.length : Nat) : Int) + (Y'.length : Int)) (by omega) (by omega), wrap_i64 (by omega) (by omega), List.length_take]; omega
    have e6 : IntKind.i64.wrap ((Y'.length : Int) - (X'.length : Int)) = ((Y'.length - X'.length : Nat) : Int) := by rw [wrap_i64 (by omega) (by omega)]; omega
    have ho' : OwnK encF 2 w5 base T_api_File l (P' ++ (X' ++ (Y'.take (Y'.length - X'.length) ++ (Y'.drop (Y'.length - X'.length) ++ S')))) := by
      rw [← List.append_assoc (Y'.take (Y'.length - X'.length)), List.take_append_drop]; exact ho
    rw [e4, e6]
    refine (swapRange_sel ho' (by rw [List.length_drop]; omega) hs).mono ?_
    rintro e w7 ⟨rfl, ho7, hf7⟩
    refine ⟨rfl, ⟨P', Y'.drop (Y'.length - X'.length), Y'.take (Y'.length - X'.length), X' ++ S', ho7, ?_, by rw [List.length_drop]; omega, by rw [List.length_take]; omega, by rw [List.length_drop]; omega, by rw [List.length_take]; omega, by rw [List.length_drop]; omega, hf.trans hf7 fun q _ h => h⟩, by dsimp only; omega⟩
    rw [← hT, ← List.append_assoc (Y'.take (Y'.length - X'.length)), List.take_append_drop]
  · have heq : X'.length = Y'.length := by
      by_cases h : X'.length = Y'.length
      · exact h
      · have : ((X'.length : Int) != (Y'.length : Int)) = true := by simp; omega
        rw [this] at heq; cases heq
    have e4 : ((P.length + X.length : Nat) : Int) = ((P'.length + X'.length + ([] : List FileE).length : Nat) : Int) := by rw [List.length_nil]; omega
    rw [e4]
    refine (swapRange_sel (M := []) (by simpa using ho) heq.symm hs).mono ?_
    rintro e w7 ⟨rfl, ho7, hf7⟩
    exact ⟨rfl, rfl, by rw [← hT]; simpa using ho7, hf.trans hf7 fun q _ h => h⟩
theorem insertion_sel {P A S : List FileE} (ho : OwnK encF 2 w base T_api_File l (P ++ (A ++ S))) (hs : l.len ≤ 1000000) :
    Calls Tryz.prog F_slices_insertionSortCmpFunc #[.slice l.a l.len l.cap, .int .i64 (P.length : Int), .int .i64 ((P.length + A.length : Nat) : Int), .func (.func F_modzip_Select_3) #[] #[]] w fun e w' =>
      e = .returned (.tuple #[]) ∧ OwnK encF 2 w' base T_api_File l (P ++ (isort ltP A ++ S)) ∧ Fr (At l) w w' := by
  refine vc_slices_insertionSortCmpFunc_sel_ok (R := fun v w' => v = .tuple #[] ∧ OwnK encF 2 w' base T_api_File l (P ++ (isort ltP A ++ S)) ∧ Fr (At l) w w') ?_ (fun v w' h => ⟨by rw [h.1], h.2⟩)
  have hlen := ho.len
  simp only [List.length_append] at hlen
  have e1 : IntKind.i64.wrap ((P.length : Int) + 1) = ((P.length + 1 : Nat) : Int) := by rw [wrap_i64 (by omega) (by omega)]; omega
  unfold vc_slices_insertionSortCmpFunc_sel
  rw [e1]
  have hini : isort ltP (A.take 1) = A.take 1 := by
    cases A with
    | nil => rfl
    | cons x r => rfl
  refine ⟨fun i w' => ∃ k : Nat, i = ((P.length + k : Nat) : Int) ∧ 1 ≤ k ∧ k ≤ A.length + 1 ∧ OwnK encF 2 w' base T_api_File l (P ++ (isort ltP (A.take k) ++ (A.drop k ++ S))) ∧ Fr (At l) w w', fun i _ => P.length + A.length + 1 - i.toNat,
    ⟨1, rfl, Nat.le_refl _, by omega, by rw [hini, ← List.append_assoc (A.take 1), List.take_append_drop]; exact ho, .refl _ _⟩, ?_⟩
  clear ho
  rintro i w4 ⟨k, rfl, hk1, hk2, ho, hf⟩
  refine ⟨fun hlt => ?_, fun hge => ?_⟩
  · have hlt := of_decide_eq_true hlt
    have hkA : k < A.length := by omega
    have hdr : A.drop k = A[k] :: A.drop (k + 1) := List.drop_eq_getElem_cons hkA
    have htk : A.take (k + 1) = A.take k ++ [A[k]] := (List.take_append_getElem hkA).symm
    generalize A[k] = x at hdr htk
    obtain ⟨hso, hpe⟩ := isort_all ordP.tr ordP.asy _ (A.take k) rfl
    have hil : (isort ltP (A.take k)).length = k := by rw [hpe.length_eq, List.length_take]; omega
    have hput : isort ltP (A.take (k + 1)) = put ltP x (isort ltP (A.take k)) := by rw [htk, isort_snoc]
    rw [hdr] at ho
    generalize hD : A.drop (k + 1) = D at *
    have hDl : D.length = A.length - (k + 1) := by rw [← hD, List.length_drop]
    clear htk hpe hdr
    generalize isort ltP (A.take k) = I at *
    have e3 : IntKind.i64.wrap (((P.length + k : Nat) : Int) + 1) = ((P.length + (k + 1) : Nat) : Int) := by rw [wrap_i64 (by omega) (by omega)]; omega
    rw [e3]
    refine ⟨fun j w' => ∃ L R : List FileE, I = L ++ R ∧ j = ((P.length + L.length : Nat) : Int) ∧ (∀ y ∈ R, ltP x y = true) ∧ OwnK encF 2 w' base T_api_File l (P ++ (L ++ (x :: (R ++ (D ++ S))))) ∧ Fr (At l) w w', fun j _ => j.toNat,
      ⟨I, [], (List.append_nil I).symm, by rw [hil], fun y hy => (by simp at hy), by simpa using ho, hf⟩, ?_⟩
    clear ho
    rintro j w8 ⟨L, R, hI, rfl, hR, ho, hf8⟩ w9 d9
    have hLR : L.length + R.length = k := by rw [← hil, hI, List.length_append]
    have ho9 := ho.drew d9
    have hf9 : Fr (At l) w w9 := hf8.trans' (.drew _ d9)
    have hgx : (P ++ (L ++ (x :: (R ++ (D ++ S)))))[P.length + L.length]? = some x := by
      have := gets (P ++ L) (R ++ (D ++ S)) x
      rw [List.length_append, List.append_assoc] at this
      exact this
    refine ⟨fun w' => Fr (fun _ => False) w9 w', .refl _ _, fun hgt => ?_, fun hle => ⟨.refl _ _, ⟨k + 1, rfl, by omega, by omega, ?_, hf9⟩, by dsimp only; omega⟩⟩
    · have hgt := of_decide_eq_true hgt
      have hL0 : L ≠ [] := fun h => by rw [h] at hgt; simp only [List.length_nil] at hgt; omega
      have hLs := List.dropLast_concat_getLast hL0
      generalize hy : L.getLast hL0 = y at hLs
      generalize L.dropLast = L' at hLs
      subst hLs
      have hL' : (L' ++ [y]).length = L'.length + 1 := by rw [List.length_append]; rfl
      rw [hL'] at hgx hLR hgt ⊢
      have hgy : (P ++ ((L' ++ [y]) ++ (x :: (R ++ (D ++ S)))))[P.length + L'.length]? = some y := by
        have := gets (P ++ L') (x :: (R ++ (D ++ S))) y
        rw [List.length_append, List.append_assoc] at this
        rw [← this]
        simp only [List.append_assoc, List.cons_append, List.nil_append]
      have e2 : IntKind.i64.wrap (((P.length + (L'.length + 1) : Nat) : Int) - 1) = ((P.length + L'.length : Nat) : Int) := by rw [wrap_i64 (by omega) (by omega)]; omega
      rw [e2]
      obtain ⟨ad, had, hlx⟩ := load_at ho9 hgx
      obtain ⟨ad2, had2, hly⟩ := load_at ho9 hgy
      refine ⟨⟨by omega, by omega⟩, ad, had, ⟨by omega, by omega⟩, ad2, had2, x.path, x.data, by rw [Int.toNat_natCast]; exact hlx, y.path, y.data, by rw [Int.toNat_natCast]; exact hly, (sel3_spec x y w9).mono ?_⟩
      rintro e w20 ⟨z, rfl, hz, hf20⟩
      refine ⟨z, rfl, hf20, fun h => ?_, fun h => ?_⟩
      · intro w22 d22
        have ho22 := (ho9.keep hf20 (by simp)).drew d22
        have hf22 : Fr (At l) w w22 := (hf9.trans' (hf20.mono (by simp))).trans' (.drew _ d22)
        obtain ⟨ad3, had3, hlx3, hly3, w33, hr33, w35, hr35, ho35, hf35⟩ := swap_at ho22 hgx hgy
        refine ⟨fun w' => w' = w22, rfl, ⟨by omega, by omega⟩, ad3, had3, y.path, y.data, fun w' h => by rw [h, Int.toNat_natCast]; exact hly3, ⟨by omega, by omega⟩, ad3, had3, x.path, x.data, fun w' h => by rw [h, Int.toNat_natCast]; exact hlx3, ⟨by omega, by omega⟩, ad3, had3, w33, by rw [Int.toNat_natCast]; exact hr33, ⟨by omega, by omega⟩, ad3, had3, w35, by rw [Int.toNat_natCast]; exact hr35,
          ⟨L', y :: R, by rw [hI]; simp, rfl, fun u hu => ?_, ?_, hf22.trans hf35 fun q _ h => h⟩, by dsimp only; omega⟩
        · rcases List.mem_cons.1 hu with rfl | hu
          · rw [← hz]; exact h
          · exact hR u hu
        · rw [List.set_comm _ _ (by omega)] at ho35
          have hsw := swp (P ++ L') [] (R ++ (D ++ S)) y x
          rw [List.length_append, List.length_nil, Nat.add_zero] at hsw
          simp only [List.append_assoc, List.cons_append, List.nil_append] at hsw ho35 ⊢
          rw [show P.length + (L'.length + 1) = P.length + L'.length + 1 by omega, hsw] at ho35
          exact ho35
      · rw [h] at hz
        have ho20 := ho9.keep hf20 (by simp)
        refine ⟨⟨k + 1, rfl, by omega, by omega, ?_, hf9.trans' (hf20.mono (by simp))⟩, by dsimp only; omega⟩
        rw [hput, hI, hD, put_at (L := L' ++ [y]) (R := R) ?_ ?_]
        · simp only [List.append_assoc, List.cons_append, List.nil_append] at ho20 ⊢
          exact ho20
        · intro u hu
          obtain ⟨q, hq, hqe⟩ := mem_idx hu
          rw [hL'] at hq
          have hsoL : Srt ltP (L' ++ [y]) := (List.pairwise_append.1 (hI ▸ hso)).1
          exact srt_nl ordP hsoL (by omega : q ≤ L'.length) hqe (gets L' [] y) hz.symm
        · intro u hu
          exact hR u (List.mem_of_mem_head? hu)
    · have hle := of_decide_eq_false hle
      have hL0 : L = [] := List.eq_nil_of_length_eq_zero (by omega)
      subst hL0
      rw [hput, hI, hD, put_at (L := []) (R := R) (fun u hu => (by simp at hu)) (fun u hu => hR u (List.mem_of_mem_head? hu))]
      simp only [List.cons_append, List.nil_append] at ho9 ⊢
      exact ho9
  · have hge := of_decide_eq_false hge
    have hk' : A.length ≤ k := by omega
    rw [List.take_of_length_le hk', List.drop_eq_nil_of_le hk'] at ho
    exact ⟨rfl, by simpa using ho, hf⟩
end
end Go.Proofs.YtfoeooddnmppnaaGreatDoor

/- slices.SortStableFunc's symMerge over files, held against one another by Select's last closure. Condition: no more than a million files. -/
set_option linter.unusedVariables false
namespace Go.Proofs.YtfoeooddnmppnaaGreatDoor
open Go Vc Go.Proofs StabM

section
variable {w : World} {base : Nat} {l : Sl}
theorem half_sel (p q : Nat) (h : p + q ≤ 4000000) : IntKind.i64.wrap (Int.fdiv (IntKind.u64.wrap (IntKind.i64.wrap ((p : Int) + (q : Int)))) (2 ^ min (Int.toNat 1) 64)) = (((p + q) / 2 : Nat) : Int) := by
  rw [wrap_i64 (x := (p : Int) + (q : Int)) (by omega) (by omega), wrap_u64 (by omega) (by omega), show (2 : Int) ^ min (Int.toNat 1) 64 = 2 by decide, Int.fdiv_eq_ediv_of_nonneg _ (by omega), wrap_i64 (by omega) (by omega)]
  omega
set_option maxHeartbeats 1600000 in
theorem symMerge_sel : ∀ (n : Nat) {w : World} {P A B S : List FileE}, A.length + B.length ≤ n → OwnK encF 2 w base T_api_File l (P ++ (A ++ (B ++ S))) → 0 < A.length → 0 < B.length → Srt ltP A → Srt ltP B → l.len ≤ 1000000 →
    Calls Tryz.prog F_slices_symMergeCmpFunc #[.slice l.a l.len l.cap, .int .i64 (P.length : Int), .int .i64 ((P.length + A.length : Nat) : Int), .int .i64 ((P.length + A.length + B.length : Nat) : Int), .func (.func F_modzip_Select_3) #[] #[]] w fun e w' =>
      e = .returned (.tuple #[]) ∧ OwnK encF 2 w' base T_api_File l (P ++ (mrg ltP A B ++ S)) ∧ Fr (At l) w w'
  | 0, w, P, A, B, S, hn, ho, hA, hB, _, _, hs => by omega
  | n + 1, w, P, A, B, S, hn, ho, hA, hB, sA, sB, hs => by
    refine vc_slices_symMergeCmpFunc_sel_ok (R := fun v w' => v = .tuple #[] ∧ OwnK encF 2 w' base T_api_File l (P ++ (mrg ltP A B ++ S)) ∧ Fr (At l) w w') ?_ (fun v w' h => ⟨by rw [h.1], h.2⟩)
    have hlen := ho.len
    simp only [List.length_append] at hlen
    have e1 : IntKind.i64.wrap (((P.length + A.length : Nat) : Int) - (P.length : Int)) = (A.length : Int) := by rw [wrap_i64 (by omega) (by omega)]; omega
    have e2 : IntKind.i64.wrap (((P.length + A.length + B.length : Nat) : Int) - ((P.length + A.length : Nat) : Int)) = (B.length : Int) := by rw [wrap_i64 (by omega) (by omega)]; omega
    unfold vc_slices_symMergeCmpFunc_sel
    rw [e1, e2]
    refine ⟨fun h1 => ?_, fun h1 => ⟨fun h2 => ?_, fun h2 => ⟨by decide, ?_⟩⟩⟩
    · -- one element ahead
      have hA0 : (A.length : Int) = 1 := by simpa using h1
      have hA1 : A.length = 1 := by omega
      obtain ⟨x, rfl⟩ : ∃ x, A = [x] := List.length_eq_one_iff.1 hA1
      simp only [List.length_cons, List.length_nil, Nat.zero_add] at hlen ⊢
      have hgx : (P ++ ([x] ++ (B ++ S)))[P.length]? = some x := gets P (B ++ S) x
      refine ⟨fun i j w' => ∃ p q : Nat, i = ((P.length + 1 + p : Nat) : Int) ∧ j = ((P.length + 1 + q : Nat) : Int) ∧ p ≤ q ∧ q ≤ B.length ∧ (∀ u y, u < p → B[u]? = some y → ltP y x = true) ∧ (∀ u y, q ≤ u → B[u]? = some y → ltP y x = false) ∧ Fr (fun _ => False) w w', fun i j _ => j.toNat - i.toNat,
        ⟨0, B.length, rfl, rfl, Nat.zero_le _, Nat.le_refl _, fun u y h => by omega, fun u y h hy => by have := (List.getElem?_eq_some_iff.1 hy).1; omega, .refl _ _⟩, ?_⟩
      rintro i j w5 ⟨p, q, rfl, rfl, hpq, hqB, hlo, hhi, hf⟩
      refine ⟨fun hlt => ⟨by decide, fun w6 d6 => ?_⟩, fun hge => ?_⟩
      · have hlt := of_decide_eq_true hlt
        rw [half_sel _ _ (by omega)]
        obtain ⟨m, hm⟩ : ∃ m, (P.length + 1 + p + (P.length + 1 + q)) / 2 = P.length + 1 + m := ⟨(p + q) / 2, by omega⟩
        have hm2 : m = (p + q) / 2 := by omega
        rw [hm]
        have hmB : m < B.length := by omega
        have hgm : B[m]? = some B[m] := List.getElem?_eq_getElem hmB
        generalize B[m] = y at hgm
        have hgy : (P ++ ([x] ++ (B ++ S)))[P.length + 1 + m]? = some y := by rw [← hgm]; exact get_B (A := [x]) hmB
        have ho6 := ho.keep (hf.trans' (.drew _ d6)) (by simp)
        obtain ⟨ad, had, hly⟩ := load_at ho6 hgy
        obtain ⟨ad2, had2, hlx⟩ := load_at ho6 hgx
        have e4 : IntKind.i64.wrap (((P.length + 1 + m : Nat) : Int) + 1) = ((P.length + 1 + (m + 1) : Nat) : Int) := by rw [wrap_i64 (by omega) (by omega)]; omega
        rw [e4]
        refine ⟨fun w' => Fr (fun _ => False) w6 w', .refl _ _, ⟨by omega, by omega⟩, ad, had, ⟨by omega, by omega⟩, ad2, had2, y.path, y.data, by rw [Int.toNat_natCast]; exact hly, x.path, x.data, by rw [Int.toNat_natCast]; exact hlx, (sel3_spec y x w6).mono ?_⟩
        rintro e w17 ⟨z, rfl, hz, hf17⟩
        have hf' : Fr (fun _ => False) w w17 := (hf.trans' (.drew _ d6)).trans' hf17
        refine ⟨z, rfl, hf17, fun h => ⟨⟨m + 1, q, rfl, rfl, by omega, hqB, fun u v hu hv => ?_, hhi, hf'⟩, by dsimp only; omega⟩, fun h => ⟨⟨p, m, rfl, rfl, by omega, by omega, hlo, fun u v hu hv => ?_, hf'⟩, by dsimp only; omega⟩⟩
        · exact srt_lt ordP sB (by omega : u ≤ m) hv hgm (by rw [← hz]; exact h)
        · exact srt_ng ordP sB hu hgm hv (by rw [← hz]; exact h)
      · have hge := of_decide_eq_false hge
        have hpq' : p = q := by omega
        subst hpq'
        have hB1 : ∀ y ∈ B.take p, ltP y x = true := fun y hy => by
          obtain ⟨u, hu, _, hv⟩ := mem_take_idx hy
          exact hlo u y hu hv
        have hB2 : ∀ y, (B.drop p).head? = some y → ltP y x = false := fun y hy => by
          rw [List.head?_drop] at hy
          exact hhi p y (Nat.le_refl _) hy
        have hmrg : mrg ltP [x] B = B.take p ++ x :: B.drop p := by
          have := mrg_one hB1 hB2
          rwa [List.take_append_drop] at this
        rw [hmrg]
        have hBs : B = B.take p ++ B.drop p := (List.take_append_drop p B).symm
        have hpl : (B.take p).length = p := by rw [List.length_take]; omega
        have hlB : B.length = p + (B.drop p).length := by rw [List.length_drop]; omega
        have ho5 := ho.keep hf (by simp)
        generalize hB1d : B.take p = B1 at *
        generalize hB2d : B.drop p = B2 at *
        rw [hBs] at ho5
        have e5 : IntKind.i64.wrap (((P.length + 1 + p : Nat) : Int) - 1) = ((P.length + p : Nat) : Int) := by rw [wrap_i64 (by omega) (by omega)]; omega
        rw [e5]
        refine ⟨fun i w' => ∃ k : Nat, i = ((P.length + k : Nat) : Int) ∧ k ≤ p ∧ OwnK encF 2 w' base T_api_File l (P ++ (B1.take k ++ (x :: (B1.drop k ++ (B2 ++ S))))) ∧ Fr (At l) w w', fun i _ => P.length + p - i.toNat, ⟨0, rfl, Nat.zero_le _, by simpa using ho5, hf.mono (by simp)⟩, ?_⟩
        rintro i w22 ⟨k, rfl, hk, ho22, hf22⟩
        refine ⟨fun hlt w23 d23 => ?_, fun hge => ?_⟩
        · have hlt := of_decide_eq_true hlt
          have hkl : k < B1.length := by omega
          have hdr : B1.drop k = B1[k] :: B1.drop (k + 1) := List.drop_eq_getElem_cons hkl
          have htk : B1.take (k + 1) = B1.take k ++ [B1[k]] := (List.take_append_getElem hkl).symm
          generalize B1[k] = y at hdr htk
          have ho23 := ho22.drew d23
          have htl : (P ++ B1.take k).length = P.length + k := by rw [List.length_append, List.length_take]; omega
          rw [hdr, ← List.append_assoc P] at ho23
          have hgx3 : ((P ++ B1.take k) ++ (x :: (y :: B1.drop (k + 1) ++ (B2 ++ S))))[P.length + k]? = some x := by rw [← htl]; exact gets _ _ _
          have hgy3 : ((P ++ B1.take k) ++ (x :: (y :: B1.drop (k + 1) ++ (B2 ++ S))))[P.length + k + 1]? = some y := by
            have := gets (P ++ B1.take k ++ [x]) (B1.drop (k + 1) ++ (B2 ++ S)) y
            rw [List.length_append, htl] at this
            rw [← this]
            simp only [List.append_assoc, List.cons_append, List.nil_append, List.length_cons, List.length_nil]
          obtain ⟨ad, had, hlx, hly, w34, hr34, w36, hr36, ho36, hf36⟩ := swap_at ho23 hgx3 hgy3
          have e6 : IntKind.i64.wrap (((P.length + k : Nat) : Int) + 1) = ((P.length + k + 1 : Nat) : Int) := by rw [wrap_i64 (by omega) (by omega)]; omega
          rw [e6]
          refine ⟨fun w' => w' = w23, rfl, ⟨by omega, by omega⟩, ad, had, y.path, y.data, fun w' h => by rw [h, Int.toNat_natCast]; exact hly, ⟨by omega, by omega⟩, ad, had, x.path, x.data, fun w' h => by rw [h, Int.toNat_natCast]; exact hlx, ⟨by omega, by omega⟩, ad, had, w34, by rw [Int.toNat_natCast]; exact hr34, ⟨by omega, by omega⟩, ad, had, w36, by rw [Int.toNat_natCast]; exact hr36, ⟨k + 1, rfl, by omega, ?_, (hf22.trans' (.drew _ d23)).trans hf36 fun q _ h => h⟩, by dsimp only; omega⟩
          have hsw := swp (P ++ B1.take k) [] (B1.drop (k + 1) ++ (B2 ++ S)) x y
          rw [htl, List.length_nil, Nat.add_zero] at hsw
          simp only [List.nil_append, List.cons_append] at hsw ho36
          rw [hsw] at ho36
          rw [htk]
          simpa only [List.append_assoc, List.cons_append, List.nil_append] using ho36
        · have hge := of_decide_eq_false hge
          have hk' : k = B1.length := by omega
          rw [hk', List.take_length, List.drop_length] at ho22
          exact ⟨trivial, by simpa using ho22, hf22⟩
    · -- one element behind
      have hB0 : (B.length : Int) = 1 := by simpa using h2
      have hB1 : B.length = 1 := by omega
      obtain ⟨x, rfl⟩ : ∃ x, B = [x] := List.length_eq_one_iff.1 hB1
      simp only [List.length_cons, List.length_nil, Nat.zero_add] at hlen ⊢
      have hgx : (P ++ (A ++ ([x] ++ S)))[P.length + A.length]? = some x := by
        have := gets (P ++ A) S x
        rw [List.length_append, List.append_assoc] at this
        exact this
      refine ⟨fun i j w' => ∃ p q : Nat, i = ((P.length + p : Nat) : Int) ∧ j = ((P.length + q : Nat) : Int) ∧ p ≤ q ∧ q ≤ A.length ∧ (∀ u y, u < p → A[u]? = some y → ltP x y = false) ∧ (∀ u y, q ≤ u → A[u]? = some y → ltP x y = true) ∧ Fr (fun _ => False) w w', fun i j _ => j.toNat - i.toNat,
        ⟨0, A.length, rfl, rfl, Nat.zero_le _, Nat.le_refl _, fun u y h => by omega, fun u y h hy => by have := (List.getElem?_eq_some_iff.1 hy).1; omega, .refl _ _⟩, ?_⟩
      rintro i j w5 ⟨p, q, rfl, rfl, hpq, hqA, hlo, hhi, hf⟩
      refine ⟨fun hlt => ⟨by decide, fun w6 d6 => ?_⟩, fun hge => ?_⟩
      · have hlt := of_decide_eq_true hlt
        rw [half_sel _ _ (by omega)]
        obtain ⟨m, hm⟩ : ∃ m, (P.length + p + (P.length + q)) / 2 = P.length + m := ⟨(p + q) / 2, by omega⟩
        have hm2 : m = (p + q) / 2 := by omega
        rw [hm]
        have hmA : m < A.length := by omega
        have hgm : A[m]? = some A[m] := List.getElem?_eq_getElem hmA
        generalize A[m] = y at hgm
        have hgy : (P ++ (A ++ ([x] ++ S)))[P.length + m]? = some y := by rw [← hgm]; exact get_A hmA
        have ho6 := ho.keep (hf.trans' (.drew _ d6)) (by simp)
        obtain ⟨ad, had, hly⟩ := load_at ho6 hgy
        obtain ⟨ad2, had2, hlx⟩ := load_at ho6 hgx
        have e4 : IntKind.i64.wrap (((P.length + m : Nat) : Int) + 1) = ((P.length + (m + 1) : Nat) : Int) := by rw [wrap_i64 (by omega) (by omega)]; omega
        rw [e4]
        refine ⟨fun w' => Fr (fun _ => False) w6 w', .refl _ _, ⟨by omega, by omega⟩, ad2, had2, ⟨by omega, by omega⟩, ad, had, x.path, x.data, by rw [Int.toNat_natCast]; exact hlx, y.path, y.data, by rw [Int.toNat_natCast]; exact hly, (sel3_spec x y w6).mono ?_⟩
        rintro e w17 ⟨z, rfl, hz, hf17⟩
        have hf' : Fr (fun _ => False) w w17 := (hf.trans' (.drew _ d6)).trans' hf17
        refine ⟨z, rfl, hf17, fun h => ⟨⟨m + 1, q, rfl, rfl, by omega, hqA, fun u v hu hv => ?_, hhi, hf'⟩, by dsimp only; omega⟩, fun h => ⟨⟨p, m, rfl, rfl, by omega, by omega, hlo, fun u v hu hv => ?_, hf'⟩, by dsimp only; omega⟩⟩
        · exact srt_nl ordP sA (by omega : u ≤ m) hv hgm (by rw [← hz]; simpa using h)
        · exact srt_gt ordP sA hu hgm hv (by rw [← hz]; simpa using h)
      · have hge := of_decide_eq_false hge
        have hpq' : p = q := by omega
        subst hpq'
        have hA1 : ∀ y ∈ A.take p, ltP x y = false := fun y hy => by
          obtain ⟨u, hu, _, hv⟩ := mem_take_idx hy
          exact hlo u y hu hv
        have hA2 : ∀ y ∈ A.drop p, ltP x y = true := fun y hy => by
          obtain ⟨u, hu, _, hv⟩ := mem_drop_idx hy
          exact hhi u y hu hv
        have hmrg : mrg ltP A [x] = A.take p ++ x :: A.drop p := by
          have := mrg_last hA1 hA2
          rwa [List.take_append_drop] at this
        rw [hmrg]
        have hAs : A = A.take p ++ A.drop p := (List.take_append_drop p A).symm
        have hpl : (A.take p).length = p := by rw [List.length_take]; omega
        have hlA : A.length = p + (A.drop p).length := by rw [List.length_drop]; omega
        have ho5 := ho.keep hf (by simp)
        generalize hA1d : A.take p = A1 at *
        generalize hA2d : A.drop p = A2 at *
        rw [hAs] at ho5
        refine ⟨fun i w' => ∃ k : Nat, i = ((P.length + p + k : Nat) : Int) ∧ k ≤ A2.length ∧ OwnK encF 2 w' base T_api_File l (P ++ (A1 ++ (A2.take k ++ (x :: (A2.drop k ++ S))))) ∧ Fr (At l) w w', fun i _ => i.toNat, ⟨A2.length, by omega, Nat.le_refl _, by simpa using ho5, hf.mono (by simp)⟩, ?_⟩
        rintro i w22 ⟨k, rfl, hk, ho22, hf22⟩
        refine ⟨fun hlt w23 d23 => ?_, fun hge => ?_⟩
        · have hlt := of_decide_eq_true hlt
          obtain ⟨k, rfl⟩ : ∃ m, k = m + 1 := ⟨k - 1, by omega⟩
          have hkl : k < A2.length := by omega
          have hdr : A2.drop k = A2[k] :: A2.drop (k + 1) := List.drop_eq_getElem_cons hkl
          have htk : A2.take (k + 1) = A2.take k ++ [A2[k]] := (List.take_append_getElem hkl).symm
          generalize A2[k] = y at hdr htk
          have ho23 := ho22.drew d23
          have htl : (P ++ (A1 ++ A2.take k)).length = P.length + p + k := by rw [List.length_append, List.length_append, List.length_take]; omega
          have hxs : P ++ (A1 ++ (A2.take (k + 1) ++ (x :: (A2.drop (k + 1) ++ S)))) = (P ++ (A1 ++ A2.take k)) ++ y :: ([] ++ x :: (A2.drop (k + 1) ++ S)) := by
            rw [htk]; simp only [List.append_assoc, List.cons_append, List.nil_append]
          rw [hxs] at ho23
          have hgy3 : ((P ++ (A1 ++ A2.take k)) ++ y :: ([] ++ x :: (A2.drop (k + 1) ++ S)))[P.length + p + k]? = some y := by rw [← htl]; exact gets _ _ _
          have hgx3 : ((P ++ (A1 ++ A2.take k)) ++ y :: ([] ++ x :: (A2.drop (k + 1) ++ S)))[P.length + p + (k + 1)]? = some x := by
            have := gets ((P ++ (A1 ++ A2.take k)) ++ [y]) (A2.drop (k + 1) ++ S) x
            rw [List.length_append, htl, show P.length + p + k + [y].length = P.length + p + (k + 1) by simp only [List.length_cons, List.length_nil]; omega] at this
            rw [← this]
            simp only [List.append_assoc, List.cons_append, List.nil_append]
          obtain ⟨ad, had, hlx, hly, w34, hr34, w36, hr36, ho36, hf36⟩ := swap_at ho23 hgx3 hgy3
          have e6 : IntKind.i64.wrap (((P.length + p + (k + 1) : Nat) : Int) - 1) = ((P.length + p + k : Nat) : Int) := by rw [wrap_i64 (by omega) (by omega)]; omega
          rw [e6]
          refine ⟨fun w' => w' = w23, rfl, ⟨by omega, by omega⟩, ad, had, y.path, y.data, fun w' h => by rw [h, Int.toNat_natCast]; exact hly, ⟨by omega, by omega⟩, ad, had, x.path, x.data, fun w' h => by rw [h, Int.toNat_natCast]; exact hlx, ⟨by omega, by omega⟩, ad, had, w34, by rw [Int.toNat_natCast]; exact hr34, ⟨by omega, by omega⟩, ad, had, w36, by rw [Int.toNat_natCast]; exact hr36, ⟨k, rfl, by omega, ?_, (hf22.trans' (.drew _ d23)).trans hf36 fun q _ h => h⟩, by dsimp only; omega⟩
          rw [List.set_comm _ _ (by omega)] at ho36
          have hsw := swp (P ++ (A1 ++ A2.take k)) [] (A2.drop (k + 1) ++ S) y x
          rw [htl, List.length_nil, Nat.add_zero, show P.length + p + k + 1 = P.length + p + (k + 1) by omega] at hsw
          rw [hsw] at ho36
          rw [hdr]
          simpa only [List.append_assoc, List.cons_append, List.nil_append] using ho36
        · have hge := of_decide_eq_false hge
          have hk' : k = 0 := by omega
          subst hk'
          exact ⟨trivial, by simpa using ho22, hf22⟩
    · obtain ⟨mid, hmid⟩ : ∃ mid, (P.length + (P.length + A.length + B.length)) / 2 = mid := ⟨_, rfl⟩
      rw [half_sel _ _ (by omega), hmid]
      have hn1 : A.length ≠ 1 := fun h => by rw [h] at h1; simp at h1
      have hn2 : B.length ≠ 1 := fun h => by rw [h] at h2; simp at h2
      have e3 : IntKind.i64.wrap ((mid : Int) + ((P.length + A.length : Nat) : Int)) = ((mid + (P.length + A.length) : Nat) : Int) := by rw [wrap_i64 (by omega) (by omega)]; omega
      rw [e3]
      obtain ⟨N, hN⟩ : ∃ N, mid + (P.length + A.length) = N := ⟨_, rfl⟩
      rw [hN]
      have e4 : IntKind.i64.wrap ((N : Int) - 1) = ((N - 1 : Nat) : Int) := by rw [wrap_i64 (by omega) (by omega)]; omega
      rw [e4]
      obtain ⟨xs, hxs⟩ : ∃ xs, P ++ (A ++ (B ++ S)) = xs := ⟨_, rfl⟩
      have hxl : xs.length = l.len := ho.len.symm ▸ (by rw [hxs])
      refine ⟨fun i j w' => w' = w ∧ ∃ lo hi : Nat, i = lo ∧ j = hi ∧ P.length ≤ lo ∧ lo ≤ hi ∧ hi ≤ P.length + A.length ∧ hi ≤ mid ∧ (lo = P.length ∨ N = P.length + A.length + B.length + lo) ∧ (hi = P.length + A.length ∨ hi = mid) ∧ N ≤ P.length + A.length + B.length + lo,
        ⟨fun h => ⟨rfl, N - (P.length + A.length + B.length), mid, ?_, rfl, ?_⟩, fun h => ⟨rfl, P.length, P.length + A.length, rfl, rfl, ?_⟩⟩, ?_⟩
      · have h := of_decide_eq_true h
        rw [wrap_i64 (by omega) (by omega)]; omega
      · have h := of_decide_eq_true h
        refine ⟨by omega, by omega, by omega, by omega, .inr (by omega), .inr rfl, by omega⟩
      · have h := of_decide_eq_false h
        refine ⟨by omega, by omega, by omega, by omega, .inl rfl, .inl rfl, by omega⟩
      rintro i j w76 ⟨hw, lo, hi, rfl, rfl, q1, q2, q3, q4, q5, q6, q7⟩
      subst hw
      refine ⟨fun i j w' => ∃ s r : Nat, i = s ∧ j = r ∧ lo ≤ s ∧ s ≤ r ∧ r ≤ hi ∧ (s = lo ∨ ∃ x y, xs[s - 1]? = some x ∧ xs[N - s]? = some y ∧ ltP y x = false) ∧ (r = hi ∨ ∃ x y, xs[r]? = some x ∧ xs[N - 1 - r]? = some y ∧ ltP y x = true) ∧ Fr (fun _ => False) w76 w', fun i j _ => j.toNat - i.toNat,
        ⟨lo, hi, rfl, rfl, Nat.le_refl _, q2, Nat.le_refl _, .inl rfl, .inl rfl, .refl _ _⟩, ?_⟩
      rintro i j w81 ⟨s, r, rfl, rfl, r1, r2, r3, hs1, hr1, hf⟩
      refine ⟨fun hlt => ⟨by decide, fun w82 d82 => ?_⟩, fun hge => ?_⟩
      · have hlt := of_decide_eq_true hlt
        rw [half_sel _ _ (by omega)]
        obtain ⟨c, hc⟩ : ∃ c, (s + r) / 2 = c := ⟨_, rfl⟩
        rw [hc]
        have e5 : IntKind.i64.wrap (((N - 1 : Nat) : Int) - (c : Int)) = ((N - 1 - c : Nat) : Int) := by rw [wrap_i64 (by omega) (by omega)]; omega
        have e6 : IntKind.i64.wrap ((c : Int) + 1) = ((c + 1 : Nat) : Int) := by rw [wrap_i64 (by omega) (by omega)]; omega
        rw [e5, e6]
        have hc1 : c < xs.length := by omega
        have hc2 : N - 1 - c < xs.length := by omega
        have hgx : xs[c]? = some xs[c] := List.getElem?_eq_getElem hc1
        have hgy : xs[N - 1 - c]? = some xs[N - 1 - c] := List.getElem?_eq_getElem hc2
        generalize xs[c] = x at hgx
        generalize xs[N - 1 - c] = y at hgy
        have ho82 := ho.keep (hf.trans' (.drew _ d82)) (by simp)
        rw [hxs] at ho82
        obtain ⟨ad, had, hly⟩ := load_at ho82 hgy
        obtain ⟨ad2, had2, hlx⟩ := load_at ho82 hgx
        refine ⟨fun w' => Fr (fun _ => False) w82 w', .refl _ _, ⟨by omega, by omega⟩, ad, had, ⟨by omega, by omega⟩, ad2, had2, y.path, y.data, by rw [Int.toNat_natCast]; exact hly, x.path, x.data, by rw [Int.toNat_natCast]; exact hlx, (sel3_spec y x w82).mono ?_⟩
        rintro e w93 ⟨z, rfl, hz, hf93⟩
        have hf' : Fr (fun _ => False) w76 w93 := (hf.trans' (.drew _ d82)).trans' hf93
        refine ⟨z, rfl, hf93, fun h => ⟨⟨c + 1, r, rfl, rfl, by omega, by omega, r3, .inr ⟨x, y, hgx, ?_, by rw [← hz]; simpa using h⟩, hr1, hf'⟩, by dsimp only; omega⟩, fun h => ⟨⟨s, c, rfl, rfl, r1, by omega, by omega, hs1, .inr ⟨x, y, hgx, hgy, by rw [← hz]; simpa using h⟩, hf'⟩, by dsimp only; omega⟩⟩
        rw [show N - (c + 1) = N - 1 - c by omega]; exact hgy
      · have hge := of_decide_eq_false hge
        have hsr : s = r := by omega
        subst hsr
        obtain ⟨s', rfl⟩ : ∃ s', s = P.length + s' := ⟨s - P.length, by omega⟩
        obtain ⟨t, ht⟩ : ∃ t, mid = P.length + s' + t := ⟨mid - (P.length + s'), by omega⟩
        have hs'A : s' ≤ A.length := by omega
        have htB : t ≤ B.length := by omega
        have hcut : mrg ltP A B = mrg ltP (A.take s') (B.take t) ++ mrg ltP (A.drop s') (B.drop t) := by
          refine mrg_cut ordP sA sB s' t ?_ ?_
          · by_cases h0 : P.length + s' = lo
            · rcases q5 with h | h
              · exact .inl (by omega)
              · exact .inr (.inl (by omega))
            · obtain ⟨x, y, hx, hy, hl⟩ := hs1.resolve_left h0
              refine .inr (.inr ⟨x, y, ?_, ?_, hl⟩)
              · rw [← hx, ← hxs, show P.length + s' - 1 = P.length + (s' - 1) by omega]; exact (get_A (by omega)).symm
              · rw [← hy, ← hxs, show N - (P.length + s') = P.length + A.length + t by omega]; exact (get_B (by omega)).symm
          · by_cases h0 : P.length + s' = hi
            · rcases q6 with h | h
              · exact .inl (by omega)
              · exact .inr (.inl (by omega))
            · obtain ⟨x, y, hx, hy, hl⟩ := hr1.resolve_left h0
              refine .inr (.inr ⟨x, y, ?_, ?_, hl⟩)
              · rw [← hx, ← hxs]; exact (get_A (by omega)).symm
              · rw [← hy, ← hxs, show N - 1 - (P.length + s') = P.length + A.length + (t - 1) by omega]; exact (get_B (by omega)).symm
        rw [hcut]
        have hsA1 := sA.take s'
        have hsA2 := sA.drop s'
        have hsB1 := sB.take t
        have hsB2 := sB.drop t
        have hAs : A = A.take s' ++ A.drop s' := (List.take_append_drop s' A).symm
        have hBs : B = B.take t ++ B.drop t := (List.take_append_drop t B).symm
        have hA1l : (A.take s').length = s' := by rw [List.length_take]; omega
        have hA2l : (A.drop s').length = A.length - s' := List.length_drop
        have hB1l : (B.take t).length = t := by rw [List.length_take]; omega
        have hB2l : (B.drop t).length = B.length - t := List.length_drop
        have ho81 := ho.keep hf (by simp)
        generalize A.take s' = A1 at *
        generalize A.drop s' = A2 at *
        generalize B.take t = B1 at *
        generalize B.drop t = B2 at *
        have e7 : IntKind.i64.wrap ((N : Int) - ((P.length + s' : Nat) : Int)) = ((P.length + A.length + t : Nat) : Int) := by rw [wrap_i64 (by omega) (by omega)]; omega
        rw [e7]
        rw [hAs, hBs] at ho81
        have key : ∀ w', OwnK encF 2 w' base T_api_File l (P ++ (mrg ltP A1 B1 ++ (A2 ++ (B2 ++ S)))) → Fr (At l) w76 w' →
            (decide ((mid : Int) < ((P.length + A.length + t : Nat) : Int)) = true → ((decide (((P.length + A.length + t : Nat) : Int) < ((P.length + A.length + B.length : Nat) : Int)) = true →
              Calls Tryz.prog F_slices_symMergeCmpFunc #[.slice l.a l.len l.cap, .int .i64 (mid : Int), .int .i64 ((P.length + A.length + t : Nat) : Int), .int .i64 ((P.length + A.length + B.length : Nat) : Int), .func (.func F_modzip_Select_3) #[] #[]] w' fun e w2 =>
                e = .returned (.tuple #[]) ∧ (Value.tuple #[] = .tuple #[] ∧ OwnK encF 2 w2 base T_api_File l (P ++ ((mrg ltP A1 B1 ++ mrg ltP A2 B2) ++ S)) ∧ Fr (At l) w76 w2)) ∧
              (decide (((P.length + A.length + t : Nat) : Int) < ((P.length + A.length + B.length : Nat) : Int)) = false → (Value.tuple #[] = .tuple #[] ∧ OwnK encF 2 w' base T_api_File l (P ++ ((mrg ltP A1 B1 ++ mrg ltP A2 B2) ++ S)) ∧ Fr (At l) w76 w')))) ∧
            (decide ((mid : Int) < ((P.length + A.length + t : Nat) : Int)) = false → (Value.tuple #[] = .tuple #[] ∧ OwnK encF 2 w' base T_api_File l (P ++ ((mrg ltP A1 B1 ++ mrg ltP A2 B2) ++ S)) ∧ Fr (At l) w76 w')) := by
          intro w' ho' hf'
          have hml : (mrg ltP A1 B1).length = s' + t := by rw [(mrg_perm ltP _ A1 B1 (Nat.le_refl _)).length_eq, List.length_append]; omega
          refine ⟨fun h => ⟨fun h' => ?_, fun h' => ⟨rfl, ?_, hf'⟩⟩, fun h => ⟨rfl, ?_, hf'⟩⟩
          · have h := of_decide_eq_true h
            have h' := of_decide_eq_true h'
            have hPl : (P ++ mrg ltP A1 B1).length = mid := by rw [List.length_append]; omega
            have := symMerge_sel n (P := P ++ mrg ltP A1 B1) (A := A2) (B := B2) (S := S) (by omega) (by simpa only [List.append_assoc] using ho') (by omega) (by omega) hsA2 hsB2 hs
            rw [hPl, show mid + A2.length = P.length + A.length + t by omega, show P.length + A.length + t + B2.length = P.length + A.length + B.length by omega] at this
            refine this.mono ?_
            rintro e w2 ⟨rfl, ho2, hf2⟩
            exact ⟨rfl, rfl, by simpa only [List.append_assoc] using ho2, hf'.trans hf2 fun q _ h => h⟩
          · have h' := of_decide_eq_false h'
            have : B2 = [] := List.eq_nil_of_length_eq_zero (by omega)
            subst this
            rw [mrg_nil']
            simpa only [List.append_assoc, List.nil_append] using ho'
          · have h := of_decide_eq_false h
            have : A2 = [] := List.eq_nil_of_length_eq_zero (by omega)
            subst this
            rw [mrg_nil]
            simpa only [List.append_assoc, List.nil_append] using ho'
        refine ⟨fun w' => OwnK encF 2 w' base T_api_File l (P ++ (A1 ++ (B1 ++ (A2 ++ (B2 ++ S))))) ∧ Fr (At l) w76 w', ⟨fun h => ⟨fun h' => ?_, fun h' => ⟨?_, hf.mono (by simp)⟩⟩, fun h => ⟨?_, hf.mono (by simp)⟩⟩, ?_⟩
        · have h := of_decide_eq_true h
          have h' := of_decide_eq_true h'
          have := rotate_sel (P := P ++ A1) (X := A2) (Y := B1) (S := B2 ++ S) (by simpa only [List.append_assoc] using ho81) (by omega) (by omega) hs
          rw [List.length_append, hA1l, show P.length + s' + A2.length = P.length + A.length by omega, hB1l] at this
          refine this.mono ?_
          rintro e w97 ⟨rfl, ho97, hf97⟩
          exact ⟨rfl, by simpa only [List.append_assoc] using ho97, (hf.mono (by simp)).trans hf97 fun q _ h => h⟩
        · have h' := of_decide_eq_false h'
          have : B1 = [] := List.eq_nil_of_length_eq_zero (by omega)
          subst this
          simpa only [List.append_assoc, List.nil_append] using ho81
        · have h := of_decide_eq_false h
          have : A2 = [] := List.eq_nil_of_length_eq_zero (by omega)
          subst this
          simpa only [List.append_assoc, List.nil_append] using ho81
        · rintro w98 ⟨ho98, hf98⟩
          refine ⟨fun h => ⟨fun h' => ?_, fun h' => ?_⟩, fun h => ?_⟩
          · have h := of_decide_eq_true h
            have h' := of_decide_eq_true h'
            have := symMerge_sel n (P := P) (A := A1) (B := B1) (S := A2 ++ (B2 ++ S)) (by omega) ho98 (by omega) (by omega) hsA1 hsB1 hs
            rw [hA1l, hB1l, ← ht] at this
            refine this.mono ?_
            rintro e w100 ⟨rfl, ho100, hf100⟩
            exact ⟨rfl, key w100 ho100 (hf98.trans hf100 fun q _ h => h)⟩
          · have h' := of_decide_eq_false h'
            have : B1 = [] := List.eq_nil_of_length_eq_zero (by omega)
            subst this
            refine key w98 ?_ hf98
            rw [mrg_nil']
            simpa only [List.append_assoc, List.nil_append] using ho98
          · have h := of_decide_eq_false h
            have : A1 = [] := List.eq_nil_of_length_eq_zero (by omega)
            subst this
            refine key w98 ?_ hf98
            rw [mrg_nil]
            simpa only [List.append_assoc, List.nil_append] using ho98
end
end Go.Proofs.YtfoeooddnmppnaaGreatDoor

/- slices.SortStableFunc over files, held against one another by Select's last closure. Condition: no more than a hundred thousand files. -/
set_option linter.unusedVariables false
namespace Go.Proofs.YtfoeooddnmppnaaGreatDoor
open Go Vc Go.Proofs StabM

section
variable {w : World} {base : Nat} {l : Sl}
/-- What a stable sort leaves. -/
theorem mrg_srt_sel {A B : List FileE} (hA : Srt ltP A) (hB : Srt ltP B) : Srt ltP (mrg ltP A B) := mrg_sorted ordP.tr ordP.asy _ A B (Nat.le_refl _) hA hB
theorem mrg_prm_sel (A B : List FileE) : (mrg ltP A B).Perm (A ++ B) := mrg_perm ltP _ A B (Nat.le_refl _)
theorem stable_sel {xs : List FileE} (ho : OwnK encF 2 w base T_api_File l xs) (hs : l.len ≤ 100000) :
    Calls Tryz.prog F_slices_SortStableFunc #[.slice l.a l.len l.cap, .func (.func F_modzip_Select_3) #[] #[]] w fun e w' =>
      e = .returned (.tuple #[]) ∧ ∃ ys : List FileE, OwnK encF 2 w' base T_api_File l ys ∧ ys.Perm xs ∧ Srt ltP ys ∧ (xs.length ≤ 20 → ys = isort ltP xs) ∧ Fr (At l) w w' := by
  obtain ⟨RR, hRR⟩ : ∃ RR : World → Prop, (fun w' => ∃ ys : List FileE, OwnK encF 2 w' base T_api_File l ys ∧ ys.Perm xs ∧ Srt ltP ys ∧ (xs.length ≤ 20 → ys = isort ltP xs) ∧ Fr (At l) w w') = RR := ⟨_, rfl⟩
  refine Calls.mono (R := fun e w' => e = .returned (.tuple #[]) ∧ RR w') ?_ (fun e w' h => by rw [← hRR] at h; exact h)
  refine vc_slices_SortStableFunc_sel_ok (R := fun v w' => v = .tuple #[] ∧ RR w') ?_ (fun v w' h => ⟨by rw [h.1], h.2⟩)
  refine Calls.mono (R := fun e w' => e = .returned (.tuple #[]) ∧ RR w') ?_ (fun e w' h => ⟨h.1, rfl, h.2⟩)
  refine vc_slices_stableCmpFunc_sel_ok (R := fun v w' => v = .tuple #[] ∧ RR w') ?_ (fun v w' h => ⟨by rw [h.1], h.2⟩)
  have hlen := ho.len
  refine ⟨fun a b w' => ∃ P Q : List FileE, OwnK encF 2 w' base T_api_File l (P ++ Q) ∧ (P ++ Q).Perm xs ∧ Fl ltP 20 P ∧ a = (P.length : Int) ∧ b = ((P.length + 20 : Nat) : Int) ∧ (P = [] ∧ Q = xs ∨ 20 ≤ P.length ∧ (P.length = 20 → P = isort ltP (xs.take 20))) ∧ Fr (At l) w w', fun a b _ => 2000000 - b.toNat,
    ⟨[], xs, ho, .refl _, .nil, rfl, rfl, .inl ⟨rfl, rfl⟩, .refl _ _⟩, ?_⟩
  rintro a b w5 ⟨P, Q, ho5, hp5, hfl, rfl, rfl, hc, hf⟩
  have hpl := hp5.length_eq
  have hl5 := ho5.len
  rw [List.length_append] at hpl hl5
  refine ⟨fun hlt => ?_, fun hge => ?_⟩
  · have hlt := of_decide_eq_true hlt
    have hQ : Q = Q.take 20 ++ Q.drop 20 := (List.take_append_drop 20 Q).symm
    have hQl : (Q.take 20).length = 20 := by rw [List.length_take]; omega
    have hc2 : P = [] → Q.take 20 = xs.take 20 := fun h => by
      rcases hc with ⟨_, h2⟩ | ⟨h2, _⟩
      · rw [h2]
      · rw [h] at h2; simp at h2
    generalize Q.take 20 = A at *
    generalize Q.drop 20 = D at *
    rw [hQ] at ho5 hp5 hl5
    have := insertion_sel (P := P) (A := A) (S := D) ho5 (by omega)
    rw [hQl] at this
    refine this.mono ?_
    rintro e w7 ⟨rfl, ho7, hf7⟩
    obtain ⟨hso, hpe⟩ := isort_all ordP.tr ordP.asy _ A rfl
    have hil : (isort ltP A).length = 20 := by rw [hpe.length_eq, hQl]
    have e1 : IntKind.i64.wrap (((P.length + 20 : Nat) : Int) + 20) = ((P.length + 20 + 20 : Nat) : Int) := by rw [wrap_i64 (by omega) (by omega)]; omega
    have hPl : (P ++ isort ltP A).length = P.length + 20 := by rw [List.length_append, hil]
    rw [e1]
    refine ⟨rfl, ⟨P ++ isort ltP A, D, by rw [List.append_assoc]; exact ho7, ?_, .snoc _ _ hfl hil hso, by rw [hPl], by rw [hPl], .inr ⟨by omega, fun h => ?_⟩, hf.trans hf7 fun q _ h => h⟩, by dsimp only; omega⟩
    · refine List.Perm.trans ?_ hp5
      rw [List.append_assoc]
      exact (hpe.append_right D).append_left P
    · have hP0 : P = [] := List.eq_nil_of_length_eq_zero (by omega)
      rw [hP0, List.nil_append, hc2 hP0]
  · have hge := of_decide_eq_false hge
    have hn : (l.len : Int) = ((P.length + Q.length : Nat) : Int) := by omega
    have := insertion_sel (P := P) (A := Q) (S := []) (by simpa using ho5) (by omega)
    rw [← hn] at this
    refine this.mono ?_
    rintro e w9 ⟨rfl, ho9, hf9⟩
    obtain ⟨hso, hpe⟩ := isort_all ordP.tr ordP.asy _ Q rfl
    rw [List.append_nil] at ho9
    have hil : (isort ltP Q).length = Q.length := hpe.length_eq
    refine ⟨rfl, fun b w' => ∃ m : Nat, b = (m : Int) ∧ 20 ≤ m ∧ m ≤ 2 * l.len + 20 ∧ ∃ ys : List FileE, OwnK encF 2 w' base T_api_File l ys ∧ ys.Perm xs ∧ Bl ltP m ys ∧ (xs.length ≤ 20 → ys = isort ltP xs) ∧ Fr (At l) w w', fun b _ => 4000000 - b.toNat,
      ⟨20, rfl, Nat.le_refl _, by omega, P ++ isort ltP Q, ho9, (hpe.append_left P).trans hp5, hfl.bl (.last _ (by omega) hso), fun h => ?_, hf.trans hf9 fun q _ h => h⟩, ?_⟩
    · rcases hc with ⟨h1, h2⟩ | ⟨h1, h2⟩
      · rw [h1, h2, List.nil_append]
      · have hQ0 : Q = [] := List.eq_nil_of_length_eq_zero (by omega)
        rw [hQ0, h2 (by omega), List.take_of_length_le h]
        exact List.append_nil _
    · clear hc hfl hso hpe hil this
      rintro b w13 ⟨m, rfl, hm1, hm2, ys, ho13, hp13, hbl, hst, hf13⟩
      have hyl := hp13.length_eq
      refine ⟨fun hlt => ?_, fun hge => ⟨rfl, ?_⟩⟩
      · have hlt := of_decide_eq_true hlt
        have e2 : IntKind.i64.wrap (2 * (m : Int)) = ((2 * m : Nat) : Int) := by rw [wrap_i64 (by omega) (by omega)]; omega
        have e3 : IntKind.i64.wrap ((m : Int) * 2) = ((2 * m : Nat) : Int) := by rw [wrap_i64 (by omega) (by omega)]; omega
        rw [e2, e3]
        refine ⟨fun a b w' => ∃ P Q : List FileE, OwnK encF 2 w' base T_api_File l (P ++ Q) ∧ (P ++ Q).Perm xs ∧ Fl ltP (2 * m) P ∧ Bl ltP m Q ∧ a = (P.length : Int) ∧ b = ((P.length + 2 * m : Nat) : Int) ∧ Fr (At l) w w', fun a b _ => 2000000 - b.toNat,
          ⟨[], ys, ho13, hp13, .nil, hbl, rfl, by simp, hf13⟩, ?_⟩
        rintro a b w18 ⟨P, Q, ho18, hp18, hfl, hbl, rfl, rfl, hf18⟩
        have hpl := hp18.length_eq
        rw [List.length_append] at hpl
        have e4 : IntKind.i64.wrap ((P.length : Int) + (m : Int)) = ((P.length + m : Nat) : Int) := by rw [wrap_i64 (by omega) (by omega)]; omega
        rw [e4]
        refine ⟨fun hlt2 => ?_, fun hge2 => ⟨fun hlt3 => ?_, fun hge3 => ?_⟩⟩
        · have hlt2 := of_decide_eq_true hlt2
          obtain ⟨A, R, rfl, hAl, hsA, hbR⟩ := hbl.cut (by omega)
          rw [List.length_append] at hpl
          obtain ⟨B, D, rfl, hBl, hsB, hbD⟩ := hbR.cut (by omega)
          rw [List.length_append] at hpl
          have := symMerge_sel _ (P := P) (A := A) (B := B) (S := D) (Nat.le_refl _) ho18 (by omega) (by omega) hsA hsB (by omega)
          rw [hAl, show P.length + m + B.length = P.length + 2 * m by omega] at this
          refine this.mono ?_
          rintro e w20 ⟨rfl, ho20, hf20⟩
          have hml : (mrg ltP A B).length = 2 * m := by rw [(mrg_prm_sel A B).length_eq, List.length_append]; omega
          have e5 : IntKind.i64.wrap (((P.length + 2 * m : Nat) : Int) + ((2 * m : Nat) : Int)) = ((P.length + 2 * m + 2 * m : Nat) : Int) := by rw [wrap_i64 (by omega) (by omega)]; omega
          rw [e5]
          have hPl : (P ++ mrg ltP A B).length = P.length + 2 * m := by rw [List.length_append, hml]
          refine ⟨rfl, ⟨P ++ mrg ltP A B, D, by rw [List.append_assoc]; exact ho20, ?_, .snoc _ _ hfl hml (mrg_srt_sel hsA hsB), hbD, by rw [hPl], by rw [hPl], hf18.trans hf20 fun q _ h => h⟩, by dsimp only; omega⟩
          refine List.Perm.trans ?_ hp18
          rw [List.append_assoc, ← List.append_assoc A]
          exact ((mrg_prm_sel A B).append_right D).append_left P
        · have hge2 := of_decide_eq_false hge2
          have hlt3 := of_decide_eq_true hlt3
          obtain ⟨A, R, rfl, hAl, hsA, hbR⟩ := hbl.cut (by omega)
          rw [List.length_append] at hpl
          have hsR := hbR.short (by omega)
          have := symMerge_sel _ (P := P) (A := A) (B := R) (S := []) (Nat.le_refl _) (by simpa using ho18) (by omega) (by omega) hsA hsR (by omega)
          rw [hAl, show P.length + m + R.length = l.len by omega] at this
          refine this.mono ?_
          rintro e w22 ⟨rfl, ho22, hf22⟩
          rw [List.append_nil] at ho22
          have hml : (mrg ltP A R).length = m + R.length := by rw [(mrg_prm_sel A R).length_eq, List.length_append]; omega
          exact ⟨rfl, ⟨2 * m, rfl, by omega, by omega, P ++ mrg ltP A R, ho22, ((mrg_prm_sel A R).append_left P).trans hp18, hfl.bl (.last _ (by omega) (mrg_srt_sel hsA hsR)), fun h => by omega, hf18.trans hf22 fun q _ h => h⟩, by dsimp only; omega⟩
        · have hge2 := of_decide_eq_false hge2
          have hge3 := of_decide_eq_false hge3
          have hsQ := hbl.short (by omega)
          exact ⟨⟨2 * m, rfl, by omega, by omega, P ++ Q, ho18, hp18, hfl.bl (.last _ (by omega) hsQ), fun h => by omega, hf18⟩, by dsimp only; omega⟩
      · have hge := of_decide_eq_false hge
        rw [← hRR]
        exact ⟨ys, ho13, hp13, hbl.short (by omega), hst, hf13⟩
end
end Go.Proofs.YtfoeooddnmppnaaGreatDoor

/- modzip.Select: which files are a module's. Conditions: at most ten thousand items, paths below four gigabytes, contents of at most a hundred thousand bytes. -/
set_option linter.unusedVariables false
namespace Go.Proofs.YtfoeooddnmppnaaGreatDoor
open Go Vc Go.Proofs StabM

def dirOK (dir : ByteArray) : Bool := decide (dir.size = 0) || cleanB dir
/-- What Select hands back. -/
def SelR (w : World) (xs : List ItE) (dir : ByteArray) (v : Value) (w' : World) : Prop := Fr (fun _ => False) w w' ∧
  ((dirOK dir = false ∧ v = .tuple #[.slice none 0 0, .int .i64 4]) ∨ (dirOK dir = true ∧ ∃ ys : List FileE, ys.Perm (selE xs dir) ∧ Srt ltP ys ∧
    ((chkE ys ≠ 0 ∧ v = .tuple #[.slice none 0 0, .int .i64 (chkE ys)]) ∨ (chkE ys = 0 ∧ ∃ l : Sl, v = .tuple #[.slice l.a l.len l.cap, .int .i64 0] ∧ OwnK encF 2 w' w.heap.size T_api_File l ys))))
theorem boxI_run (w : World) (x : ItE) : (storeVar T_modzip_Item ⟨w.heap.size, 0, none⟩ (.agg #[.string x.path, .int .i64 x.mode, .string x.data])).run Tryz.prog (w.alloc (.cells #[.string ⟨#[]⟩, .int .i64 0, .string ⟨#[]⟩] T_modzip_Item)) = .ok () (w.alloc (.cells (encI x).toArray T_modzip_Item)) :=
  run_storeVar_new w T_modzip_Item _ _ (by kernel_rfl) rfl (by simp [Value.oneCell'])
theorem boxI_load {w : World} {g : Nat} {x : ItE} (h : w.heap[g]? = some (.cells (encI x).toArray T_modzip_Item (0, 0))) : (loadVar T_modzip_Item ⟨g, 0, none⟩).run Tryz.prog w = .ok (.agg #[.string x.path, .int .i64 x.mode, .string x.data]) w :=
  load_agg (vs := encI x) (agg_of (by kernel_rfl)) (by kernel_rfl) fun k v hv => by rw [add_lit, Nat.zero_add, cell_blk h]; simpa [encI] using hv
theorem totalF_bound {B : Nat} : ∀ ys : List FileE, (∀ f ∈ ys, f.data.size ≤ B) → totalF ys ≤ ys.length * B
  | [], _ => Nat.zero_le _
  | y :: r, h => by
    have ih := totalF_bound r fun f hf => h f (List.mem_cons_of_mem _ hf)
    have h1 := h y List.mem_cons_self
    unfold totalF at *
    rw [List.map_cons, List.sum_cons, List.length_cons, Nat.succ_mul]; omega
theorem cutPre_size (s t : ByteArray) : (cutPre s t).size ≤ s.size := by
  unfold cutPre; split
  · rw [ByteArray.size_extract]; omega
  · exact Nat.le_refl _
theorem sel_sizes {xs : List ItE} {dir : ByteArray} {P B : Nat} (hP : 7 ≤ P) (h1 : ∀ x ∈ xs, x.path.size ≤ P) (h2 : ∀ x ∈ xs, x.data.size ≤ B) : ∀ f ∈ selE xs dir, f.path.size ≤ P ∧ f.data.size ≤ B := fun f hf => by
  rcases sel_mem hf with h | h
  · obtain ⟨x, hx, _, rfl⟩ := take_mem h
    exact ⟨Nat.le_trans (cutPre_size _ _) (h1 x hx), h2 x hx⟩
  · obtain ⟨x, hx, _, rfl⟩ := lic_mem h
    exact ⟨hP, h2 x hx⟩
/-- What the loop knows of the licence. -/
def LicOK (xs : List ItE) (k : Nat) (z : Int) : Prop := (z = -1 ∧ (xs.take k).find? isLic = none) ∨ ∃ (i : Nat) (x : ItE), z = (i : Int) ∧ xs[i]? = some x ∧ (xs.take k).find? isLic = some x
theorem LicOK.no {xs : List ItE} {k : Nat} {z : Int} (h : LicOK xs k z) {x : ItE} (hx : xs[k]? = some x) (hl : isLic x = false) : LicOK xs (k + 1) z := by
  have e : (xs.take (k + 1)).find? isLic = (xs.take k).find? isLic := by rw [List.take_add_one, hx, List.find?_append]; simp [hl]
  unfold LicOK; rw [e]; exact h
theorem LicOK.first {xs : List ItE} {k : Nat} {z : Int} (h : LicOK xs k z) {x : ItE} (hx : xs[k]? = some x) (hl : isLic x = true) (hz : z < 0) : LicOK xs (k + 1) k := by
  rcases h with ⟨_, h⟩ | ⟨i, y, h, _⟩
  · refine .inr ⟨k, x, rfl, hx, ?_⟩
    rw [List.take_add_one, hx, List.find?_append, h]; simp [hl]
  · omega
theorem LicOK.more {xs : List ItE} {k : Nat} {z : Int} (h : LicOK xs k z) {x : ItE} (hx : xs[k]? = some x) (hz : ¬ z < 0) : LicOK xs (k + 1) z := by
  rcases h with ⟨h, _⟩ | ⟨i, y, h, h1, h2⟩
  · omega
  · refine .inr ⟨i, y, h, h1, ?_⟩
    rw [List.take_add_one, hx, List.find?_append, h2]; rfl
theorem flat_step {α β : Type} {xs : List α} {k : Nat} {x : α} (hx : xs[k]? = some x) (f : α → List β) : (xs.take (k + 1)).flatMap f = (xs.take k).flatMap f ++ f x := by
  rw [List.take_add_one, hx, List.flatMap_append]; simp
set_option maxHeartbeats 1600000 in
theorem select_spec {w : World} {a : Option Addr} {n c : Nat} {xs : List ItE} (hr : ReadsK encI 3 w a xs) (hn : xs.length = n) (hl : n ≤ 10000) {dir : ByteArray} (hp : ∀ x ∈ xs, x.path.size ≤ 4294967000) (hd : ∀ x ∈ xs, x.data.size ≤ 100000) (hdir : dir.size ≤ 140737488355328) (hm : MaxL w) :
    Calls Tryz.prog F_modzip_Select #[.slice a n c, .string dir] w fun e w' => ∃ v, e = .returned v ∧ SelR w xs dir v w' := by
  refine vc_modzip_Select_ok (R := SelR w xs dir) ?_ (fun v w' h => ⟨v, rfl, h⟩)
  have hdne : ∀ b : Bool, (!ByteArray.toList dir == ByteArray.toList ⟨#[]⟩) = b → decide (dir.size = 0) = !b := fun b h => by
    rw [bs_eq] at h
    rw [← h, Bool.not_not]
    exact decide_eq_decide.2 bs_empty.symm
  refine ⟨fun w' => dirOK dir = true ∧ Fr (fun _ => False) w w', ⟨fun h => ?_, fun h => ⟨by unfold dirOK; rw [hdne _ h]; rfl, .refl _ _⟩⟩, ?_⟩
  · refine (clean_spec dir hdir w).mono ?_
    rintro e w3 ⟨rfl, hf3⟩
    refine ⟨_, rfl, fun hc => ⟨hf3, .inl ⟨?_, rfl⟩⟩, fun hc => ⟨?_, hf3⟩⟩
    · unfold dirOK; rw [hdne _ h]; simpa using hc
    · have hc : cleanB dir = true := by simpa using hc
      unfold dirOK; rw [hc, Bool.or_true]
  rintro w5 ⟨hok, hf5⟩
  obtain ⟨front, hfr⟩ : ∃ front, frontOf dir = front := ⟨_, rfl⟩
  refine ⟨fun s w' => s = front ∧ Fr (fun _ => False) w w', ⟨fun h => ⟨?_, ?_, hf5⟩, fun h => ⟨?_, hf5⟩⟩, ?_⟩
  · show dir.size + 1 ≤ 9223372036854775807
    omega
  · rw [← hfr]; unfold frontOf; rw [if_neg (of_decide_eq_false (hdne _ h))]
  · rw [← hfr]; unfold frontOf; rw [if_pos (of_decide_eq_true (hdne _ h))]
  rintro s7 w8 ⟨rfl, hf8⟩ w9 h9
  obtain ⟨b, hb⟩ : ∃ b, w8.heap.size = b := ⟨_, rfl⟩
  have hwb : w.heap.size ≤ b := hb ▸ hf8.size
  have hf9 : Fr (fun _ => False) w w9 := by rw [h9]; exact hf8.trans' (.alloc _ _ _)
  have hs9 : w9.heap.size = b + 1 := by rw [h9]; simp [hb]
  have hn9 : NestAt w9 b [] ⟨none, 0, 0⟩ := ⟨by rw [h9, ← hb]; exact alloc_new _ _, .nil _ _ _⟩
  rw [hb]
  clear h9 hb
  have hlen : xs.length ≤ 10000 := by omega
  refine ⟨fun i w' => ∃ k : Nat, i = k ∧ k ≤ xs.length ∧ (∃ l, NestAt w' b ((xs.take k).flatMap (nestE s7)) l) ∧ b + 1 ≤ w'.heap.size ∧ Fr (fun _ => False) w w', fun i _ => xs.length - i.toNat, ⟨0, rfl, Nat.zero_le _, ⟨_, hn9⟩, by omega, hf9⟩, ?_⟩
  clear hf9 hn9 hs9 hf5 hf8
  rintro i w13 ⟨k, rfl, hk, ⟨l, hN⟩, hs13, hf⟩
  refine ⟨fun hlt => ?_, fun hge => ?_⟩
  · have hlt := of_decide_eq_true hlt
    have hkl : k < xs.length := by omega
    have hx : xs[k]? = some xs[k] := List.getElem?_eq_getElem hkl
    generalize xs[k] = x at hx
    have hxm := List.mem_of_getElem? hx
    have hpx := hp x hxm
    obtain ⟨ad, had, hld⟩ := ((hr.keep hf (by simp)).load elI hx)
    have e1 : IntKind.i64.wrap ((k : Int) + 1) = ((k + 1 : Nat) : Int) := by rw [wrap_i64 (by omega) (by omega)]; omega
    rw [e1]
    have hfs := flat_step hx (nestE s7)
    refine ⟨⟨by omega, by omega⟩, ad, had, x.path, x.mode, x.data, by rw [Int.toNat_natCast]; exact hld, fun w18 h18 => ?_⟩
    subst h18
    have hfb : Fr (fun _ => False) w13 (w13.alloc (.cells (encI x).toArray T_modzip_Item)) := .alloc _ _ _
    have hbb : (w13.alloc (.cells (encI x).toArray T_modzip_Item)).heap[w13.heap.size]? = some (.cells (encI x).toArray T_modzip_Item (0, 0)) := alloc_new _ _
    have hskip : isNest s7 x = false → ∀ w', Fr (fun _ => False) (w13.alloc (.cells (encI x).toArray T_modzip_Item)) w' → (∃ k' : Nat, ((k + 1 : Nat) : Int) = k' ∧ k' ≤ xs.length ∧ (∃ l, NestAt w' b ((xs.take k').flatMap (nestE s7)) l) ∧ b + 1 ≤ w'.heap.size ∧ Fr (fun _ => False) w w') ∧ xs.length - ((k + 1 : Nat) : Int).toNat < xs.length - ((k : Int)).toNat := fun hi w' hw' => by
      refine ⟨⟨k + 1, rfl, by omega, ⟨l, ?_⟩, by have := (hfb.trans' hw').size; omega, (hf.trans' hfb).trans' hw'⟩, by omega⟩
      rw [hfs]
      unfold nestE
      rw [if_neg (by rw [hi]; decide), List.append_nil]
      exact hN.keep (hfb.trans' hw') (by simp) (by simp)
    have hout : ∀ w', Fr (fun _ => False) (w13.alloc (.cells (encI x).toArray T_modzip_Item)) w' → w'.heap[w13.heap.size]? = some (.cells (encI x).toArray T_modzip_Item (0, 0)) := fun w' hw' => hw'.keep hbb (by simp)
    refine ⟨_, boxI_run w13 x, x.path, by rw [cell_blk hbb]; rfl, (cutPrefix_spec x.path s7 _).mono ?_⟩
    rintro e w22 ⟨rfl, hw22⟩
    replace hw22 := hw22.symm
    subst hw22
    refine ⟨_, _, rfl, fun hbg => ⟨x.path, x.mode, x.data, boxI_load hbb, (plain_spec x _).mono ?_⟩, fun hbg => hskip (by unfold isNest okI; rw [hbg]; rfl) _ (.refl _ _)⟩
    rintro e w29 ⟨rfl, hf29⟩
    refine ⟨_, rfl, fun hpl => (suffix_spec (cutPre x.path s7) sMod2 (by have := cutPre_size x.path s7; omega) w29).mono ?_, fun hpl => hskip (by unfold isNest okI; rw [hbg, hpl]; rfl) _ hf29⟩
    rintro e w32 ⟨rfl, hw32⟩
    replace hw32 := hw32.symm
    subst hw32
    refine ⟨_, rfl, fun hsf w34 d34 => ?_, fun hsf => hskip (by unfold isNest; rw [hsf, Bool.and_false]) _ hf29⟩
    have hnest : isNest s7 x = true := by unfold isNest okI; rw [hbg, hpl, hsf]; rfl
    have hf34 : Fr (fun _ => False) w13 w34 := (hfb.trans' hf29).trans' (.drew _ d34)
    have hN34 := hN.keep hf34 (by simp) (by simp)
    have hc34 : w34.cell? ⟨b, 0, none⟩ = some (.slice l.a l.len l.cap) := by rw [cell_blk hN34.box]; rfl
    refine ⟨fun w' => w'.cell? ⟨b, 0, none⟩ = some (.slice l.a l.len l.cap), hc34, l, fun w' h => h, (trimSuffix_spec (cutPre x.path s7) sMod (by have := cutPre_size x.path s7; omega) w34).mono ?_⟩
    rintro e w39 ⟨rfl, hw39⟩
    replace hw39 := hw39.symm
    subst hw39
    refine ⟨_, rfl, hc34, fun w41 h41 => ?_⟩
    have hf41 : Fr (fun _ => False) w34 w41 := by rw [h41]; exact .alloc _ _ _
    have hs34 : b + 1 ≤ w34.heap.size := by have := hf34.size; omega
    have hnl : ((xs.take k).flatMap (nestE s7)).length ≤ 1000000 := by
      have : ∀ ys : List ItE, (ys.flatMap (nestE s7)).length ≤ ys.length := fun ys => by
        induction ys with
        | nil => exact Nat.le_refl _
        | cons y r ih =>
          have : (nestE s7 y).length ≤ 1 := by unfold nestE; split <;> simp
          rw [List.flatMap_cons, List.length_append, List.length_cons]; omega
      have h1 := this (xs.take k)
      rw [List.length_take] at h1; omega
    obtain ⟨w42, l43, hr42, ho42, hf42, _⟩ := append_one' elString hN34.own (v := .string (cutSuf (cutPre x.path s7) sMod)) rfl (by simp only [strV, List.length_map, maxLen]; omega) (by simp only [strV, List.length_map]; omega) hs34 h41
    have hb42 : w42.heap[b]? = some (.cells #[.slice l.a l.len l.cap] T_S_string (0, 0)) := hf42.keep hN34.box fun ⟨y, hy, e⟩ => by have := (hN34.own.blk hy).1; omega
    have hc42 : w42.cell? ⟨b, 0, none⟩ = some (.slice l.a l.len l.cap) := by rw [cell_blk hb42]; rfl
    refine ⟨hf41.cell hc34 (by simp), w42, l43, hr42, hc42, wr_blk hb42 (by simp), fun w44 h44 => ?_⟩
    have hf44 : Fr (· = b) w42 w44 := by rw [h44]; exact .set _ _ _ rfl
    have hb44 : w44.heap[b]? = some (.cells #[.slice l43.a l43.len l43.cap] T_S_string (0, 0)) := by rw [h44]; exact set_blk hb42 0 _
    refine ⟨⟨k + 1, rfl, by omega, ⟨l43, hb44, ?_⟩, by have h1 := hf42.size; have h2 := hf44.size; omega, ?_⟩, by dsimp only; omega⟩
    · rw [hfs]
      have : nestE s7 x = [cutSuf (cutPre x.path s7) sMod] := by unfold nestE; rw [if_pos hnest]
      rw [this]
      refine Vc.Own.keep ?_ hf44 fun y hy e => by have := (ho42.blk hy).1; omega
      simpa [strV] using ho42
    · refine ((hf.trans' hf34).trans hf42 fun q hq ⟨y, hy, e⟩ => ?_).trans hf44 fun q hq e => ?_
      · have := (hN34.own.blk hy).1; omega
      · omega
  · have hge := of_decide_eq_false hge
    have hk' : k = xs.length := by omega
    rw [hk', List.take_length] at hN
    clear hk hge hk'
    obtain ⟨ns, hns⟩ : ∃ ns, xs.flatMap (nestE s7) = ns := ⟨_, rfl⟩
    rw [hns] at hN
    have hnl : ns.length ≤ 1000000 := by
      have : ∀ ys : List ItE, (ys.flatMap (nestE s7)).length ≤ ys.length := fun ys => by
        induction ys with
        | nil => exact Nat.le_refl _
        | cons y r ih =>
          have : (nestE s7 y).length ≤ 1 := by unfold nestE; split <;> simp
          rw [List.flatMap_cons, List.length_append, List.length_cons]; omega
      have h1 := this xs
      rw [hns] at h1; omega
    obtain ⟨B, hB⟩ : ∃ B, w13.heap.size = B := ⟨_, rfl⟩
    have hwB : w.heap.size ≤ B := hB ▸ hf.size
    have hsz := sel_sizes (dir := dir) (P := 4294967000) (B := 100000) (by decide) hp hd
    have hlenS := sel_len xs dir
    have hbody : bodyE xs (frontOf dir) = xs.flatMap (takeE ns s7) := by unfold bodyE; rw [hfr, hns]
    -- the end of all ways
    have fin : ∀ (w' : World) (l' : Sl) (zs : List FileE), zs = selE xs dir → OwnK encF 2 w' B T_api_File l' zs → Fr (fun _ => False) w w' →
        Calls Tryz.prog F_slices_SortStableFunc #[.slice l'.a l'.len l'.cap, .func (.func F_modzip_Select_3) #[] #[]] w' fun e w2 => e = .returned (.tuple #[]) ∧
          Calls Tryz.prog F_modzip_check #[.slice l'.a l'.len l'.cap] w2 fun e w3 => ∃ z : Int, e = .returned (.int .i64 z) ∧
            ((z != 0) = true → SelR w xs dir (.tuple #[.slice none 0 0, .int .i64 z]) w3) ∧ ((z != 0) = false → SelR w xs dir (.tuple #[.slice l'.a l'.len l'.cap, .int .i64 0]) w3) := by
      intro w' l' zs hz ho' hf'
      have hl' := ho'.len
      rw [hz] at hl' ho'
      refine (stable_sel ho' (by omega)).mono ?_
      rintro e w2 ⟨rfl, ys, ho2, hp2, hs2, _, hf2⟩
      have hyl := hp2.length_eq
      have hysz : ∀ y ∈ ys, y.path.size ≤ 4294967000 ∧ y.data.size ≤ 100000 := fun y hy => hsz y (hp2.subset hy)
      have ht := totalF_bound (B := 100000) ys fun f hf => (hysz f hf).2
      have hf2' : Fr (fun _ => False) w w2 := hf'.trans hf2 fun q hq ⟨y, hy, e⟩ => by have := (ho'.blk hy).1; omega
      refine ⟨rfl, (check_spec (ho2.reads fun _ => rfl) (ho2.len.symm) (by omega) (fun y hy => Nat.le_trans (hysz y hy).1 (by decide)) (by omega)).mono ?_⟩
      rintro e w3 ⟨rfl, hf3⟩
      refine ⟨_, rfl, fun h => ⟨hf2'.trans' hf3, .inr ⟨hok, ys, hp2, hs2, .inl ⟨by simpa using h, rfl⟩⟩⟩, fun h => ⟨hf2'.trans' hf3, .inr ⟨hok, ys, hp2, hs2, .inr ⟨by simpa using h, l', rfl, ?_⟩⟩⟩⟩
      exact (ho2.keep hf3 (by simp)).mono hwB
    refine ⟨fun l' z i w' => ∃ k : Nat, i = k ∧ k ≤ xs.length ∧ OwnK encF 2 w' B T_api_File l' ((xs.take k).flatMap (takeE ns s7)) ∧ NestAt w' b ns l ∧ LicOK xs k z ∧ B ≤ w'.heap.size ∧ Fr (fun _ => False) w w', fun l' z i _ => xs.length - i.toNat,
      ⟨0, rfl, Nat.zero_le _, .nil _ _ _, hN, .inl ⟨rfl, rfl⟩, by omega, hf⟩, ?_⟩
    have hNl : ∀ y, l.a = some y → y.block < B := fun y hy => hB ▸ (hN.own.blk hy).2
    have hbB : b < B := by omega
    clear hN hf
    rintro l' z i w50 ⟨k, rfl, hk, ho, hN, hlic, hs50, hf⟩
    refine ⟨fun hlt => ?_, fun hge => ?_⟩
    · have hlt := of_decide_eq_true hlt
      have hkl : k < xs.length := by omega
      have hx : xs[k]? = some xs[k] := List.getElem?_eq_getElem hkl
      generalize xs[k] = x at hx
      have hxm := List.mem_of_getElem? hx
      have hpx := hp x hxm
      obtain ⟨ad, had, hld⟩ := ((hr.keep hf (by simp)).load elI hx)
      have e1 : IntKind.i64.wrap ((k : Int) + 1) = ((k + 1 : Nat) : Int) := by rw [wrap_i64 (by omega) (by omega)]; omega
      rw [e1]
      have hfs := flat_step hx (takeE ns s7)
      refine ⟨⟨by omega, by omega⟩, ad, had, x.path, x.mode, x.data, by rw [Int.toNat_natCast]; exact hld, fun w55 h55 => ?_⟩
      subst h55
      obtain ⟨w56, hw56⟩ : ∃ w56, w50.alloc (.cells (encI x).toArray T_modzip_Item) = w56 := ⟨_, rfl⟩
      have hfb : Fr (fun _ => False) w50 w56 := by rw [← hw56]; exact .alloc _ _ _
      have hbb : ∀ w', Fr (fun _ => False) w56 w' → w'.heap[w50.heap.size]? = some (.cells (encI x).toArray T_modzip_Item (0, 0)) := fun w' hw' => hw'.keep (by rw [← hw56]; exact alloc_new _ _) (by simp)
      have hpath : ∀ w', Fr (fun _ => False) w56 w' → w'.cell? ⟨w50.heap.size, 0, none⟩ = some (.string x.path) := fun w' hw' => by rw [cell_blk (hbb w' hw')]; rfl
      refine ⟨w56, by rw [← hw56]; exact boxI_run w50 x, fun z' w' => LicOK xs (k + 1) z' ∧ Fr (fun _ => False) w56 w', ⟨x.path, hpath _ (.refl _ _), fun h => ⟨x.path, x.mode, x.data, boxI_load (hbb _ (.refl _ _)), (plain_spec x _).mono ?_⟩, fun h => ⟨hlic.no hx ?_, .refl _ _⟩⟩, ?_⟩
      · rintro e w63 ⟨rfl, hf63⟩
        rw [bs_eq] at h
        have h : x.path = sLic := of_decide_eq_true h
        refine ⟨_, rfl, fun hpl => ⟨fun hz => ⟨hlic.first hx ?_ (of_decide_eq_true hz), hf63⟩, fun hz => ⟨hlic.more hx (of_decide_eq_false hz), hf63⟩⟩, fun hpl => ⟨hlic.no hx ?_, hf63⟩⟩
        · unfold isLic; rw [decide_eq_true h, hpl]; rfl
        · unfold isLic; rw [hpl, Bool.and_false]
      · rw [bs_eq] at h
        have h : ¬ x.path = sLic := of_decide_eq_false h
        unfold isLic; rw [decide_eq_false h]; rfl
      rintro z' w66 ⟨hlic', hf66⟩
      have hskip : isTake ns s7 x = false → ∀ w', Fr (fun _ => False) w56 w' → (∃ k' : Nat, ((k + 1 : Nat) : Int) = k' ∧ k' ≤ xs.length ∧ OwnK encF 2 w' B T_api_File l' ((xs.take k').flatMap (takeE ns s7)) ∧ NestAt w' b ns l ∧ LicOK xs k' z' ∧ B ≤ w'.heap.size ∧ Fr (fun _ => False) w w') ∧ xs.length - ((k + 1 : Nat) : Int).toNat < xs.length - ((k : Int)).toNat := fun hi w' hw' => by
        refine ⟨⟨k + 1, rfl, by omega, ?_, hN.keep (hfb.trans' hw') (by simp) (by simp), hlic', by have := (hfb.trans' hw').size; omega, (hf.trans' hfb).trans' hw'⟩, by omega⟩
        rw [hfs]
        have : takeE ns s7 x = [] := by unfold takeE; rw [if_neg (by rw [hi]; decide)]
        rw [this, List.append_nil]
        exact ho.keep (hfb.trans' hw') (by simp)
      refine ⟨x.path, hpath _ hf66, (cutPrefix_spec x.path s7 _).mono ?_⟩
      rintro e w69 ⟨rfl, hw69⟩
      replace hw69 := hw69.symm
      subst hw69
      refine ⟨_, _, rfl, fun hbg => ⟨x.path, x.mode, x.data, boxI_load (hbb _ hf66), (plain_spec x _).mono ?_⟩, fun hbg => hskip (by unfold isTake okI; rw [hbg]; rfl) _ hf66⟩
      rintro e w76 ⟨rfl, hf76⟩
      have hf76' := hf66.trans' hf76
      refine ⟨_, rfl, fun hpl => (inside_spec (hN.keep (hfb.trans' hf76') (by simp) (by simp)) hnl (cutPre x.path s7)).mono ?_, fun hpl => hskip (by unfold isTake okI; rw [hbg, hpl]; rfl) _ hf76'⟩
      rintro e w79 ⟨rfl, hf79⟩
      have hf79' := hf76'.trans' hf79
      have hm79 : MaxL w79 := hm.keep ((hf.trans' hfb).trans' hf79')
      refine ⟨_, rfl, fun hin => (vendored_spec (cutPre x.path s7) (by have := cutPre_size x.path s7; omega) hm79).mono ?_, fun hin => hskip (by have hin : inB ns (cutPre x.path s7) = true := (by simpa using hin); unfold isTake; rw [hin]; simp) _ hf79'⟩
      rintro e w82 ⟨rfl, hw82⟩
      replace hw82 := hw82.symm
      subst hw82
      refine ⟨_, rfl, fun hv => ⟨x.data, by rw [cell_blk (hbb _ hf79')]; rfl, fun w85 h85 => ?_⟩, fun hv => hskip (by have hv : vend (cutPre x.path s7) = true := (by simpa using hv); unfold isTake; rw [hv]; simp) _ hf79'⟩
      have htake : takeE ns s7 x = [⟨cutPre x.path s7, x.data⟩] := by
        unfold takeE
        rw [if_pos]
        unfold isTake okI
        rw [hbg, hpl, hin, hv]; rfl
      have hf79w := hfb.trans' hf79'
      have hbl := body_len ns s7 (xs.take k)
      rw [List.length_take] at hbl
      obtain ⟨w86, l87, hr86, ho86, hf86, _⟩ := append_oneK elF (ho.keep hf79w (by simp)) (x := ⟨cutPre x.path s7, x.data⟩) (by unfold maxLen; omega) (by omega) (by have := hf79w.size; omega) h85
      refine ⟨w86, l87, hr86, ⟨k + 1, rfl, by omega, by rw [hfs, htake]; exact ho86, (hN.keep hf79w (by simp) (by simp)).keep hf86 (fun ⟨y, hy, e⟩ => ?_) (fun y hy ⟨y', hy', e⟩ => ?_), hlic', by have h1 := hf86.size; have h2 := hf79w.size; omega, (hf.trans' hf79w).trans hf86 fun q hq ⟨y, hy, e⟩ => ?_⟩, by dsimp only; omega⟩
      · have := (ho.blk hy).1; omega
      · have h1 := (ho.blk hy').1; have h2 := hNl y hy; omega
      · have := (ho.blk hy).1; omega
    · have hge := of_decide_eq_false hge
      have hk' : k = xs.length := by omega
      rw [hk', List.take_length] at ho
      rw [hk'] at hlic
      unfold LicOK at hlic
      rw [List.take_length] at hlic
      have hol := ho.len
      have hbl := body_len ns s7 xs
      refine ⟨fun h => ⟨fun hz => ?_, fun hz => fin _ _ _ ?_ ho hf⟩, fun h => fin _ _ _ ?_ ho hf⟩
      · have hz := of_decide_eq_true hz
        refine (hasLic_spec (ho.reads fun _ => rfl) ho.len.symm (by omega)).mono ?_
        rintro e w89 ⟨rfl, hf89⟩
        refine ⟨_, rfl, fun hh => ?_, fun hh => fin _ _ _ ?_ (ho.keep hf89 (by simp)) (hf.trans' hf89)⟩
        · have hh : hasLic (xs.flatMap (takeE ns s7)) = false := by simpa using hh
          obtain ⟨i, x, rfl, hx, hfd⟩ := hlic.resolve_left fun h => by have := h.1; omega
          obtain ⟨ad, had, hrd⟩ := hr i x hx
          have hrd2 := hrd 2 (.string x.data) rfl
          have hil : i < xs.length := (List.getElem?_eq_some_iff.1 hx).1
          refine ⟨⟨by omega, by omega⟩, ad, had, x.data, by rw [Int.toNat_natCast]; exact (hf.trans' hf89).cell hrd2 (by simp), fun w93 h93 => ?_⟩
          obtain ⟨w94, l95, hr94, ho94, hf94, _⟩ := append_oneK elF (ho.keep hf89 (by simp)) (x := ⟨sLic, x.data⟩) (by unfold maxLen; omega) (by omega) (by have := hf89.size; omega) h93
          refine ⟨w94, l95, hr94, fin _ _ _ ?_ ho94 ((hf.trans' hf89).trans hf94 fun q hq ⟨y, hy, e⟩ => ?_)⟩
          · unfold selE licE
            rw [hbody, hh, hfd, show decide (dir.size ≠ 0) = true by have := hdne _ h; simpa using this]
            rfl
          · have := (ho.blk hy).1; omega
        · have hh : hasLic (xs.flatMap (takeE ns s7)) = true := by simpa using hh
          unfold selE
          rw [hbody, hh]; simp
      · have hz := of_decide_eq_false hz
        have hfd := (hlic.resolve_right fun ⟨i, x, h, _⟩ => by omega).2
        unfold selE licE
        rw [hbody, hfd]; simp
      · unfold selE
        rw [hbody, show decide (dir.size ≠ 0) = false by have := hdne _ h; simpa using this]; simp
end Go.Proofs.YtfoeooddnmppnaaGreatDoor

/- Formulas of 6 Go functions of this seat (written by a program of the author's, vcgen.py), and that each is enough for the call. No condition. -/
set_option linter.unusedVariables false
namespace Go.Proofs.YtfoeooddnmppnaaGreatDoor
open Go Vc Go.Proofs
set_option maxRecDepth 100000
/-- slices.swapRangeCmpFunc[api.File]#hash -/
def vc_slices_swapRangeCmpFunc_hash (x0a : Option Addr) (x0n : Nat) (x0c : Nat) (x1 : Int) (x2 : Int) (x3 : Int) (w : World) (R : Value → World → Prop) : Prop :=
  ∃ I1 : Int → World → Prop, ∃ I2 : Int → World → Nat, (I1 0 w ∧
   ∀ n3 : Int,
   ∀ w4 : World,
   (I1 n3 w4 →
     (((decide (n3 < x3) = true →
        ∀ w5 : World,
        (Drew w4 w5 →
          ∃ I6 : World → Prop, (I6 w5 ∧
           ((0 ≤ IntKind.wrap IntKind.i64 (x2 + n3) ∧
             IntKind.wrap IntKind.i64 (x2 + n3) < (↑x0n : Int)) ∧
            ∃ a7 : Addr, (x0a = some a7 ∧
             ∃ s8 : ByteArray, ∃ s9 : ByteArray, ((∀ w10 : World,
              (I6 w10 →
                Sem.run Tryz.prog (loadVar 35 (Addr.add a7 (Int.toNat (IntKind.wrap IntKind.i64 (x2 + n3)) * 2))) w10 = Result.ok (Value.agg (Array.mk [Value.string s8, Value.string s9])) w10)) ∧
              ((0 ≤ IntKind.wrap IntKind.i64 (x1 + n3) ∧
                IntKind.wrap IntKind.i64 (x1 + n3) < (↑x0n : Int)) ∧
               ∃ a11 : Addr, (x0a = some a11 ∧
                ∃ s12 : ByteArray, ∃ s13 : ByteArray, ((∀ w14 : World,
                 (I6 w14 →
                   Sem.run Tryz.prog (loadVar 35 (Addr.add a11 (Int.toNat (IntKind.wrap IntKind.i64 (x1 + n3)) * 2))) w14 = Result.ok (Value.agg (Array.mk [Value.string s12, Value.string s13])) w14)) ∧
                 ((0 ≤ IntKind.wrap IntKind.i64 (x1 + n3) ∧
                   IntKind.wrap IntKind.i64 (x1 + n3) < (↑x0n : Int)) ∧
                  ∃ a15 : Addr, (x0a = some a15 ∧
                   ∃ w16 : World, (Sem.run Tryz.prog (storeVar 35 (Addr.add a15 (Int.toNat (IntKind.wrap IntKind.i64 (x1 + n3)) * 2)) (Value.agg (Array.mk [Value.string s8, Value.string s9]))) w5 = Result.ok PUnit.unit w16 ∧
                    ((0 ≤ IntKind.wrap IntKind.i64 (x2 + n3) ∧
                      IntKind.wrap IntKind.i64 (x2 + n3) < (↑x0n : Int)) ∧
                     ∃ a17 : Addr, (x0a = some a17 ∧
                      ∃ w18 : World, (Sem.run Tryz.prog (storeVar 35 (Addr.add a17 (Int.toNat (IntKind.wrap IntKind.i64 (x2 + n3)) * 2)) (Value.agg (Array.mk [Value.string s12, Value.string s13]))) w16 = Result.ok PUnit.unit w18 ∧
                       (I1 (IntKind.wrap IntKind.i64 (n3 + 1)) w18 ∧
                        I2 (IntKind.wrap IntKind.i64 (n3 + 1)) w18 < I2 n3 w4))))))))))))))))) ∧
      (decide (n3 < x3) = false →
        R (Value.tuple (Array.mk [])) w4))))
theorem vc_slices_swapRangeCmpFunc_hash_ok {x0a : Option Addr} {x0n : Nat} {x0c : Nat} {x1 : Int} {x2 : Int} {x3 : Int} {w : World} {R : Value → World → Prop} {R' : Ending → World → Prop} (h : vc_slices_swapRangeCmpFunc_hash x0a x0n x0c x1 x2 x3 w R) (hR : ∀ v w', R v w' → R' (.returned v) w') :
    Calls Tryz.prog 99 #[.slice x0a x0n x0c, .int .i64 x1, .int .i64 x2, .int .i64 x3, .func (.func 14) #[] #[]] w R' :=
  calls_of_body (vs := [(.slice x0a x0n x0c, false), (.int .i64 x1, false), (.int .i64 x2, false), (.int .i64 x3, false), (.func (.func 14) #[] #[], false)]) (ty := ty) (ann := ⟨[], [(1, [(10, .int .i64)])], [(3, .swap [13, 19] [(0, true), (1, true), (2, true), (3, true), (4, true), (5, true), (6, true), (7, true), (8, true), (9, true), (10, true), (11, true), (12, true), (13, true), (14, true), (15, true), (16, true), (17, true), (18, true), (19, true), (20, true), (21, false), (22, true), (23, false)])], []⟩) (c := Tryz.f99.body.getD .skip) (by kernel_rfl) Tryz.func99 (by kernel_rfl) (by kernel_rfl) (Eq.mp (by kernel_rfl) h) hR
/-- slices.rotateCmpFunc[api.File]#hash -/
def vc_slices_rotateCmpFunc_hash (x0a : Option Addr) (x0n : Nat) (x0c : Nat) (x1 : Int) (x2 : Int) (x3 : Int) (w : World) (R : Value → World → Prop) : Prop :=
  ∃ I1 : Int → Int → World → Prop, ∃ I2 : Int → Int → World → Nat, (I1 (IntKind.wrap IntKind.i64 (x2 - x1)) (IntKind.wrap IntKind.i64 (x3 - x2)) w ∧
   ∀ n3 : Int,
   ∀ n4 : Int,
   ∀ w5 : World,
   (I1 n3 n4 w5 →
     ((((n3 != n4) = true →
        (((decide (n3 > n4) = true →
           Calls Tryz.prog (99 : Nat) (Array.mk [Value.slice x0a x0n x0c, Value.int IntKind.i64 (IntKind.wrap IntKind.i64 (x2 - n3)), Value.int IntKind.i64 x2, Value.int IntKind.i64 n4, Value.func (Fn.func 14) (Array.mk []) (Array.mk [])]) (w5) (fun e6 w7 =>
             (e6 = Ending.returned (Value.tuple (Array.mk [])) ∧
              (I1 (IntKind.wrap IntKind.i64 (n3 - n4)) n4 w7 ∧
               I2 (IntKind.wrap IntKind.i64 (n3 - n4)) n4 w7 < I2 n3 n4 w5))))) ∧
         (decide (n3 > n4) = false →
           Calls Tryz.prog (99 : Nat) (Array.mk [Value.slice x0a x0n x0c, Value.int IntKind.i64 (IntKind.wrap IntKind.i64 (x2 - n3)), Value.int IntKind.i64 (IntKind.wrap IntKind.i64 (IntKind.wrap IntKind.i64 (x2 + n4) - n3)), Value.int IntKind.i64 n3, Value.func (Fn.func 14) (Array.mk []) (Array.mk [])]) (w5) (fun e8 w9 =>
             (e8 = Ending.returned (Value.tuple (Array.mk [])) ∧
              (I1 n3 (IntKind.wrap IntKind.i64 (n4 - n3)) w9 ∧
               I2 n3 (IntKind.wrap IntKind.i64 (n4 - n3)) w9 < I2 n3 n4 w5))))))) ∧
      ((n3 != n4) = false →
        Calls Tryz.prog (99 : Nat) (Array.mk [Value.slice x0a x0n x0c, Value.int IntKind.i64 (IntKind.wrap IntKind.i64 (x2 - n3)), Value.int IntKind.i64 x2, Value.int IntKind.i64 n3, Value.func (Fn.func 14) (Array.mk []) (Array.mk [])]) (w5) (fun e10 w11 =>
          (e10 = Ending.returned (Value.tuple (Array.mk [])) ∧
           R (Value.tuple (Array.mk [])) w11))))))
theorem vc_slices_rotateCmpFunc_hash_ok {x0a : Option Addr} {x0n : Nat} {x0c : Nat} {x1 : Int} {x2 : Int} {x3 : Int} {w : World} {R : Value → World → Prop} {R' : Ending → World → Prop} (h : vc_slices_rotateCmpFunc_hash x0a x0n x0c x1 x2 x3 w R) (hR : ∀ v w', R v w' → R' (.returned v) w') :
    Calls Tryz.prog 86 #[.slice x0a x0n x0c, .int .i64 x1, .int .i64 x2, .int .i64 x3, .func (.func 14) #[] #[]] w R' :=
  calls_of_body (vs := [(.slice x0a x0n x0c, false), (.int .i64 x1, false), (.int .i64 x2, false), (.int .i64 x3, false), (.func (.func 14) #[] #[], false)]) (ty := ty) (ann := ⟨[], [(2, [(10, .int .i64), (11, .int .i64)])], [], []⟩) (c := Tryz.f86.body.getD .skip) (by kernel_rfl) Tryz.func86 (by kernel_rfl) (by kernel_rfl) (Eq.mp (by kernel_rfl) h) hR
/-- slices.insertionSortCmpFunc[api.File]#hash -/
def vc_slices_insertionSortCmpFunc_hash (x0a : Option Addr) (x0n : Nat) (x0c : Nat) (x1 : Int) (x2 : Int) (w : World) (R : Value → World → Prop) : Prop :=
  ∃ I1 : Int → World → Prop, ∃ I2 : Int → World → Nat, (I1 (IntKind.wrap IntKind.i64 (x1 + 1)) w ∧
   ∀ n3 : Int,
   ∀ w4 : World,
   (I1 n3 w4 →
     (((decide (n3 < x2) = true →
        ∃ I5 : Int → World → Prop, ∃ I6 : Int → World → Nat, (I5 n3 w4 ∧
         ∀ n7 : Int,
         ∀ w8 : World,
         (I5 n7 w8 →
           ∀ w9 : World,
           (Drew w8 w9 →
             ∃ I10 : World → Prop, (I10 w9 ∧
              (((decide (n7 > x1) = true →
                 ((0 ≤ n7 ∧
                   n7 < (↑x0n : Int)) ∧
                  ∃ a11 : Addr, (x0a = some a11 ∧
                   ((0 ≤ IntKind.wrap IntKind.i64 (n7 - 1) ∧
                     IntKind.wrap IntKind.i64 (n7 - 1) < (↑x0n : Int)) ∧
                    ∃ a12 : Addr, (x0a = some a12 ∧
                     ∃ s13 : ByteArray, ∃ s14 : ByteArray, ((∀ w15 : World,
                      (I10 w15 →
                        Sem.run Tryz.prog (loadVar 35 (Addr.add a11 (Int.toNat n7 * 2))) w15 = Result.ok (Value.agg (Array.mk [Value.string s13, Value.string s14])) w15)) ∧
                      ∃ s16 : ByteArray, ∃ s17 : ByteArray, ((∀ w18 : World,
                       (I10 w18 →
                         Sem.run Tryz.prog (loadVar 35 (Addr.add a12 (Int.toNat (IntKind.wrap IntKind.i64 (n7 - 1)) * 2))) w18 = Result.ok (Value.agg (Array.mk [Value.string s16, Value.string s17])) w18)) ∧
                       Calls Tryz.prog (14 : FuncId) (Array.mk [Value.agg (Array.mk [Value.string s13, Value.string s14]), Value.agg (Array.mk [Value.string s16, Value.string s17])]) (w9) (fun e19 w20 =>
                         ∃ n21 : Int, (e19 = Ending.returned (Value.int IntKind.i64 n21) ∧
                          (I10 w20 ∧
                           (((decide (n21 < 0) = true →
                              ∀ w22 : World,
                              (Drew w20 w22 →
                                ∃ I23 : World → Prop, (I23 w22 ∧
                                 ((0 ≤ IntKind.wrap IntKind.i64 (n7 - 1) ∧
                                   IntKind.wrap IntKind.i64 (n7 - 1) < (↑x0n : Int)) ∧
                                  ∃ a24 : Addr, (x0a = some a24 ∧
                                   ∃ s25 : ByteArray, ∃ s26 : ByteArray, ((∀ w27 : World,
                                    (I23 w27 →
                                      Sem.run Tryz.prog (loadVar 35 (Addr.add a24 (Int.toNat (IntKind.wrap IntKind.i64 (n7 - 1)) * 2))) w27 = Result.ok (Value.agg (Array.mk [Value.string s25, Value.string s26])) w27)) ∧
                                    ((0 ≤ n7 ∧
                                      n7 < (↑x0n : Int)) ∧
                                     ∃ a28 : Addr, (x0a = some a28 ∧
                                      ∃ s29 : ByteArray, ∃ s30 : ByteArray, ((∀ w31 : World,
                                       (I23 w31 →
                                         Sem.run Tryz.prog (loadVar 35 (Addr.add a28 (Int.toNat n7 * 2))) w31 = Result.ok (Value.agg (Array.mk [Value.string s29, Value.string s30])) w31)) ∧
                                       ((0 ≤ n7 ∧
                                         n7 < (↑x0n : Int)) ∧
                                        ∃ a32 : Addr, (x0a = some a32 ∧
                                         ∃ w33 : World, (Sem.run Tryz.prog (storeVar 35 (Addr.add a32 (Int.toNat n7 * 2)) (Value.agg (Array.mk [Value.string s25, Value.string s26]))) w22 = Result.ok PUnit.unit w33 ∧
                                          ((0 ≤ IntKind.wrap IntKind.i64 (n7 - 1) ∧
                                            IntKind.wrap IntKind.i64 (n7 - 1) < (↑x0n : Int)) ∧
                                           ∃ a34 : Addr, (x0a = some a34 ∧
                                            ∃ w35 : World, (Sem.run Tryz.prog (storeVar 35 (Addr.add a34 (Int.toNat (IntKind.wrap IntKind.i64 (n7 - 1)) * 2)) (Value.agg (Array.mk [Value.string s29, Value.string s30]))) w33 = Result.ok PUnit.unit w35 ∧
                                             (I5 (IntKind.wrap IntKind.i64 (n7 - 1)) w35 ∧
                                              I6 (IntKind.wrap IntKind.i64 (n7 - 1)) w35 < I6 n7 w8))))))))))))))))) ∧
                            (decide (n21 < 0) = false →
                              (I1 (IntKind.wrap IntKind.i64 (n3 + 1)) w20 ∧
                               I2 (IntKind.wrap IntKind.i64 (n3 + 1)) w20 < I2 n3 w4)))))))))))))) ∧
               (decide (n7 > x1) = false →
                 (I10 w9 ∧
                  (I1 (IntKind.wrap IntKind.i64 (n3 + 1)) w9 ∧
                   I2 (IntKind.wrap IntKind.i64 (n3 + 1)) w9 < I2 n3 w4)))))))))) ∧
      (decide (n3 < x2) = false →
        R (Value.tuple (Array.mk [])) w4))))
theorem vc_slices_insertionSortCmpFunc_hash_ok {x0a : Option Addr} {x0n : Nat} {x0c : Nat} {x1 : Int} {x2 : Int} {w : World} {R : Value → World → Prop} {R' : Ending → World → Prop} (h : vc_slices_insertionSortCmpFunc_hash x0a x0n x0c x1 x2 w R) (hR : ∀ v w', R v w' → R' (.returned v) w') :
    Calls Tryz.prog 71 #[.slice x0a x0n x0c, .int .i64 x1, .int .i64 x2, .func (.func 14) #[] #[]] w R' :=
  calls_of_body (vs := [(.slice x0a x0n x0c, false), (.int .i64 x1, false), (.int .i64 x2, false), (.func (.func 14) #[] #[], false)]) (ty := ty) (ann := ⟨[], [(1, [(8, .int .i64)]), (4, [(9, .int .i64)])], [(4, .held [(0, true), (1, true), (2, true), (3, true), (4, true), (5, true), (6, true), (7, true), (9, true), (10, true), (11, true), (12, true), (8, true), (13, true), (14, false), (15, true), (16, true)]), (6, .swap [9, 13] [(0, true), (1, true), (2, true), (3, true), (4, true), (5, true), (6, true), (7, true), (8, true), (9, true), (10, true), (11, true), (12, true), (13, true), (14, true), (15, false), (16, true), (17, false)])], []⟩) (c := Tryz.f71.body.getD .skip) (by kernel_rfl) Tryz.func71 (by kernel_rfl) (by kernel_rfl) (Eq.mp (by kernel_rfl) h) hR
/-- slices.symMergeCmpFunc[api.File]#hash -/
def vc_slices_symMergeCmpFunc_hash (x0a : Option Addr) (x0n : Nat) (x0c : Nat) (x1 : Int) (x2 : Int) (x3 : Int) (w : World) (R : Value → World → Prop) : Prop :=
  ((((IntKind.wrap IntKind.i64 (x2 - x1) == 1) = true →
     ∃ I1 : Int → Int → World → Prop, ∃ I2 : Int → Int → World → Nat, (I1 x2 x3 w ∧
      ∀ n3 : Int,
      ∀ n4 : Int,
      ∀ w5 : World,
      (I1 n3 n4 w5 →
        (((decide (n3 < n4) = true →
           ((0 : Int) ≤ (1 : Int) ∧
            ∀ w6 : World,
            (Drew w5 w6 →
              ∃ I7 : World → Prop, (I7 w6 ∧
               ((0 ≤ IntKind.wrap IntKind.i64 (Int.fdiv (IntKind.wrap IntKind.u64 (IntKind.wrap IntKind.i64 (n3 + n4))) (2 ^ min (Int.toNat 1) 64)) ∧
                 IntKind.wrap IntKind.i64 (Int.fdiv (IntKind.wrap IntKind.u64 (IntKind.wrap IntKind.i64 (n3 + n4))) (2 ^ min (Int.toNat 1) 64)) < (↑x0n : Int)) ∧
                ∃ a8 : Addr, (x0a = some a8 ∧
                 ((0 ≤ x1 ∧
                   x1 < (↑x0n : Int)) ∧
                  ∃ a9 : Addr, (x0a = some a9 ∧
                   ∃ s10 : ByteArray, ∃ s11 : ByteArray, ((∀ w12 : World,
                    (I7 w12 →
                      Sem.run Tryz.prog (loadVar 35 (Addr.add a8 (Int.toNat (IntKind.wrap IntKind.i64 (Int.fdiv (IntKind.wrap IntKind.u64 (IntKind.wrap IntKind.i64 (n3 + n4))) (2 ^ min (Int.toNat 1) 64))) * 2))) w12 = Result.ok (Value.agg (Array.mk [Value.string s10, Value.string s11])) w12)) ∧
                    ∃ s13 : ByteArray, ∃ s14 : ByteArray, ((∀ w15 : World,
                     (I7 w15 →
                       Sem.run Tryz.prog (loadVar 35 (Addr.add a9 (Int.toNat x1 * 2))) w15 = Result.ok (Value.agg (Array.mk [Value.string s13, Value.string s14])) w15)) ∧
                     Calls Tryz.prog (14 : FuncId) (Array.mk [Value.agg (Array.mk [Value.string s10, Value.string s11]), Value.agg (Array.mk [Value.string s13, Value.string s14])]) (w6) (fun e16 w17 =>
                       ∃ n18 : Int, (e16 = Ending.returned (Value.int IntKind.i64 n18) ∧
                        (I7 w17 ∧
                         (((decide (n18 < 0) = true →
                            (I1 (IntKind.wrap IntKind.i64 (IntKind.wrap IntKind.i64 (Int.fdiv (IntKind.wrap IntKind.u64 (IntKind.wrap IntKind.i64 (n3 + n4))) (2 ^ min (Int.toNat 1) 64)) + 1)) n4 w17 ∧
                             I2 (IntKind.wrap IntKind.i64 (IntKind.wrap IntKind.i64 (Int.fdiv (IntKind.wrap IntKind.u64 (IntKind.wrap IntKind.i64 (n3 + n4))) (2 ^ min (Int.toNat 1) 64)) + 1)) n4 w17 < I2 n3 n4 w5))) ∧
                          (decide (n18 < 0) = false →
                            (I1 n3 (IntKind.wrap IntKind.i64 (Int.fdiv (IntKind.wrap IntKind.u64 (IntKind.wrap IntKind.i64 (n3 + n4))) (2 ^ min (Int.toNat 1) 64))) w17 ∧
                             I2 n3 (IntKind.wrap IntKind.i64 (Int.fdiv (IntKind.wrap IntKind.u64 (IntKind.wrap IntKind.i64 (n3 + n4))) (2 ^ min (Int.toNat 1) 64))) w17 < I2 n3 n4 w5))))))))))))))))) ∧
         (decide (n3 < n4) = false →
           ∃ I19 : Int → World → Prop, ∃ I20 : Int → World → Nat, (I19 x1 w5 ∧
            ∀ n21 : Int,
            ∀ w22 : World,
            (I19 n21 w22 →
              (((decide (n21 < IntKind.wrap IntKind.i64 (n3 - 1)) = true →
                 ∀ w23 : World,
                 (Drew w22 w23 →
                   ∃ I24 : World → Prop, (I24 w23 ∧
                    ((0 ≤ IntKind.wrap IntKind.i64 (n21 + 1) ∧
                      IntKind.wrap IntKind.i64 (n21 + 1) < (↑x0n : Int)) ∧
                     ∃ a25 : Addr, (x0a = some a25 ∧
                      ∃ s26 : ByteArray, ∃ s27 : ByteArray, ((∀ w28 : World,
                       (I24 w28 →
                         Sem.run Tryz.prog (loadVar 35 (Addr.add a25 (Int.toNat (IntKind.wrap IntKind.i64 (n21 + 1)) * 2))) w28 = Result.ok (Value.agg (Array.mk [Value.string s26, Value.string s27])) w28)) ∧
                       ((0 ≤ n21 ∧
                         n21 < (↑x0n : Int)) ∧
                        ∃ a29 : Addr, (x0a = some a29 ∧
                         ∃ s30 : ByteArray, ∃ s31 : ByteArray, ((∀ w32 : World,
                          (I24 w32 →
                            Sem.run Tryz.prog (loadVar 35 (Addr.add a29 (Int.toNat n21 * 2))) w32 = Result.ok (Value.agg (Array.mk [Value.string s30, Value.string s31])) w32)) ∧
                          ((0 ≤ n21 ∧
                            n21 < (↑x0n : Int)) ∧
                           ∃ a33 : Addr, (x0a = some a33 ∧
                            ∃ w34 : World, (Sem.run Tryz.prog (storeVar 35 (Addr.add a33 (Int.toNat n21 * 2)) (Value.agg (Array.mk [Value.string s26, Value.string s27]))) w23 = Result.ok PUnit.unit w34 ∧
                             ((0 ≤ IntKind.wrap IntKind.i64 (n21 + 1) ∧
                               IntKind.wrap IntKind.i64 (n21 + 1) < (↑x0n : Int)) ∧
                              ∃ a35 : Addr, (x0a = some a35 ∧
                               ∃ w36 : World, (Sem.run Tryz.prog (storeVar 35 (Addr.add a35 (Int.toNat (IntKind.wrap IntKind.i64 (n21 + 1)) * 2)) (Value.agg (Array.mk [Value.string s30, Value.string s31]))) w34 = Result.ok PUnit.unit w36 ∧
                                (I19 (IntKind.wrap IntKind.i64 (n21 + 1)) w36 ∧
                                 I20 (IntKind.wrap IntKind.i64 (n21 + 1)) w36 < I20 n21 w22))))))))))))))))) ∧
               (decide (n21 < IntKind.wrap IntKind.i64 (n3 - 1)) = false →
                 R (Value.tuple (Array.mk [])) w22)))))))))) ∧
   ((IntKind.wrap IntKind.i64 (x2 - x1) == 1) = false →
     ((((IntKind.wrap IntKind.i64 (x3 - x2) == 1) = true →
        ∃ I37 : Int → Int → World → Prop, ∃ I38 : Int → Int → World → Nat, (I37 x1 x2 w ∧
         ∀ n39 : Int,
         ∀ n40 : Int,
         ∀ w41 : World,
         (I37 n39 n40 w41 →
           (((decide (n39 < n40) = true →
              ((0 : Int) ≤ (1 : Int) ∧
               ∀ w42 : World,
               (Drew w41 w42 →
                 ∃ I43 : World → Prop, (I43 w42 ∧
                  ((0 ≤ x2 ∧
                    x2 < (↑x0n : Int)) ∧
                   ∃ a44 : Addr, (x0a = some a44 ∧
                    ((0 ≤ IntKind.wrap IntKind.i64 (Int.fdiv (IntKind.wrap IntKind.u64 (IntKind.wrap IntKind.i64 (n39 + n40))) (2 ^ min (Int.toNat 1) 64)) ∧
                      IntKind.wrap IntKind.i64 (Int.fdiv (IntKind.wrap IntKind.u64 (IntKind.wrap IntKind.i64 (n39 + n40))) (2 ^ min (Int.toNat 1) 64)) < (↑x0n : Int)) ∧
                     ∃ a45 : Addr, (x0a = some a45 ∧
                      ∃ s46 : ByteArray, ∃ s47 : ByteArray, ((∀ w48 : World,
                       (I43 w48 →
                         Sem.run Tryz.prog (loadVar 35 (Addr.add a44 (Int.toNat x2 * 2))) w48 = Result.ok (Value.agg (Array.mk [Value.string s46, Value.string s47])) w48)) ∧
                       ∃ s49 : ByteArray, ∃ s50 : ByteArray, ((∀ w51 : World,
                        (I43 w51 →
                          Sem.run Tryz.prog (loadVar 35 (Addr.add a45 (Int.toNat (IntKind.wrap IntKind.i64 (Int.fdiv (IntKind.wrap IntKind.u64 (IntKind.wrap IntKind.i64 (n39 + n40))) (2 ^ min (Int.toNat 1) 64))) * 2))) w51 = Result.ok (Value.agg (Array.mk [Value.string s49, Value.string s50])) w51)) ∧
                        Calls Tryz.prog (14 : FuncId) (Array.mk [Value.agg (Array.mk [Value.string s46, Value.string s47]), Value.agg (Array.mk [Value.string s49, Value.string s50])]) (w42) (fun e52 w53 =>
                          ∃ n54 : Int, (e52 = Ending.returned (Value.int IntKind.i64 n54) ∧
                           (I43 w53 ∧
                            ((((!decide (n54 < 0)) = true →
                               (I37 (IntKind.wrap IntKind.i64 (IntKind.wrap IntKind.i64 (Int.fdiv (IntKind.wrap IntKind.u64 (IntKind.wrap IntKind.i64 (n39 + n40))) (2 ^ min (Int.toNat 1) 64)) + 1)) n40 w53 ∧
                                I38 (IntKind.wrap IntKind.i64 (IntKind.wrap IntKind.i64 (Int.fdiv (IntKind.wrap IntKind.u64 (IntKind.wrap IntKind.i64 (n39 + n40))) (2 ^ min (Int.toNat 1) 64)) + 1)) n40 w53 < I38 n39 n40 w41))) ∧
                             ((!decide (n54 < 0)) = false →
                               (I37 n39 (IntKind.wrap IntKind.i64 (Int.fdiv (IntKind.wrap IntKind.u64 (IntKind.wrap IntKind.i64 (n39 + n40))) (2 ^ min (Int.toNat 1) 64))) w53 ∧
                                I38 n39 (IntKind.wrap IntKind.i64 (Int.fdiv (IntKind.wrap IntKind.u64 (IntKind.wrap IntKind.i64 (n39 + n40))) (2 ^ min (Int.toNat 1) 64))) w53 < I38 n39 n40 w41))))))))))))))))) ∧
            (decide (n39 < n40) = false →
              ∃ I55 : Int → World → Prop, ∃ I56 : Int → World → Nat, (I55 x2 w41 ∧
               ∀ n57 : Int,
               ∀ w58 : World,
               (I55 n57 w58 →
                 (((decide (n57 > n39) = true →
                    ∀ w59 : World,
                    (Drew w58 w59 →
                      ∃ I60 : World → Prop, (I60 w59 ∧
                       ((0 ≤ IntKind.wrap IntKind.i64 (n57 - 1) ∧
                         IntKind.wrap IntKind.i64 (n57 - 1) < (↑x0n : Int)) ∧
                        ∃ a61 : Addr, (x0a = some a61 ∧
                         ∃ s62 : ByteArray, ∃ s63 : ByteArray, ((∀ w64 : World,
                          (I60 w64 →
                            Sem.run Tryz.prog (loadVar 35 (Addr.add a61 (Int.toNat (IntKind.wrap IntKind.i64 (n57 - 1)) * 2))) w64 = Result.ok (Value.agg (Array.mk [Value.string s62, Value.string s63])) w64)) ∧
                          ((0 ≤ n57 ∧
                            n57 < (↑x0n : Int)) ∧
                           ∃ a65 : Addr, (x0a = some a65 ∧
                            ∃ s66 : ByteArray, ∃ s67 : ByteArray, ((∀ w68 : World,
                             (I60 w68 →
                               Sem.run Tryz.prog (loadVar 35 (Addr.add a65 (Int.toNat n57 * 2))) w68 = Result.ok (Value.agg (Array.mk [Value.string s66, Value.string s67])) w68)) ∧
                             ((0 ≤ n57 ∧
                               n57 < (↑x0n : Int)) ∧
                              ∃ a69 : Addr, (x0a = some a69 ∧
                               ∃ w70 : World, (Sem.run Tryz.prog (storeVar 35 (Addr.add a69 (Int.toNat n57 * 2)) (Value.agg (Array.mk [Value.string s62, Value.string s63]))) w59 = Result.ok PUnit.unit w70 ∧
                                ((0 ≤ IntKind.wrap IntKind.i64 (n57 - 1) ∧
                                  IntKind.wrap IntKind.i64 (n57 - 1) < (↑x0n : Int)) ∧
                                 ∃ a71 : Addr, (x0a = some a71 ∧
                                  ∃ w72 : World, (Sem.run Tryz.prog (storeVar 35 (Addr.add a71 (Int.toNat (IntKind.wrap IntKind.i64 (n57 - 1)) * 2)) (Value.agg (Array.mk [Value.string s66, Value.string s67]))) w70 = Result.ok PUnit.unit w72 ∧
                                   (I55 (IntKind.wrap IntKind.i64 (n57 - 1)) w72 ∧
                                    I56 (IntKind.wrap IntKind.i64 (n57 - 1)) w72 < I56 n57 w58))))))))))))))))) ∧
                  (decide (n57 > n39) = false →
                    R (Value.tuple (Array.mk [])) w58)))))))))) ∧
      ((IntKind.wrap IntKind.i64 (x3 - x2) == 1) = false →
        ((0 : Int) ≤ (1 : Int) ∧
         ∃ I73 : Int → Int → World → Prop, ((((decide (x2 > IntKind.wrap IntKind.i64 (Int.fdiv (IntKind.wrap IntKind.u64 (IntKind.wrap IntKind.i64 (x1 + x3))) (2 ^ min (Int.toNat 1) 64))) = true →
             I73 (IntKind.wrap IntKind.i64 (IntKind.wrap IntKind.i64 (IntKind.wrap IntKind.i64 (Int.fdiv (IntKind.wrap IntKind.u64 (IntKind.wrap IntKind.i64 (x1 + x3))) (2 ^ min (Int.toNat 1) 64)) + x2) - x3)) (IntKind.wrap IntKind.i64 (Int.fdiv (IntKind.wrap IntKind.u64 (IntKind.wrap IntKind.i64 (x1 + x3))) (2 ^ min (Int.toNat 1) 64))) w)) ∧
           (decide (x2 > IntKind.wrap IntKind.i64 (Int.fdiv (IntKind.wrap IntKind.u64 (IntKind.wrap IntKind.i64 (x1 + x3))) (2 ^ min (Int.toNat 1) 64))) = false →
             I73 x1 x2 w)) ∧
          ∀ n74 : Int,
          ∀ n75 : Int,
          ∀ w76 : World,
          (I73 n74 n75 w76 →
            ∃ I77 : Int → Int → World → Prop, ∃ I78 : Int → Int → World → Nat, (I77 n74 n75 w76 ∧
             ∀ n79 : Int,
             ∀ n80 : Int,
             ∀ w81 : World,
             (I77 n79 n80 w81 →
               (((decide (n79 < n80) = true →
                  ((0 : Int) ≤ (1 : Int) ∧
                   ∀ w82 : World,
                   (Drew w81 w82 →
                     ∃ I83 : World → Prop, (I83 w82 ∧
                      ((0 ≤ IntKind.wrap IntKind.i64 (IntKind.wrap IntKind.i64 (IntKind.wrap IntKind.i64 (IntKind.wrap IntKind.i64 (Int.fdiv (IntKind.wrap IntKind.u64 (IntKind.wrap IntKind.i64 (x1 + x3))) (2 ^ min (Int.toNat 1) 64)) + x2) - 1) - IntKind.wrap IntKind.i64 (Int.fdiv (IntKind.wrap IntKind.u64 (IntKind.wrap IntKind.i64 (n79 + n80))) (2 ^ min (Int.toNat 1) 64))) ∧
                        IntKind.wrap IntKind.i64 (IntKind.wrap IntKind.i64 (IntKind.wrap IntKind.i64 (IntKind.wrap IntKind.i64 (Int.fdiv (IntKind.wrap IntKind.u64 (IntKind.wrap IntKind.i64 (x1 + x3))) (2 ^ min (Int.toNat 1) 64)) + x2) - 1) - IntKind.wrap IntKind.i64 (Int.fdiv (IntKind.wrap IntKind.u64 (IntKind.wrap IntKind.i64 (n79 + n80))) (2 ^ min (Int.toNat 1) 64))) < (↑x0n : Int)) ∧
                       ∃ a84 : Addr, (x0a = some a84 ∧
                        ((0 ≤ IntKind.wrap IntKind.i64 (Int.fdiv (IntKind.wrap IntKind.u64 (IntKind.wrap IntKind.i64 (n79 + n80))) (2 ^ min (Int.toNat 1) 64)) ∧
                          IntKind.wrap IntKind.i64 (Int.fdiv (IntKind.wrap IntKind.u64 (IntKind.wrap IntKind.i64 (n79 + n80))) (2 ^ min (Int.toNat 1) 64)) < (↑x0n : Int)) ∧
                         ∃ a85 : Addr, (x0a = some a85 ∧
                          ∃ s86 : ByteArray, ∃ s87 : ByteArray, ((∀ w88 : World,
                           (I83 w88 →
                             Sem.run Tryz.prog (loadVar 35 (Addr.add a84 (Int.toNat (IntKind.wrap IntKind.i64 (IntKind.wrap IntKind.i64 (IntKind.wrap IntKind.i64 (IntKind.wrap IntKind.i64 (Int.fdiv (IntKind.wrap IntKind.u64 (IntKind.wrap IntKind.i64 (x1 + x3))) (2 ^ min (Int.toNat 1) 64)) + x2) - 1) - IntKind.wrap IntKind.i64 (Int.fdiv (IntKind.wrap IntKind.u64 (IntKind.wrap IntKind.i64 (n79 + n80))) (2 ^ min (Int.toNat 1) 64)))) * 2))) w88 = Result.ok (Value.agg (Array.mk [Value.string s86, Value.string s87])) w88)) ∧
                           ∃ s89 : ByteArray, ∃ s90 : ByteArray, ((∀ w91 : World,
                            (I83 w91 →
                              Sem.run Tryz.prog (loadVar 35 (Addr.add a85 (Int.toNat (IntKind.wrap IntKind.i64 (Int.fdiv (IntKind.wrap IntKind.u64 (IntKind.wrap IntKind.i64 (n79 + n80))) (2 ^ min (Int.toNat 1) 64))) * 2))) w91 = Result.ok (Value.agg (Array.mk [Value.string s89, Value.string s90])) w91)) ∧
                            Calls Tryz.prog (14 : FuncId) (Array.mk [Value.agg (Array.mk [Value.string s86, Value.string s87]), Value.agg (Array.mk [Value.string s89, Value.string s90])]) (w82) (fun e92 w93 =>
                              ∃ n94 : Int, (e92 = Ending.returned (Value.int IntKind.i64 n94) ∧
                               (I83 w93 ∧
                                ((((!decide (n94 < 0)) = true →
                                   (I77 (IntKind.wrap IntKind.i64 (IntKind.wrap IntKind.i64 (Int.fdiv (IntKind.wrap IntKind.u64 (IntKind.wrap IntKind.i64 (n79 + n80))) (2 ^ min (Int.toNat 1) 64)) + 1)) n80 w93 ∧
                                    I78 (IntKind.wrap IntKind.i64 (IntKind.wrap IntKind.i64 (Int.fdiv (IntKind.wrap IntKind.u64 (IntKind.wrap IntKind.i64 (n79 + n80))) (2 ^ min (Int.toNat 1) 64)) + 1)) n80 w93 < I78 n79 n80 w81))) ∧
                                 ((!decide (n94 < 0)) = false →
                                   (I77 n79 (IntKind.wrap IntKind.i64 (Int.fdiv (IntKind.wrap IntKind.u64 (IntKind.wrap IntKind.i64 (n79 + n80))) (2 ^ min (Int.toNat 1) 64))) w93 ∧
                                    I78 n79 (IntKind.wrap IntKind.i64 (Int.fdiv (IntKind.wrap IntKind.u64 (IntKind.wrap IntKind.i64 (n79 + n80))) (2 ^ min (Int.toNat 1) 64))) w93 < I78 n79 n80 w81))))))))))))))))) ∧
                (decide (n79 < n80) = false →
                  ∃ I95 : World → Prop, ((((decide (n79 < x2) = true →
                      (((decide (x2 < IntKind.wrap IntKind.i64 (IntKind.wrap IntKind.i64 (IntKind.wrap IntKind.i64 (Int.fdiv (IntKind.wrap IntKind.u64 (IntKind.wrap IntKind.i64 (x1 + x3))) (2 ^ min (Int.toNat 1) 64)) + x2) - n79)) = true →
                         Calls Tryz.prog (86 : Nat) (Array.mk [Value.slice x0a x0n x0c, Value.int IntKind.i64 n79, Value.int IntKind.i64 x2, Value.int IntKind.i64 (IntKind.wrap IntKind.i64 (IntKind.wrap IntKind.i64 (IntKind.wrap IntKind.i64 (Int.fdiv (IntKind.wrap IntKind.u64 (IntKind.wrap IntKind.i64 (x1 + x3))) (2 ^ min (Int.toNat 1) 64)) + x2) - n79)), Value.func (Fn.func 14) (Array.mk []) (Array.mk [])]) (w81) (fun e96 w97 =>
                           (e96 = Ending.returned (Value.tuple (Array.mk [])) ∧
                            I95 w97)))) ∧
                       (decide (x2 < IntKind.wrap IntKind.i64 (IntKind.wrap IntKind.i64 (IntKind.wrap IntKind.i64 (Int.fdiv (IntKind.wrap IntKind.u64 (IntKind.wrap IntKind.i64 (x1 + x3))) (2 ^ min (Int.toNat 1) 64)) + x2) - n79)) = false →
                         I95 w81)))) ∧
                    (decide (n79 < x2) = false →
                      I95 w81)) ∧
                   ∀ w98 : World,
                   (I95 w98 →
                     (((decide (x1 < n79) = true →
                        (((decide (n79 < IntKind.wrap IntKind.i64 (Int.fdiv (IntKind.wrap IntKind.u64 (IntKind.wrap IntKind.i64 (x1 + x3))) (2 ^ min (Int.toNat 1) 64))) = true →
                           Calls Tryz.prog (72 : Nat) (Array.mk [Value.slice x0a x0n x0c, Value.int IntKind.i64 x1, Value.int IntKind.i64 n79, Value.int IntKind.i64 (IntKind.wrap IntKind.i64 (Int.fdiv (IntKind.wrap IntKind.u64 (IntKind.wrap IntKind.i64 (x1 + x3))) (2 ^ min (Int.toNat 1) 64))), Value.func (Fn.func 14) (Array.mk []) (Array.mk [])]) (w98) (fun e99 w100 =>
                             (e99 = Ending.returned (Value.tuple (Array.mk [])) ∧
                              (((decide (IntKind.wrap IntKind.i64 (Int.fdiv (IntKind.wrap IntKind.u64 (IntKind.wrap IntKind.i64 (x1 + x3))) (2 ^ min (Int.toNat 1) 64)) < IntKind.wrap IntKind.i64 (IntKind.wrap IntKind.i64 (IntKind.wrap IntKind.i64 (Int.fdiv (IntKind.wrap IntKind.u64 (IntKind.wrap IntKind.i64 (x1 + x3))) (2 ^ min (Int.toNat 1) 64)) + x2) - n79)) = true →
                                 (((decide (IntKind.wrap IntKind.i64 (IntKind.wrap IntKind.i64 (IntKind.wrap IntKind.i64 (Int.fdiv (IntKind.wrap IntKind.u64 (IntKind.wrap IntKind.i64 (x1 + x3))) (2 ^ min (Int.toNat 1) 64)) + x2) - n79) < x3) = true →
                                    Calls Tryz.prog (72 : Nat) (Array.mk [Value.slice x0a x0n x0c, Value.int IntKind.i64 (IntKind.wrap IntKind.i64 (Int.fdiv (IntKind.wrap IntKind.u64 (IntKind.wrap IntKind.i64 (x1 + x3))) (2 ^ min (Int.toNat 1) 64))), Value.int IntKind.i64 (IntKind.wrap IntKind.i64 (IntKind.wrap IntKind.i64 (IntKind.wrap IntKind.i64 (Int.fdiv (IntKind.wrap IntKind.u64 (IntKind.wrap IntKind.i64 (x1 + x3))) (2 ^ min (Int.toNat 1) 64)) + x2) - n79)), Value.int IntKind.i64 x3, Value.func (Fn.func 14) (Array.mk []) (Array.mk [])]) (w100) (fun e101 w102 =>
                                      (e101 = Ending.returned (Value.tuple (Array.mk [])) ∧
                                       R (Value.tuple (Array.mk [])) w102)))) ∧
                                  (decide (IntKind.wrap IntKind.i64 (IntKind.wrap IntKind.i64 (IntKind.wrap IntKind.i64 (Int.fdiv (IntKind.wrap IntKind.u64 (IntKind.wrap IntKind.i64 (x1 + x3))) (2 ^ min (Int.toNat 1) 64)) + x2) - n79) < x3) = false →
                                    R (Value.tuple (Array.mk [])) w100)))) ∧
                               (decide (IntKind.wrap IntKind.i64 (Int.fdiv (IntKind.wrap IntKind.u64 (IntKind.wrap IntKind.i64 (x1 + x3))) (2 ^ min (Int.toNat 1) 64)) < IntKind.wrap IntKind.i64 (IntKind.wrap IntKind.i64 (IntKind.wrap IntKind.i64 (Int.fdiv (IntKind.wrap IntKind.u64 (IntKind.wrap IntKind.i64 (x1 + x3))) (2 ^ min (Int.toNat 1) 64)) + x2) - n79)) = false →
                                 R (Value.tuple (Array.mk [])) w100)))))) ∧
                         (decide (n79 < IntKind.wrap IntKind.i64 (Int.fdiv (IntKind.wrap IntKind.u64 (IntKind.wrap IntKind.i64 (x1 + x3))) (2 ^ min (Int.toNat 1) 64))) = false →
                           (((decide (IntKind.wrap IntKind.i64 (Int.fdiv (IntKind.wrap IntKind.u64 (IntKind.wrap IntKind.i64 (x1 + x3))) (2 ^ min (Int.toNat 1) 64)) < IntKind.wrap IntKind.i64 (IntKind.wrap IntKind.i64 (IntKind.wrap IntKind.i64 (Int.fdiv (IntKind.wrap IntKind.u64 (IntKind.wrap IntKind.i64 (x1 + x3))) (2 ^ min (Int.toNat 1) 64)) + x2) - n79)) = true →
                              (((decide (IntKind.wrap IntKind.i64 (IntKind.wrap IntKind.i64 (IntKind.wrap IntKind.i64 (Int.fdiv (IntKind.wrap IntKind.u64 (IntKind.wrap IntKind.i64 (x1 + x3))) (2 ^ min (Int.toNat 1) 64)) + x2) - n79) < x3) = true →
                                 Calls Tryz.prog (72 : Nat) (Array.mk [Value.slice x0a x0n x0c, Value.int IntKind.i64 (IntKind.wrap IntKind.i64 (Int.fdiv (IntKind.wrap IntKind.u64 (IntKind.wrap IntKind.i64 (x1 + x3))) (2 ^ min (Int.toNat 1) 64))), Value.int IntKind.i64 (IntKind.wrap IntKind.i64 (IntKind.wrap IntKind.i64 (IntKind.wrap IntKind.i64 (Int.fdiv (IntKind.wrap IntKind.u64 (IntKind.wrap IntKind.i64 (x1 + x3))) (2 ^ min (Int.toNat 1) 64)) + x2) - n79)), Value.int IntKind.i64 x3, Value.func (Fn.func 14) (Array.mk []) (Array.mk [])]) (w98) (fun e103 w104 =>
                                   (e103 = Ending.returned (Value.tuple (Array.mk [])) ∧
                                    R (Value.tuple (Array.mk [])) w104)))) ∧
                               (decide (IntKind.wrap IntKind.i64 (IntKind.wrap IntKind.i64 (IntKind.wrap IntKind.i64 (Int.fdiv (IntKind.wrap IntKind.u64 (IntKind.wrap IntKind.i64 (x1 + x3))) (2 ^ min (Int.toNat 1) 64)) + x2) - n79) < x3) = false →
                                 R (Value.tuple (Array.mk [])) w98)))) ∧
                            (decide (IntKind.wrap IntKind.i64 (Int.fdiv (IntKind.wrap IntKind.u64 (IntKind.wrap IntKind.i64 (x1 + x3))) (2 ^ min (Int.toNat 1) 64)) < IntKind.wrap IntKind.i64 (IntKind.wrap IntKind.i64 (IntKind.wrap IntKind.i64 (Int.fdiv (IntKind.wrap IntKind.u64 (IntKind.wrap IntKind.i64 (x1 + x3))) (2 ^ min (Int.toNat 1) 64)) + x2) - n79)) = false →
                              R (Value.tuple (Array.mk [])) w98)))))) ∧
                      (decide (x1 < n79) = false →
                        (((decide (IntKind.wrap IntKind.i64 (Int.fdiv (IntKind.wrap IntKind.u64 (IntKind.wrap IntKind.i64 (x1 + x3))) (2 ^ min (Int.toNat 1) 64)) < IntKind.wrap IntKind.i64 (IntKind.wrap IntKind.i64 (IntKind.wrap IntKind.i64 (Int.fdiv (IntKind.wrap IntKind.u64 (IntKind.wrap IntKind.i64 (x1 + x3))) (2 ^ min (Int.toNat 1) 64)) + x2) - n79)) = true →
                           (((decide (IntKind.wrap IntKind.i64 (IntKind.wrap IntKind.i64 (IntKind.wrap IntKind.i64 (Int.fdiv (IntKind.wrap IntKind.u64 (IntKind.wrap IntKind.i64 (x1 + x3))) (2 ^ min (Int.toNat 1) 64)) + x2) - n79) < x3) = true →
                              Calls Tryz.prog (72 : Nat) (Array.mk [Value.slice x0a x0n x0c, Value.int IntKind.i64 (IntKind.wrap IntKind.i64 (Int.fdiv (IntKind.wrap IntKind.u64 (IntKind.wrap IntKind.i64 (x1 + x3))) (2 ^ min (Int.toNat 1) 64))), Value.int IntKind.i64 (IntKind.wrap IntKind.i64 (IntKind.wrap IntKind.i64 (IntKind.wrap IntKind.i64 (Int.fdiv (IntKind.wrap IntKind.u64 (IntKind.wrap IntKind.i64 (x1 + x3))) (2 ^ min (Int.toNat 1) 64)) + x2) - n79)), Value.int IntKind.i64 x3, Value.func (Fn.func 14) (Array.mk []) (Array.mk [])]) (w98) (fun e105 w106 =>
                                (e105 = Ending.returned (Value.tuple (Array.mk [])) ∧
                                 R (Value.tuple (Array.mk [])) w106)))) ∧
                            (decide (IntKind.wrap IntKind.i64 (IntKind.wrap IntKind.i64 (IntKind.wrap IntKind.i64 (Int.fdiv (IntKind.wrap IntKind.u64 (IntKind.wrap IntKind.i64 (x1 + x3))) (2 ^ min (Int.toNat 1) 64)) + x2) - n79) < x3) = false →
                              R (Value.tuple (Array.mk [])) w98)))) ∧
                         (decide (IntKind.wrap IntKind.i64 (Int.fdiv (IntKind.wrap IntKind.u64 (IntKind.wrap IntKind.i64 (x1 + x3))) (2 ^ min (Int.toNat 1) 64)) < IntKind.wrap IntKind.i64 (IntKind.wrap IntKind.i64 (IntKind.wrap IntKind.i64 (Int.fdiv (IntKind.wrap IntKind.u64 (IntKind.wrap IntKind.i64 (x1 + x3))) (2 ^ min (Int.toNat 1) 64)) + x2) - n79)) = false →
                           R (Value.tuple (Array.mk [])) w98)))))))))))))))))
theorem vc_slices_symMergeCmpFunc_hash_ok {x0a : Option Addr} {x0n : Nat} {x0c : Nat} {x1 : Int} {x2 : Int} {x3 : Int} {w : World} {R : Value → World → Prop} {R' : Ending → World → Prop} (h : vc_slices_symMergeCmpFunc_hash x0a x0n x0c x1 x2 x3 w R) (hR : ∀ v w', R v w' → R' (.returned v) w') :
    Calls Tryz.prog 72 #[.slice x0a x0n x0c, .int .i64 x1, .int .i64 x2, .int .i64 x3, .func (.func 14) #[] #[]] w R' :=
  calls_of_body (vs := [(.slice x0a x0n x0c, false), (.int .i64 x1, false), (.int .i64 x2, false), (.int .i64 x3, false), (.func (.func 14) #[] #[], false)]) (ty := ty) (ann := ⟨[(32, [(20, .int .i64), (21, .int .i64)]), (41, [])], [(3, [(10, .int .i64), (11, .int .i64)]), (9, [(13, .int .i64)]), (15, [(14, .int .i64), (15, .int .i64)]), (21, [(17, .int .i64)]), (33, [(20, .int .i64), (21, .int .i64)])], [(5, .held [(0, true), (1, true), (2, true), (3, true), (5, true), (6, true), (7, true), (4, true), (8, true), (9, false), (10, true)]), (11, .swap [9, 13] [(0, true), (1, true), (2, true), (3, true), (4, true), (5, true), (6, true), (7, true), (8, true), (9, true), (10, true), (11, true), (12, true), (13, true), (14, true), (15, false), (16, true), (17, false)]), (17, .held [(0, true), (1, true), (2, true), (3, true), (5, true), (6, true), (7, true), (4, true), (8, true), (9, false), (10, true), (11, true)]), (23, .swap [9, 13] [(0, true), (1, true), (2, true), (3, true), (4, true), (5, true), (6, true), (7, true), (8, true), (9, true), (10, true), (11, true), (12, true), (13, true), (14, true), (15, false), (16, true), (17, false)]), (35, .held [(0, true), (1, true), (2, true), (3, true), (4, true), (5, true), (7, true), (8, true), (9, true), (6, true), (10, true), (11, false), (12, true), (13, true)])], []⟩) (c := Tryz.f72.body.getD .skip) (by kernel_rfl) Tryz.func72 (by kernel_rfl) (by kernel_rfl) (Eq.mp (by kernel_rfl) h) hR
/-- slices.stableCmpFunc[api.File]#hash -/
def vc_slices_stableCmpFunc_hash (x0a : Option Addr) (x0n : Nat) (x0c : Nat) (x1 : Int) (w : World) (R : Value → World → Prop) : Prop :=
  ∃ I1 : Int → Int → World → Prop, ∃ I2 : Int → Int → World → Nat, (I1 0 20 w ∧
   ∀ n3 : Int,
   ∀ n4 : Int,
   ∀ w5 : World,
   (I1 n3 n4 w5 →
     (((decide (n4 ≤ x1) = true →
        Calls Tryz.prog (71 : Nat) (Array.mk [Value.slice x0a x0n x0c, Value.int IntKind.i64 n3, Value.int IntKind.i64 n4, Value.func (Fn.func 14) (Array.mk []) (Array.mk [])]) (w5) (fun e6 w7 =>
          (e6 = Ending.returned (Value.tuple (Array.mk [])) ∧
           (I1 n4 (IntKind.wrap IntKind.i64 (n4 + 20)) w7 ∧
            I2 n4 (IntKind.wrap IntKind.i64 (n4 + 20)) w7 < I2 n3 n4 w5))))) ∧
      (decide (n4 ≤ x1) = false →
        Calls Tryz.prog (71 : Nat) (Array.mk [Value.slice x0a x0n x0c, Value.int IntKind.i64 n3, Value.int IntKind.i64 x1, Value.func (Fn.func 14) (Array.mk []) (Array.mk [])]) (w5) (fun e8 w9 =>
          (e8 = Ending.returned (Value.tuple (Array.mk [])) ∧
           ∃ I10 : Int → World → Prop, ∃ I11 : Int → World → Nat, (I10 20 w9 ∧
            ∀ n12 : Int,
            ∀ w13 : World,
            (I10 n12 w13 →
              (((decide (n12 < x1) = true →
                 ∃ I14 : Int → Int → World → Prop, ∃ I15 : Int → Int → World → Nat, (I14 0 (IntKind.wrap IntKind.i64 (2 * n12)) w13 ∧
                  ∀ n16 : Int,
                  ∀ n17 : Int,
                  ∀ w18 : World,
                  (I14 n16 n17 w18 →
                    (((decide (n17 ≤ x1) = true →
                       Calls Tryz.prog (72 : Nat) (Array.mk [Value.slice x0a x0n x0c, Value.int IntKind.i64 n16, Value.int IntKind.i64 (IntKind.wrap IntKind.i64 (n16 + n12)), Value.int IntKind.i64 n17, Value.func (Fn.func 14) (Array.mk []) (Array.mk [])]) (w18) (fun e19 w20 =>
                         (e19 = Ending.returned (Value.tuple (Array.mk [])) ∧
                          (I14 n17 (IntKind.wrap IntKind.i64 (n17 + IntKind.wrap IntKind.i64 (2 * n12))) w20 ∧
                           I15 n17 (IntKind.wrap IntKind.i64 (n17 + IntKind.wrap IntKind.i64 (2 * n12))) w20 < I15 n16 n17 w18))))) ∧
                     (decide (n17 ≤ x1) = false →
                       (((decide (IntKind.wrap IntKind.i64 (n16 + n12) < x1) = true →
                          Calls Tryz.prog (72 : Nat) (Array.mk [Value.slice x0a x0n x0c, Value.int IntKind.i64 n16, Value.int IntKind.i64 (IntKind.wrap IntKind.i64 (n16 + n12)), Value.int IntKind.i64 x1, Value.func (Fn.func 14) (Array.mk []) (Array.mk [])]) (w18) (fun e21 w22 =>
                            (e21 = Ending.returned (Value.tuple (Array.mk [])) ∧
                             (I10 (IntKind.wrap IntKind.i64 (n12 * 2)) w22 ∧
                              I11 (IntKind.wrap IntKind.i64 (n12 * 2)) w22 < I11 n12 w13))))) ∧
                        (decide (IntKind.wrap IntKind.i64 (n16 + n12) < x1) = false →
                          (I10 (IntKind.wrap IntKind.i64 (n12 * 2)) w18 ∧
                           I11 (IntKind.wrap IntKind.i64 (n12 * 2)) w18 < I11 n12 w13))))))))) ∧
               (decide (n12 < x1) = false →
                 R (Value.tuple (Array.mk [])) w13))))))))))
theorem vc_slices_stableCmpFunc_hash_ok {x0a : Option Addr} {x0n : Nat} {x0c : Nat} {x1 : Int} {w : World} {R : Value → World → Prop} {R' : Ending → World → Prop} (h : vc_slices_stableCmpFunc_hash x0a x0n x0c x1 w R) (hR : ∀ v w', R v w' → R' (.returned v) w') :
    Calls Tryz.prog 48 #[.slice x0a x0n x0c, .int .i64 x1, .func (.func 14) #[] #[]] w R' :=
  calls_of_body (vs := [(.slice x0a x0n x0c, false), (.int .i64 x1, false), (.func (.func 14) #[] #[], false)]) (ty := ty) (ann := ⟨[], [(2, [(7, .int .i64), (8, .int .i64)]), (7, [(6, .int .i64)]), (9, [(7, .int .i64), (8, .int .i64)])], [], []⟩) (c := Tryz.f48.body.getD .skip) (by kernel_rfl) Tryz.func48 (by kernel_rfl) (by kernel_rfl) (Eq.mp (by kernel_rfl) h) hR
/-- slices.SortStableFunc[[]api.File,api.File]#hash -/
def vc_slices_SortStableFunc_hash (x0a : Option Addr) (x0n : Nat) (x0c : Nat) (w : World) (R : Value → World → Prop) : Prop :=
  Calls Tryz.prog (48 : Nat) (Array.mk [Value.slice x0a x0n x0c, Value.int IntKind.i64 (↑x0n : Int), Value.func (Fn.func 14) (Array.mk []) (Array.mk [])]) (w) (fun e1 w2 =>
    (e1 = Ending.returned (Value.tuple (Array.mk [])) ∧
     R (Value.tuple (Array.mk [])) w2))
theorem vc_slices_SortStableFunc_hash_ok {x0a : Option Addr} {x0n : Nat} {x0c : Nat} {w : World} {R : Value → World → Prop} {R' : Ending → World → Prop} (h : vc_slices_SortStableFunc_hash x0a x0n x0c w R) (hR : ∀ v w', R v w' → R' (.returned v) w') :
    Calls Tryz.prog 13 #[.slice x0a x0n x0c, .func (.func 14) #[] #[]] w R' :=
  calls_of_body (vs := [(.slice x0a x0n x0c, false), (.func (.func 14) #[] #[], false)]) (ty := ty) (ann := ⟨[], [], [], []⟩) (c := Tryz.f13.body.getD .skip) (by kernel_rfl) Tryz.func13 (by kernel_rfl) (by kernel_rfl) (Eq.mp (by kernel_rfl) h) hR
end Go.Proofs.YtfoeooddnmppnaaGreatDoor

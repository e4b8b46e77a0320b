/- The lexer's states, tokens in blocks, and the rest of a string. Conditions: as named. -/
import Derived.Test.YtmhlmdnhpfhoeaaDoorModA
import Derived.Test.YtmhlmdnhpfhoeaaDoorModL
import Derived.Test.YtmhlmdnhpfhoeaaDoorHexF
import Derived.Test.YtmhlmdnhpfhoeaaDoorStrA
import Derived.Test.YtmhlmdnhpfhoeaaDoorSnapS
set_option linter.unusedVariables false
namespace Go.Proofs.YtmhlmdnhpfhoeaaDoor
open Go Vc Go.Proofs

def cellN (w : World) (a : Addr) : Nat := match w.cell? a with
  | some (.int _ n) => n.toNat
  | _ => 0
theorem cellN_of {w : World} {a : Addr} {k : IntKind} {n : Nat} (h : w.cell? a = some (.int k (n : Int))) : cellN w a = n := by unfold cellN; rw [h]; simp
theorem setRow_frM (X : Nat → Prop) (w : World) (g : Nat) (cs : Array Value) (h : X g) : Fr X w (w.setRow g cs) :=
  ⟨rfl, rfl, rfl, by simp [World.setRow], fun k _ hx => by
    simp only [World.setRow, Array.getElem?_modify]
    rw [if_neg (fun e => hx (by rw [← e]; exact h))]⟩
structure LxAt (w : World) (b : Nat) (s : ByteArray) (i line : Nat) : Prop where
  blk : w.heap[b]? = some (.cells #[.string s, .int .i64 (i : Int), .int .i64 (line : Int)] T_modfile_lexer (0, 0))
  hi : i ≤ s.size
  sz : s.size ≤ 65536
  hl : line ≤ i + 1
section
variable {w w2 : World} {b i line : Nat} {s : ByteArray}
theorem LxAt.c0 (h : LxAt w b s i line) : w.cell? ⟨b, 0, none⟩ = some (.string s) := by rw [cell_blk h.blk]; rfl
theorem LxAt.c1 (h : LxAt w b s i line) : w.cell? ⟨b, 1, none⟩ = some (.int .i64 (i : Int)) := by rw [cell_blk h.blk]; rfl
theorem LxAt.c2 (h : LxAt w b s i line) : w.cell? ⟨b, 2, none⟩ = some (.int .i64 (line : Int)) := by rw [cell_blk h.blk]; rfl
theorem LxAt.wr1 (h : LxAt w b s i line) : Wr w ⟨b, 1, none⟩ := wr_blk h.blk (by simp)
theorem LxAt.wr2 (h : LxAt w b s i line) : Wr w ⟨b, 2, none⟩ := wr_blk h.blk (by simp)
theorem LxAt.drew (h : LxAt w b s i line) (d : Drew w w2) : LxAt w2 b s i line := ⟨by rw [d.heap]; exact h.blk, h.hi, h.sz, h.hl⟩
theorem LxAt.keep (h : LxAt w b s i line) {X : Nat → Prop} (hf : Fr X w w2) (hx : ¬ X b) : LxAt w2 b s i line := ⟨hf.keep h.blk hx, h.hi, h.sz, h.hl⟩
theorem LxAt.step (h : LxAt w b s i line) (hi : i < s.size) : LxAt (w.setCell ⟨b, 1, none⟩ (.int .i64 (IntKind.i64.wrap ((i : Int) + 1)))) b s (i + 1) line := by
  have := h.sz
  have := h.hl
  refine ⟨?_, hi, h.sz, by omega⟩
  rw [set_blk h.blk, wrap_i64 (by omega) (by omega)]
  rfl
theorem LxAt.line1 (h : LxAt w b s i line) (hl : line < i + 1) : LxAt (w.setCell ⟨b, 2, none⟩ (.int .i64 (IntKind.i64.wrap ((line : Int) + 1)))) b s i (line + 1) := by
  have := h.sz
  have := h.hi
  refine ⟨?_, h.hi, h.sz, by omega⟩
  rw [set_blk h.blk, wrap_i64 (by omega) (by omega)]
  rfl
theorem LxAt.lt (h : LxAt w b s i line) (hn : ((i : Int) == (s.size : Int)) = false) : i < s.size := by
  have := h.hi
  simp at hn; omega
end
/-- A token in a block of its own. -/
def TkAt (w : World) (g : Nat) (k : Int) (t : ByteArray) (n : Int) : Prop := w.heap[g]? = some (.cells #[.int .i64 k, .string t, .int .i64 n] T_modfile_token (0, 0))
section
variable {w w2 : World} {g r : Nat} {k n : Int} {t : ByteArray}
theorem TkAt.drew (h : TkAt w g k t n) (d : Drew w w2) : TkAt w2 g k t n := by unfold TkAt; rw [d.heap]; exact h
theorem TkAt.keep (h : TkAt w g k t n) {X : Nat → Prop} (hf : Fr X w w2) (hx : ¬ X g) : TkAt w2 g k t n := hf.keep h hx
theorem TkAt.text (h : TkAt w g k t n) (u : ByteArray) : TkAt (w.setCell ⟨g, 1, none⟩ (.string u)) g k u n := by unfold TkAt; rw [set_blk h]; rfl
theorem TkAt.kind (h : TkAt w g k t n) (u : Int) : TkAt (w.setCell ⟨g, 0, none⟩ (.int .i64 u)) g u t n := by unfold TkAt; rw [set_blk h]; rfl
theorem TkAt.wr0 (h : TkAt w g k t n) : Wr w ⟨g, 0, none⟩ := wr_blk h (by simp)
theorem TkAt.wr1 (h : TkAt w g k t n) : Wr w ⟨g, 1, none⟩ := wr_blk h (by simp)
theorem TkAt.load (h : TkAt w g k t n) : (loadVar T_modfile_token ⟨g, 0, none⟩).run Tryd.prog w = .ok (.agg #[.int .i64 k, .string t, .int .i64 n]) w :=
  load_agg (vs := [.int .i64 k, .string t, .int .i64 n]) (agg_of (by kernel_rfl)) (by kernel_rfl) (fun j v hv => by
    rw [add_lit, cell_blk h, Nat.zero_add]; simpa using hv)
theorem TkAt.store {k' n' : Int} {t' : ByteArray} (h : TkAt w r k' t' n') : ∃ w', (storeVar T_modfile_token ⟨r, 0, none⟩ (.agg #[.int .i64 k, .string t, .int .i64 n])).run Tryd.prog w = .ok PUnit.unit w' ∧ TkAt w' r k t n ∧ Fr (· = r) w w' := by
  have hs := run_storeVar_row (P := Tryd.prog) w r T_modfile_token T_modfile_token _ #[.int .i64 k, .string t, .int .i64 n] h (by kernel_rfl) rfl (by simp [Value.oneCell'])
  exact ⟨_, hs, setRow_heap w r _ _ T_modfile_token (0, 0) h, setRow_frM _ w r _ rfl⟩
/-- The token that is told. -/
theorem fin_tok (hg : TkAt w g k t n) {k' n' : Int} {t' : ByteArray} (hr : TkAt w r k' t' n') {Q : Int → ByteArray → Int → World → Prop} (hQ : ∀ w', TkAt w' r k t n → Fr (· = r) w w' → Q k t n w') :
    ∃ n1 : Int, ∃ s1 : ByteArray, ∃ n2 : Int, (loadVar T_modfile_token ⟨g, 0, none⟩).run Tryd.prog w = .ok (.agg #[.int .i64 n1, .string s1, .int .i64 n2]) w ∧
      ∃ w', (storeVar T_modfile_token ⟨r, 0, none⟩ (.agg #[.int .i64 n1, .string s1, .int .i64 n2])).run Tryd.prog w = .ok PUnit.unit w' ∧
      ∃ n3 : Int, ∃ s2 : ByteArray, ∃ n4 : Int, (loadVar T_modfile_token ⟨r, 0, none⟩).run Tryd.prog w' = .ok (.agg #[.int .i64 n3, .string s2, .int .i64 n4]) w' ∧ Q n3 s2 n4 w' := by
  obtain ⟨w', h1, h2, h3⟩ := hr.store (k := k) (t := t) (n := n)
  exact ⟨k, t, n, hg.load, w', h1, k, t, n, h2.load, hQ w' h2 h3⟩
end
theorem drop_at {s : ByteArray} {i : Nat} (h : i < s.size) : s.data.toList.drop i = UInt8.ofNat (byt s i) :: s.data.toList.drop (i + 1) := by
  have hl : i < s.data.toList.length := by rw [bs_len]; exact h
  rw [List.drop_eq_getElem_cons hl, bs_byt h, UInt8.ofNat_toNat]
theorem drop_end (s : ByteArray) : s.data.toList.drop s.size = [] := List.drop_eq_nil_of_le (by rw [bs_len]; exact Nat.le_refl _)
/-- A byte's test. -/
theorem byt_is {s : ByteArray} {i : Nat} (u : UInt8) (h : (byteAt s (i : Int) == (u.toNat : Int)) = true) : UInt8.ofNat (byt s i) = u := by
  rw [byteAt_nat] at h
  have := eq_of_beq h
  rw [show byt s i = u.toNat by omega, UInt8.ofNat_toNat]
theorem byt_not {s : ByteArray} {i : Nat} (u : UInt8) (h : (byteAt s (i : Int) == (u.toNat : Int)) = false) : UInt8.ofNat (byt s i) ≠ u := fun e => by
  have := congrArg UInt8.toNat e
  rw [toNat_of _ (byt_lt s i)] at this
  rw [byteAt_nat, this] at h
  simp at h
/-- What an escape says. -/
theorem esc_at (n : Nat) (hn : n < 256) : (Lib.indexByte [34, 92, 110, 116] (UInt8.ofNat n) < 0 → escL (UInt8.ofNat n) = none) ∧
    (¬ Lib.indexByte [34, 92, 110, 116] (UInt8.ofNat n) < 0 → Lib.indexByte [34, 92, 110, 116] (UInt8.ofNat n) < 4 ∧ ∃ e : Nat, e < 256 ∧ byteAt ⟨#[34, 92, 10, 9]⟩ (Lib.indexByte [34, 92, 110, 116] (UInt8.ofNat n)) = (e : Int) ∧ escL (UInt8.ofNat n) = some (UInt8.ofNat e)) := by
  have key : ∀ n : Fin 256, (Lib.indexByte [34, 92, 110, 116] (UInt8.ofNat n) < 0 → escL (UInt8.ofNat n) = none) ∧
    (¬ Lib.indexByte [34, 92, 110, 116] (UInt8.ofNat n) < 0 → Lib.indexByte [34, 92, 110, 116] (UInt8.ofNat n) < 4 ∧ (byteAt ⟨#[34, 92, 10, 9]⟩ (Lib.indexByte [34, 92, 110, 116] (UInt8.ofNat n))).toNat < 256 ∧ byteAt ⟨#[34, 92, 10, 9]⟩ (Lib.indexByte [34, 92, 110, 116] (UInt8.ofNat n)) = ((byteAt ⟨#[34, 92, 10, 9]⟩ (Lib.indexByte [34, 92, 110, 116] (UInt8.ofNat n))).toNat : Int) ∧ escL (UInt8.ofNat n) = some (UInt8.ofNat (byteAt ⟨#[34, 92, 10, 9]⟩ (Lib.indexByte [34, 92, 110, 116] (UInt8.ofNat n))).toNat)) := by
    decide +kernel
  obtain ⟨h1, h2⟩ := key ⟨n, hn⟩
  exact ⟨h1, fun h => ⟨(h2 h).1, _, (h2 h).2.1, (h2 h).2.2⟩⟩
/-- A string's rest under way. -/
structure QS (w : World) (b : Nat) (s : ByteArray) (p line g base : Nat) (k : Int) (t : ByteArray) (n : Int) (l : Sl) (out : List UInt8) : Prop where
  lx : LxAt w b s p line
  tg : TkAt w g k t n
  tr : TkAt w (g + 1) 0 ⟨#[]⟩ 0
  own : Vc.Own w (g + 2) T_uint8 l (byteV out)
  hb : b < g
  hs : g + 2 ≤ w.heap.size
  hp : out.length ≤ p
section
variable {w w2 : World} {b p line g base : Nat} {s t : ByteArray} {k n : Int} {l : Sl} {out : List UInt8}
theorem QS.drew (h : QS w b s p line g base k t n l out) (d : Drew w w2) : QS w2 b s p line g base k t n l out := ⟨h.lx.drew d, h.tg.drew d, h.tr.drew d, h.own.drew d, h.hb, by rw [d.heap]; exact h.hs, h.hp⟩
theorem QS.step (h : QS w b s p line g base k t n l out) (hi : p < s.size) : QS (w.setCell ⟨b, 1, none⟩ (.int .i64 (IntKind.i64.wrap ((p : Int) + 1)))) b s (p + 1) line g base k t n l out := by
  have hf := Fr.set (· = b) w (a := ⟨b, 1, none⟩) (.int .i64 (IntKind.i64.wrap ((p : Int) + 1))) rfl
  have := h.hb
  exact ⟨h.lx.step hi, h.tg.keep hf (by omega), h.tr.keep hf (by omega), h.own.keep hf (fun x hx => by have := (h.own.blk hx).1; omega), h.hb, Nat.le_trans h.hs hf.size, by have := h.hp; omega⟩
theorem QS.app (h : QS w b s p line g base k t n l out) (hop : out.length < p) {c : Nat} (hc : c < 256) {w3 : World} (hw : w3 = w.alloc (.cells #[.int .u8 (c : Int)] T_uint8)) :
    ∃ w' l', (Builtin.append_ #[T_S_uint8, T_S_uint8] T_S_uint8 #[.slice l.a l.len l.cap, .slice (some ⟨w.heap.size, 0, none⟩) 1 1]).run Tryd.prog w3 = .ok (.slice l'.a l'.len l'.cap) w' ∧
      QS w' b s p line g base k t n l' (out ++ [UInt8.ofNat c]) ∧ Fr (fun k => g + 2 ≤ k) w w' := by
  have hlen : (byteV out).length ≤ 65536 := by have := h.lx.hi; have := h.lx.sz; rw [bv_len]; omega
  have hmx : (byteV out).length + 1 ≤ maxLen := by unfold maxLen; omega
  obtain ⟨w', l', h1, h2, h3, h4⟩ := append_one' elByteH h.own (v := .int .u8 (c : Int)) rfl hmx (by omega) h.hs hw
  rw [bv_snoc _ _ hc] at h2
  have hf : Fr (fun k => g + 2 ≤ k) w w' := h3.mono fun q _ ⟨y, hy, e⟩ => by have := (h.own.blk hy).1; omega
  have := h.hb
  exact ⟨w', l', h1, ⟨h.lx.keep hf (by omega), h.tg.keep hf (by omega), h.tr.keep hf (by omega), h2, h.hb, Nat.le_trans h.hs hf.size, by rw [List.length_append, List.length_singleton]; omega⟩, hf⟩
end
/-- What 'quoted' tells. -/
def QR (w w' : World) (b : Nat) (s : ByteArray) (i line : Nat) (k n : Int) (Z : Option (List UInt8 × List UInt8)) (v : Value) : Prop :=
  Fr (· = b) w w' ∧ ((Z = none ∧ ∃ t', v = .tuple #[.agg #[.int .i64 k, .string t', .int .i64 n], .bool false]) ∨
    ∃ x r j, Z = some (x, r) ∧ v = .tuple #[.agg #[.int .i64 k, .string ⟨x.toArray⟩, .int .i64 n], .bool true] ∧ LxAt w' b s j line ∧ s.data.toList.drop j = r ∧ i ≤ j)
theorem quoted_spec {w : World} {b : Nat} {s : ByteArray} {i line : Nat} (h : LxAt w b s i line) (k : Int) (t : ByteArray) (n : Int) :
    Calls Tryd.prog F_modfile_lexer_quoted #[.pointer (some ⟨b, 0, none⟩), .agg #[.int .i64 k, .string t, .int .i64 n]] w fun e w' => ∃ v, e = .returned v ∧ QR w w' b s i line k n (quotedL false (s.data.toList.drop i)) v := by
  refine vc_modfile_lexer_quoted_ok (R := fun v w' => QR w w' b s i line k n (quotedL false (s.data.toList.drop i)) v) ?_ (fun v w' h => ⟨v, rfl, h⟩)
  intro w1 h1 wl h2
  have hb : b < w.heap.size := lt_blk h.blk
  have hs1 : w1.heap.size = w.heap.size + 1 := by rw [h1]; simp
  have hf1 : Fr (fun _ => False) w w1 := by rw [h1]; exact .alloc _ _ _
  have hf2 : Fr (fun _ => False) w1 wl := by rw [h2]; exact .alloc _ _ _
  have hf : Fr (· = b) w wl := (hf1.trans' hf2).mono fun _ _ h => h.elim
  have htg : TkAt w1 w.heap.size k t n := by rw [h1]; exact alloc_new _ _
  have htr : TkAt wl (w.heap.size + 1) 0 ⟨#[]⟩ 0 := by rw [h2, ← hs1]; exact alloc_new _ _
  rw [hs1]
  generalize hZ : quotedL false (s.data.toList.drop i) = Z
  generalize hg : w.heap.size = g at *
  let I : Sl → World → Prop := fun l wl => ∃ out p, QS wl b s p line g 0 k t n l out ∧ Z = (quotedL false (s.data.toList.drop p)).map (fun x => (out ++ x.1, x.2)) ∧ i ≤ p ∧ Fr (· = b) w wl
  have h0 : I ⟨none, 0, 0⟩ wl := ⟨[], i, ⟨h.keep (hf1.trans' hf2) (by simp), htg.keep hf2 (by simp), htr, .nil _ _ _, hb, by rw [h2]; simp; omega, Nat.zero_le _⟩, by rw [hZ]; cases Z <;> rfl, Nat.le_refl _, hf⟩
  refine ⟨I, fun _ wl => s.size - cellN wl ⟨b, 1, none⟩, ?_, fun l wl h0 => ?_, trivial⟩
  all_goals
    obtain ⟨out, p, hq, hZp, hip, hfl⟩ := h0
    have hlx := hq.lx
    refine ⟨_, hlx.c1, _, hlx.c0, fun he w7 d7 => ?_, fun hne => ⟨_, hlx.c0, _, hlx.c1, ⟨by omega, by have := hlx.lt hne; omega⟩, fun w17 d17 => ⟨fun h10 => ?_, fun h10 => ?_⟩⟩⟩
    · have hpe : p = s.size := by have := eq_of_beq he; omega
      subst hpe
      rw [drop_end] at hZp
      exact fin_tok (hq.tg.drew d7) (hq.tr.drew d7) fun w' h3 h4 => ⟨(hfl.trans' (.drew _ d7)).trans h4 fun q hq' e => by omega, .inl ⟨hZp, _, rfl⟩⟩
    all_goals
      have hp := hlx.lt hne
      rw [drop_at hp, quotedL] at hZp
    · rw [if_pos (byt_is 10 h10)] at hZp
      exact fin_tok (hq.tg.drew d17) (hq.tr.drew d17) fun w' h3 h4 => ⟨(hfl.trans' (.drew _ d17)).trans h4 fun q hq' e => by omega, .inl ⟨hZp, _, rfl⟩⟩
    rw [if_neg (byt_not 10 h10)] at hZp
    have hq1 := hq.drew d17
    refine ⟨_, hq1.lx.c0, _, hq1.lx.c1, ⟨by omega, by omega⟩, fun w27 d27 => ⟨_, (hq1.drew d27).lx.c1, (hq1.drew d27).lx.wr1, fun w29 h29 => ?_⟩⟩
    have hq2 := (hq1.drew d27).step hp
    have hf29 : Fr (· = b) w w29 := by
      rw [h29]
      exact (hfl.trans' ((Fr.drew _ d17).trans' (.drew _ d27))).trans' (.set _ _ _ rfl)
    rw [← h29] at hq2
    refine ⟨fun h34 => ?_, fun h34 => ⟨fun h92 => ?_, fun h92 => ?_⟩⟩
    · rw [if_pos (byt_is 34 h34)] at hZp
      refine ⟨w29, ⟨out.toArray⟩, bytes_str (e := T_uint8) (by kernel_rfl) (by kernel_rfl) (by kernel_rfl) _ hq2.own.reads (by have := hq2.own.1; rw [bv_len] at this; exact this), hq2.tg.wr1, fun w32 h32 => ?_⟩
      have hf32 : Fr (· = g) w29 w32 := by rw [h32]; exact .set _ _ _ rfl
      have ht32 : TkAt w32 g k ⟨out.toArray⟩ n := by rw [h32]; exact hq2.tg.text _
      have hbg := hq2.hb
      refine fin_tok ht32 (hq2.tr.keep hf32 (by omega)) fun w' h3 h4 => ⟨(hf29.trans hf32 fun q hq' e => by omega).trans h4 fun q hq' e => by omega, .inr ⟨_, _, p + 1, by rw [hZp]; rfl, by rw [List.append_nil], (hq2.lx.keep hf32 (by omega)).keep h4 (by omega), rfl, by omega⟩⟩
    · rw [if_neg (byt_not 34 h34), if_pos (byt_is 92 h92)] at hZp
      refine ⟨_, hq2.lx.c1, _, hq2.lx.c0, fun w42 d42 => ⟨fun he => ?_, fun hne2 w50 d50 => ?_⟩⟩
      · have hpe : p + 1 = s.size := by have := eq_of_beq he; omega
        rw [hpe, drop_end] at hZp
        exact fin_tok (hq2.tg.drew d42) (hq2.tr.drew d42) fun w' h3 h4 => ⟨(hf29.trans' (.drew _ d42)).trans h4 fun q hq' e => by omega, .inl ⟨hZp, _, rfl⟩⟩
      have hp2 := hq2.lx.lt hne2
      have hq3 := hq2.drew (d42.trans d50)
      have hf50 := hf29.trans' (.drew _ (d42.trans d50))
      refine ⟨fun w' => w' = w50, rfl, _, fun w' e => by rw [e]; exact hq3.lx.c0, _, fun w' e => by rw [e]; exact hq3.lx.c1, ⟨by omega, by omega⟩, ?_⟩
      rw [byteAt_nat]
      refine (indexByte_spec _ (byt s (p + 1)) (byt_lt _ _) _).mono ?_
      rintro e w57 ⟨rfl, rfl⟩
      rw [drop_at hp2, quotedL] at hZp
      obtain ⟨he1, he2⟩ := esc_at (byt s (p + 1)) (byt_lt _ _)
      refine ⟨_, rfl, rfl, fun hlt => ?_, fun hge => ?_⟩
      · rw [he1 (of_decide_eq_true hlt)] at hZp
        exact fin_tok hq3.tg hq3.tr fun w' h3 h4 => ⟨hf50.trans h4 fun q hq' e => by omega, .inl ⟨hZp, _, rfl⟩⟩
      obtain ⟨hk4, ec, hec, hbe, hes⟩ := he2 (of_decide_eq_false hge)
      have hk0 := of_decide_eq_false hge
      rw [hes] at hZp
      refine ⟨⟨by omega, hk4⟩, _, hq3.lx.c1, hq3.lx.wr1, fun w67 h67 w68 h68 => ?_⟩
      have hq4 := hq3.step hp2
      rw [← h67] at hq4
      have hf67 : Fr (· = b) w w67 := by rw [h67]; exact hf50.trans' (.set _ _ _ rfl)
      rw [hbe] at h68
      obtain ⟨w', l', hr, hq5, hf5⟩ := hq4.app (by have := hq.hp; omega) hec h68
      refine ⟨w', l', hr, ?_⟩
      have hI : I l' w' := ⟨_, _, hq5, by rw [hZp]; cases quotedL false (s.data.toList.drop (p + 1 + 1)) <;> simp, by omega, hf67.trans hf5 fun q hq' e => by omega⟩
      first
        | exact ⟨hI, by dsimp only; rw [show cellN w' ⟨b, 1, none⟩ = p + 1 + 1 from cellN_of hq5.lx.c1, show cellN wl ⟨b, 1, none⟩ = p from cellN_of hlx.c1]; omega⟩
        | exact hI
    · rw [if_neg (byt_not 34 h34), if_neg (byt_not 92 h92)] at hZp
      intro w71 h71
      rw [byteAt_nat] at h71
      obtain ⟨w', l', hr, hq5, hf5⟩ := hq2.app (by have := hq.hp; omega) (byt_lt s p) h71
      refine ⟨w', l', hr, ?_⟩
      have hI : I l' w' := ⟨_, _, hq5, by rw [hZp]; cases quotedL false (s.data.toList.drop (p + 1)) <;> simp, by omega, hf29.trans hf5 fun q hq' e => by omega⟩
      first
        | exact ⟨hI, by dsimp only; rw [show cellN w' ⟨b, 1, none⟩ = p + 1 from cellN_of hq5.lx.c1, show cellN wl ⟨b, 1, none⟩ = p from cellN_of hlx.c1]; omega⟩
        | exact hI
end Go.Proofs.YtmhlmdnhpfhoeaaDoor

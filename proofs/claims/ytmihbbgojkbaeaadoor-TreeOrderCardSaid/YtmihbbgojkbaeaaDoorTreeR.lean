/- The reference's folders: Modes, mode, Name, key, Check, Text, Parse, Same; the law's Few. Conditions: texts are no longer than memory. -/
import Derived.Test.YtmihbbgojkbaeaaDoorTreeB
import Derived.Test.YtmihbbgojkbaeaaDoorVcOz
import Derived.Test.YtmihbbgojkbaeaaDoorRef14
import Derived.Test.YtmihbbgojkbaeaaDoorLaw14
set_option linter.unusedVariables false
namespace Go.Proofs.YtmihbbgojkbaeaaDoor
open Go Vc HexM TreeM Go.Proofs

def modeI : List Int := [16384, 33188, 33261, 40960, 57344]
def modeS : List ByteArray := [s40000, s100644, s100755, s120000, s160000]
/-- The two tables. -/
structure Modes (w : World) (l r : Sl) : Prop where
  ll : l.len = 5
  rl : r.len = 5
  lr : Reads w l.a (modeI.map (Value.int .i64))
  rr : Reads w r.a (modeS.map Value.string)
theorem Modes.keep {w w1 : World} {l r : Sl} (h : Modes w l r) {X : Nat → Prop} (hf : Fr X w w1) (hl : ∀ x, l.a = some x → ¬ X x.block) (hr : ∀ x, r.a = some x → ¬ X x.block) : Modes w1 l r := ⟨h.ll, h.rl, h.lr.keep hf hl, h.rr.keep hf hr⟩
theorem modes_spec (w : World) : Calls Tryd.prog F_cartularyref14_Modes #[] w fun e w' => ∃ l r, e = .returned (.tuple #[.slice l.a l.len l.cap, .slice r.a r.len r.cap]) ∧ Modes w' l r ∧ (∀ y, l.a = some y ∨ r.a = some y → w.heap.size ≤ y.block) ∧ Fr (fun _ => False) w w' := by
  refine vc_cartularyref14_Modes_ok (R := fun v w' => ∃ l r : Sl, v = .tuple #[.slice l.a l.len l.cap, .slice r.a r.len r.cap] ∧ Modes w' l r ∧ (∀ y, l.a = some y ∨ r.a = some y → w.heap.size ≤ y.block) ∧ Fr (fun _ => False) w w') ?_ (fun v w' ⟨l, r, h⟩ => ⟨l, r, by rw [h.1], h.2⟩)
  rintro w1 h1 w2 h2
  have hb1 : w1.heap[w.heap.size]? = some (.cells #[.int .i64 16384, .int .i64 33188, .int .i64 33261, .int .i64 40960, .int .i64 57344] 3 (0, 0)) := by rw [h1]; exact alloc_new _ _
  have hf2 : Fr (fun _ => False) w1 w2 := by rw [h2]; exact .alloc _ _ _
  have hb2 : w2.heap[w1.heap.size]? = some (.cells #[.string s40000, .string s100644, .string s100755, .string s120000, .string s160000] 9 (0, 0)) := by rw [h2]; exact alloc_new _ _
  refine ⟨⟨some ⟨w.heap.size, 0, none⟩, 5, 5⟩, ⟨some ⟨w1.heap.size, 0, none⟩, 5, 5⟩, rfl, ⟨rfl, rfl, fun i v hv => ⟨_, rfl, ?_⟩, fun i v hv => ⟨_, rfl, ?_⟩⟩, ?_, (by rw [h1]; exact .alloc _ _ _ : Fr (fun _ => False) w w1).trans' hf2⟩
  · rw [add_lit, cell_blk (hf2.keep hb1 (by simp)), Nat.zero_add]; simpa [modeI] using hv
  · rw [add_lit, cell_blk hb2, Nat.zero_add]; simpa [modeS] using hv
  · rintro y (hy | hy)
    · simp only [Option.some.injEq] at hy
      subst hy; exact Nat.le_refl _
    · simp only [Option.some.injEq] at hy
      subst hy; rw [h1]; simp
theorem modes_at {w : World} {l r : Sl} (h : Modes w l r) {k : Nat} (hk : k < 5) : ∃ a b, l.a = some a ∧ r.a = some b ∧ w.cell? (a.add k) = some (.int .i64 (modeI.getD k 0)) ∧ w.cell? (b.add k) = some (.string (modeS.getD k ⟨#[]⟩)) := by
  have h1 : (modeI.map (Value.int .i64))[k]? = some (.int .i64 (modeI.getD k 0)) := by
    match k, hk with
    | 0, _ => rfl
    | 1, _ => rfl
    | 2, _ => rfl
    | 3, _ => rfl
    | 4, _ => rfl
  have h2 : (modeS.map Value.string)[k]? = some (.string (modeS.getD k ⟨#[]⟩)) := by
    match k, hk with
    | 0, _ => rfl
    | 1, _ => rfl
    | 2, _ => rfl
    | 3, _ => rfl
    | 4, _ => rfl
  obtain ⟨a, ha, hc⟩ := h.lr k _ h1
  obtain ⟨b, hb, hd⟩ := h.rr k _ h2
  exact ⟨a, b, ha, hb, hc, hd⟩
theorem modeText_at {m : Int} {k : Nat} (hk : k < 5) (h : modeI.getD k 0 = m) : modeText m = modeS.getD k ⟨#[]⟩ := by
  subst h
  match k, hk with
  | 0, _ => rfl
  | 1, _ => rfl
  | 2, _ => rfl
  | 3, _ => rfl
  | 4, _ => rfl
theorem modeText_no {m : Int} (h : ∀ k, k < 5 → modeI.getD k 0 ≠ m) : modeText m = ⟨#[]⟩ := by
  have h0 : 16384 ≠ m := h 0 (by decide)
  have h1 : 33188 ≠ m := h 1 (by decide)
  have h2 : 33261 ≠ m := h 2 (by decide)
  have h3 : 40960 ≠ m := h 3 (by decide)
  have h4 : 57344 ≠ m := h 4 (by decide)
  unfold modeText
  rw [if_neg h0.symm, if_neg h1.symm, if_neg h2.symm, if_neg h3.symm, if_neg h4.symm]
theorem rmode_spec (m : Int) (w : World) : Calls Tryd.prog F_cartularyref14_mode #[.int .i64 m] w fun e w' => e = .returned (.string (modeText m)) ∧ Fr (fun _ => False) w w' := by
  refine vc_cartularyref14_mode_ok (R := fun v w' => v = .string (modeText m) ∧ Fr (fun _ => False) w w') ?_ (fun v w' h => ⟨by rw [h.1], h.2⟩)
  refine (modes_spec w).mono ?_
  rintro e w2 ⟨l, r, rfl, hM, _, hf⟩
  refine ⟨l, r, rfl, fun i w' => w' = w2 ∧ ∃ k : Nat, i = k ∧ k ≤ 5 ∧ ∀ j, j < k → modeI.getD j 0 ≠ m, fun i _ => 5 - i.toNat, ⟨rfl, 0, rfl, Nat.zero_le _, fun j hj => by omega⟩, ?_⟩
  rintro i w8 ⟨hw, k, rfl, hk, hno⟩
  replace hw := hw.symm
  subst hw
  have e1 : IntKind.i64.wrap ((k : Int) + 1) = ((k + 1 : Nat) : Int) := by rw [wrap_i64 (by omega) (by omega)]; omega
  rw [e1, hM.ll, hM.rl]
  refine ⟨fun hlt => ?_, fun hge => ?_⟩
  · have hlt := of_decide_eq_true hlt
    have hk5 : k < 5 := by omega
    obtain ⟨a, b, ha, hb, hc, hd⟩ := modes_at hM hk5
    refine ⟨⟨by omega, by omega⟩, a, ha, modeI.getD k 0, by rw [Int.toNat_natCast, Nat.mul_one]; exact hc, fun he => ⟨⟨by omega, by omega⟩, b, hb, modeS.getD k ⟨#[]⟩, by rw [Int.toNat_natCast, Nat.mul_one]; exact hd, by rw [modeText_at hk5 (eq_of_beq he)], hf⟩, fun hne => ⟨⟨rfl, k + 1, rfl, by omega, fun j hj => ?_⟩, by dsimp only; omega⟩⟩
    by_cases hjk : j = k
    · subst hjk; intro e; rw [e] at hne; simp at hne
    · exact hno j (by omega)
  · have hge := of_decide_eq_false hge
    have : k = 5 := by omega
    subst this
    exact ⟨by rw [modeText_no hno], hf⟩
/-- Small letters. -/
def lows (s : ByteArray) (k : Nat) : List UInt8 := (List.range k).map fun j => UInt8.ofNat (low (byt s j))
theorem low_lt (c : Nat) (h : c < 256) : low c < 256 := by unfold low; split <;> omega
theorem lows_succ (s : ByteArray) (k : Nat) : lows s (k + 1) = lows s k ++ [UInt8.ofNat (low (byt s k))] := by
  unfold lows; rw [List.range_succ, List.map_append]; rfl
theorem lows_byt (s : ByteArray) {i : Nat} (h : i < s.size) : byt ⟨(lows s s.size).toArray⟩ i = low (byt s i) := by
  have e : byt ⟨(lows s s.size).toArray⟩ i = (((lows s s.size)[i]?).getD 0).toNat := by unfold byt; rw [bs_mk]
  rw [e]
  simp only [lows, List.getElem?_map, List.getElem?_range h, Option.map_some, Option.getD_some]
  rw [toNat_of _ (low_lt _ (byt_lt s i))]
theorem lows_git (s : ByteArray) : decide ((⟨(lows s s.size).toArray⟩ : ByteArray) = gitS) = isGit s := by
  rw [Bool.eq_iff_iff, decide_eq_true_eq, isGit_iff]
  have hl : (lows s s.size).length = s.size := by simp [lows]
  constructor
  · intro h
    have hsz : s.size = 4 := by rw [← hl, ← bs_mksize, h]; rfl
    exact ⟨hsz, fun j hj => by rw [← lows_byt s (by omega), h]⟩
  · rintro ⟨h4, h⟩
    refine bs_ext_byt (by rw [bs_mksize, hl, h4]; rfl) fun i hi => ?_
    rw [bs_mksize, hl] at hi
    rw [lows_byt s hi, h i (by omega)]
theorem slashed_iff (s : ByteArray) : slashed s = (decide (Lib.indexByte s.data.toList 47 ≥ 0) || decide (Lib.indexByte s.data.toList 0 ≥ 0)) := by
  rw [Bool.eq_iff_iff, Bool.or_eq_true, decide_eq_true_eq, decide_eq_true_eq]
  unfold slashed
  rw [List.any_eq_true]
  have h47 : (47 : UInt8).toNat = 47 := rfl
  have h00 : (0 : UInt8).toNat = 0 := rfl
  constructor
  · rintro ⟨c, hc, h⟩
    obtain ⟨k, hk, rfl⟩ := List.getElem_of_mem hc
    rw [bs_len] at hk
    have hb := bs_byt hk
    simp only [List.contains_cons, List.contains_nil, Bool.or_false, Bool.or_eq_true, beq_iff_eq] at h
    rcases h with h | h
    · refine .inl ?_
      rcases fnd_cases s 47 with ⟨_, h2⟩ | ⟨i, h2, _⟩
      · exact absurd (by rw [hb, h]) (h2 k hk)
      · omega
    · refine .inr ?_
      rcases fnd_cases s 0 with ⟨_, h2⟩ | ⟨i, h2, _⟩
      · exact absurd (by rw [hb, h]) (h2 k hk)
      · omega
  · rintro (h | h)
    · rcases fnd_cases s 47 with ⟨h1, _⟩ | ⟨i, _, hi, hb, _⟩
      · omega
      · exact ⟨47, List.mem_of_getElem? (i := i) (by rw [bs_get hi, hb]; rfl), by decide⟩
    · rcases fnd_cases s 0 with ⟨h1, _⟩ | ⟨i, _, hi, hb, _⟩
      · omega
      · exact ⟨0, List.mem_of_getElem? (i := i) (by rw [bs_get hi, hb]; rfl), by decide⟩
theorem own_emptyB (w : World) : Own (w.alloc (.cells #[] T_uint8)) w.heap.size T_uint8 ⟨some ⟨w.heap.size, 0, none⟩, 0, 0⟩ [] :=
  ⟨rfl, .inr ⟨w.heap.size, #[], rfl, Nat.le_refl _, alloc_new _ _, Nat.le_refl _, Nat.zero_le _, rfl, rfl⟩⟩
theorem rname_spec (s : ByteArray) (hs : s.size ≤ 140737488355328) (w : World) : Calls Tryd.prog F_cartularyref14_Name #[.string s] w fun e w' => e = .returned (.bool (nameOK isGit s)) ∧ Fr (fun _ => False) w w' := by
  refine vc_cartularyref14_Name_ok (R := fun v w' => v = .bool (nameOK isGit s) ∧ Fr (fun _ => False) w w') ?_ (fun v w' h => ⟨by rw [h.1], h.2⟩)
  have hem : (decide (s ≠ ⟨#[]⟩)) = decide (1 ≤ s.size) := decide_eq_decide.2 (by rw [Ne, bs_empty]; omega)
  unfold nameOK
  rw [hem]
  refine ⟨fun h => ⟨?_, .refl _ _⟩, fun h1 => ⟨fun h => ⟨?_, .refl _ _⟩, fun h2 => ⟨fun h => ⟨?_, .refl _ _⟩, fun h3 => ⟨fun h => ⟨?_, .refl _ _⟩, fun h4 => ?_⟩⟩⟩⟩
  · have h := of_decide_eq_true h
    rw [decide_eq_false (show ¬ 1 ≤ s.size by omega)]; rfl
  · have h := of_decide_eq_true h
    rw [decide_eq_false (show ¬ s.size ≤ 100 by omega)]; simp
  · rw [bs_eq] at h
    have h : s = ⟨#[46]⟩ := of_decide_eq_true h
    rw [decide_eq_false (show ¬ s ≠ ⟨#[46]⟩ from fun hn => hn h)]; simp
  · rw [bs_eq] at h
    have h : s = ⟨#[46, 46]⟩ := of_decide_eq_true h
    rw [decide_eq_false (show ¬ s ≠ ⟨#[46, 46]⟩ from fun hn => hn h)]; simp
  have h1 := of_decide_eq_false h1
  have h2 := of_decide_eq_false h2
  rw [bs_eq] at h3 h4
  have h3 : s ≠ ⟨#[46]⟩ := of_decide_eq_false h3
  have h4 : s ≠ ⟨#[46, 46]⟩ := of_decide_eq_false h4
  rw [decide_eq_true (show 1 ≤ s.size by omega), decide_eq_true (show s.size ≤ 100 by omega), decide_eq_true h3, decide_eq_true h4]
  simp only [Bool.true_and]
  rw [slashed_iff]
  refine (find_spec s (by omega) 47 (by decide) w).mono ?_
  rintro e w2 ⟨rfl, hw⟩
  replace hw := hw.symm
  subst hw
  rw [show UInt8.ofNat 47 = 47 from rfl]
  refine ⟨_, rfl, fun h => ⟨by rw [h]; simp, .refl _ _⟩, fun h47 => ?_⟩
  refine (find_spec s (by omega) 0 (by decide) w).mono ?_
  rintro e w5 ⟨rfl, hw⟩
  replace hw := hw.symm
  subst hw
  rw [show UInt8.ofNat 0 = 0 from rfl]
  refine ⟨_, rfl, fun h => ⟨by rw [h]; simp, .refl _ _⟩, fun h00 w7 h7 => ?_⟩
  rw [h47, h00]
  subst h7
  refine ⟨fun l i w' => ∃ k : Nat, i = k ∧ k ≤ s.size ∧ Own w' w.heap.size T_uint8 l (byteV (lows s k)) ∧ Fr (fun _ => False) w w', fun _ i _ => s.size - i.toNat, ⟨0, rfl, Nat.zero_le _, own_emptyB w, .alloc _ _ _⟩, ?_⟩
  rintro l10 i w12 ⟨k, rfl, hk, ho, hf⟩
  have e1 : IntKind.i64.wrap ((k : Int) + 1) = ((k + 1 : Nat) : Int) := by rw [wrap_i64 (by omega) (by omega)]; omega
  have hln : (lows s k).length = k := by simp [lows]
  refine ⟨fun hlt => ?_, fun hge => ?_⟩
  · have hlt := of_decide_eq_true hlt
    have hb := byt_lt s k
    rw [byteAt_nat, e1]
    have step : ∀ z : Nat, z = low (byt s k) → ∀ w13, w13 = w12.alloc (.cells #[.int .u8 (z : Int)] T_uint8) → ∃ w14 l15, (Builtin.append_ #[T_S_uint8, T_S_uint8] T_S_uint8 #[.slice l10.a l10.len l10.cap, .slice (some ⟨w12.heap.size, 0, none⟩) 1 1]).run Tryd.prog w13 = .ok (.slice l15.a l15.len l15.cap) w14 ∧
        (∃ k' : Nat, ((k + 1 : Nat) : Int) = k' ∧ k' ≤ s.size ∧ Own w14 w.heap.size T_uint8 l15 (byteV (lows s k')) ∧ Fr (fun _ => False) w w14) ∧ s.size - (((k + 1 : Nat) : Int)).toNat < s.size - ((k : Int)).toNat := fun z hz w13 h13 => by
      obtain ⟨w14, l15, hr, ho14, hf14, _⟩ := append_one' elByteH ho (v := .int .u8 (z : Int)) rfl (by rw [bv_len, hln]; unfold maxLen; omega) (by rw [bv_len, hln]; omega) hf.size h13
      refine ⟨w14, l15, hr, ⟨k + 1, rfl, by omega, ?_, hf.trans hf14 fun q hq ⟨y, hy, e⟩ => by have := (ho.blk hy).1; omega⟩, by omega⟩
      rw [lows_succ, ← hz, ← bv_snoc _ _ (by rw [hz]; exact low_lt _ hb)]; exact ho14
    refine ⟨⟨by omega, by omega⟩, fun h65 => ⟨fun h90 w13 h13 => ?_, fun h90 w16 h16 => ?_⟩, fun h65 w19 h19 => ?_⟩
    · have h65 := of_decide_eq_true h65
      have h90 := of_decide_eq_true h90
      have e2 : IntKind.u8.wrap (((byt s k : Nat) : Int) + 32) = ((byt s k + 32 : Nat) : Int) := by rw [wrap_u8 (by omega) (by omega)]; omega
      rw [e2] at h13
      exact step _ (by unfold low; rw [if_pos (by omega)]) w13 h13
    · have h90 := of_decide_eq_false h90
      exact step _ (by unfold low; rw [if_neg (by omega)]) w16 h16
    · have h65 := of_decide_eq_false h65
      exact step _ (by unfold low; rw [if_neg (by omega)]) w19 h19
  · have hge := of_decide_eq_false hge
    have : k = s.size := by omega
    subst this
    refine ⟨_, _, bytes_str (e := T_uint8) (by kernel_rfl) (by kernel_rfl) (by kernel_rfl) l10.cap ho.reads (by rw [ho.len, bv_len]), ?_, hf⟩
    rw [bs_eq]
    have := lows_git s
    rw [show (decide ((⟨(lows s s.size).toArray⟩ : ByteArray) = ⟨⟨[46, 103, 105, 116]⟩⟩)) = isGit s from this]
    simp
theorem rkey_spec (x : Ent) (hx : x.name.size ≤ 140737488355328) (w : World) : Calls Tryd.prog F_cartularyref14_key #[.agg #[.int .i64 x.mode, .string x.name, .string x.id]] w fun e w' => e = .returned (.string (keyE x)) ∧ Fr (fun _ => False) w w' := by
  refine vc_cartularyref14_key_ok (R := fun v w' => v = .string (keyE x) ∧ Fr (fun _ => False) w w') ?_ (fun v w' h => ⟨by rw [h.1], h.2⟩)
  rintro w1 rfl
  have c : ∀ {j : Nat} {v : Value}, (encE x)[j]? = some v → (w.alloc (.cells (encE x).toArray T_api_Entry)).cell? ⟨w.heap.size, j, none⟩ = some v := fun hv => boxE_cell w x (.refl (fun _ => False) _) (by simp) hv
  refine ⟨x.mode, c (j := 0) rfl, fun h => ⟨x.name, c (j := 1) rfl, ?_, ?_, .alloc _ _ _⟩, fun h => ⟨x.name, c (j := 1) rfl, ?_, .alloc _ _ _⟩⟩
  · show x.name.size + 1 ≤ _; omega
  · unfold keyE; rw [if_pos (eq_of_beq h)]
  · unfold keyE; rw [if_neg (fun e => by rw [e] at h; simp at h)]
/-- The reference's 'Check'. -/
theorem rcheck_spec {w : World} {a : Option Addr} {n c : Nat} {xs : List Ent} (hE : Ents w a n xs) (hc : n ≤ c) : Calls Tryd.prog F_cartularyref14_Check #[.slice a n c] w fun e w' => e = .returned (.int .i64 (checkE isGit xs)) ∧ Fr (fun _ => False) w w' := by
  refine vc_cartularyref14_Check_ok (R := fun v w' => v = .int .i64 (checkE isGit xs) ∧ Fr (fun _ => False) w w') ?_ (fun v w' h => ⟨by rw [h.1], h.2⟩)
  have hlen := hE.len
  refine ⟨fun h => ⟨?_, .refl _ _⟩, fun h => ?_⟩
  · have h := of_decide_eq_true h
    unfold checkE
    rw [if_pos (by omega)]
  have h500 := of_decide_eq_false h
  have hl5 : xs.length ≤ 500 := by omega
  refine ⟨fun i w' => ∃ k : Nat, i = k ∧ k ≤ n ∧ (∀ j, j < k → okAt isGit xs j = true) ∧ Fr (fun _ => False) w w', fun i _ => n - i.toNat, ⟨0, rfl, Nat.zero_le _, fun j hj => by omega, .refl _ _⟩, ?_⟩
  rintro i w4 ⟨k, rfl, hk, hok, hf⟩
  refine ⟨fun hlt => ?_, fun hge => ⟨?_, hf⟩⟩
  · have hlt := of_decide_eq_true hlt
    have hkl : k < xs.length := by omega
    have hx : xs[k]? = some xs[k] := List.getElem?_eq_getElem hkl
    generalize xs[k] = x at hx
    have hxm : x ∈ xs := List.mem_of_getElem? hx
    obtain ⟨ad, had, hload⟩ := (hE.reads.keep hf (by simp)).load elE hx
    refine ⟨⟨by omega, by omega⟩, ad, had, x.mode, x.name, x.id, by rw [Int.toNat_natCast]; exact hload, fun w9 h9 => ?_⟩
    subst h9
    have hboth := ok_both (git := isGit) hok hkl
    have hokr := okR_iff (git := isGit) hx
    have hfb : Fr (fun _ => False) w (w4.alloc (.cells (encE x).toArray T_api_Entry)) := hf.trans' (.alloc _ _ _)
    have bad : ∀ {w' : World}, Fr (fun _ => False) (w4.alloc (.cells (encE x).toArray T_api_Entry)) w' → okAt isGit xs k = false → (Value.int .i64 4 = .int .i64 (checkE isGit xs) ∧ Fr (fun _ => False) w w') := fun hw' hb => ⟨by rw [check_bad hl5 hkl hb], hfb.trans' hw'⟩
    have notok : ∀ {p : Prop}, (okR isGit xs k = true → p) → ¬ p → okAt isGit xs k = false := fun h1 h2 => Bool.eq_false_iff.2 fun h => h2 (h1 (hboth ▸ h))
    have cell : ∀ {w' : World}, Fr (fun _ => False) (w4.alloc (.cells (encE x).toArray T_api_Entry)) w' → ∀ {j : Nat} {v : Value}, (encE x)[j]? = some v → w'.cell? ⟨w4.heap.size, j, none⟩ = some v := fun {w'} hw' {j} {v} hv => boxE_cell w4 x hw' (by simp) hv
    refine ⟨_, boxE_run w4 x, x.mode, cell (.refl _ _) (j := 0) rfl, (rmode_spec x.mode _).mono ?_⟩
    rintro e w13 ⟨rfl, hf13⟩
    refine ⟨_, rfl, fun hm => ?_, fun hm => ⟨x.name, cell hf13 (j := 1) rfl, (rname_spec x.name (hE.name x hxm) w13).mono ?_⟩⟩
    · rw [bs_eq] at hm
      have hm := of_decide_eq_true hm
      exact bad hf13 (notok (fun h => (hokr.1 h).1) (by unfold entOK; rw [hm]; simp))
    rintro e w17 ⟨rfl, hf17⟩
    rw [bs_eq] at hm
    have hm := of_decide_eq_false hm
    have hfw17 := hf13.trans' hf17
    refine ⟨_, rfl, fun hn => ?_, fun hn => ⟨x.id, cell hfw17 (j := 2) rfl, (rid_spec x.id (hE.id x hxm) w17).mono ?_⟩⟩
    · have hn : nameOK isGit x.name = false := by simpa using hn
      exact bad hfw17 (notok (fun h => (hokr.1 h).1) (by unfold entOK; rw [hn]; simp))
    rintro e w21 ⟨rfl, hw⟩
    replace hw := hw.symm
    subst hw
    have hn : nameOK isGit x.name = true := by simpa using hn
    refine ⟨_, rfl, fun hi => ?_, fun hi => ⟨⟨by omega, by omega⟩, ?_⟩⟩
    · have hi : isId x.id.data.toList = false := by simpa using hi
      exact bad hfw17 (notok (fun h => (hokr.1 h).1) (by unfold entOK; rw [hi]; simp))
    have hi : isId x.id.data.toList = true := by simpa using hi
    have hent : entOK isGit x = true := by unfold entOK; rw [hn, hi, decide_eq_true hm]; rfl
    have e1 : IntKind.i64.wrap ((k : Int) + 1) = ((k + 1 : Nat) : Int) := by rw [wrap_i64 (by omega) (by omega)]; omega
    rw [Int.toNat_natCast, e1]
    refine ⟨fun i w' => ∃ q : Nat, i = q ∧ q ≤ k ∧ (∀ j y, j < q → xs[j]? = some y → y.name ≠ x.name ∧ klt y x = true) ∧ Fr (fun _ => False) (w4.alloc (.cells (encE x).toArray T_api_Entry)) w', fun i _ => k - i.toNat, ⟨0, rfl, Nat.zero_le _, fun j y hj => by omega, hfw17⟩, ?_⟩
    rintro i w26 ⟨q, rfl, hq, hno, hf26⟩
    have e2 : IntKind.i64.wrap ((q : Int) + 1) = ((q + 1 : Nat) : Int) := by rw [wrap_i64 (by omega) (by omega)]; omega
    rw [e2]
    refine ⟨fun hlt2 => ?_, fun hge2 => ⟨⟨k + 1, rfl, by omega, fun j hj => ?_, hfb.trans' hf26⟩, by dsimp only; omega⟩⟩
    · have hlt2 := of_decide_eq_true hlt2
      have hql : q < xs.length := by omega
      have hy : xs[q]? = some xs[q] := List.getElem?_eq_getElem hql
      generalize xs[q] = y at hy
      have hym : y ∈ xs := List.mem_of_getElem? hy
      obtain ⟨ad2, had2, hload2⟩ := (hE.reads.keep (hfb.trans' hf26) (by simp)).load elE hy
      have hsub : subA a c 0 3 = some ad2 := by
        unfold subA
        rw [had2]
        split
        · rfl
        · rw [Option.map_some, Nat.zero_mul]; simp [Addr.add]
      refine ⟨⟨by omega, by omega⟩, ad2, hsub, y.mode, y.name, y.id, by rw [Int.toNat_natCast]; exact hload2, fun w31 h31 => ?_⟩
      subst h31
      refine ⟨_, boxE_run w26 y, fun w33 d33 => ?_⟩
      have hby : Fr (fun _ => False) (w26.alloc (.cells (encE y).toArray T_api_Entry)) w33 := .drew _ d33
      have hbx : Fr (fun _ => False) (w4.alloc (.cells (encE x).toArray T_api_Entry)) w33 := (hf26.trans' (.alloc _ _ _)).trans' hby
      refine ⟨fun w' => Fr (fun _ => False) w33 w', .refl _ _, y.name, fun w' hw' => boxE_cell w26 y (hby.trans' hw') (by simp) (j := 1) rfl, x.name, fun w' hw' => cell (hbx.trans' hw') (j := 1) rfl, fun he => ?_, fun hne => ?_⟩
      · rw [bs_eq] at he
        have he := of_decide_eq_true he
        exact ⟨.refl _ _, .refl _ _, bad hbx (notok (fun h => ((hokr.1 h).2 q y (by omega) hy).1) (fun hh => hh he))⟩
      rw [bs_eq] at hne
      have hne := of_decide_eq_false hne
      refine ⟨y.mode, y.name, y.id, fun w' hw' => boxE_load w26 y (hby.trans' hw') (by simp), x.mode, x.name, x.id, fun w' hw' => boxE_load w4 x (hbx.trans' hw') (by simp), (rkey_spec y (hE.name y hym) w33).mono ?_⟩
      rintro e w48 ⟨rfl, hf48⟩
      refine ⟨_, rfl, hf48, (rkey_spec x (hE.name x hxm) w48).mono ?_⟩
      rintro e w51 ⟨rfl, hf51⟩
      have hfw51 := hbx.trans' (hf48.trans' hf51)
      refine ⟨_, rfl, hf48.trans' hf51, ?_⟩
      rw [ByteArray.toList_eq, ByteArray.toList_eq]
      refine ⟨fun hl => ?_, fun hl => ⟨⟨q + 1, rfl, by omega, fun j z hj hz => ?_, hfw51⟩, by dsimp only; omega⟩⟩
      · have hl : klt y x = false := by simpa [klt] using hl
        exact bad hfw51 (notok (fun h => ((hokr.1 h).2 q y (by omega) hy).2) (by simp [hl]))
      · have hl : klt y x = true := by simpa [klt] using hl
        by_cases hjq : j = q
        · subst hjq
          rw [hy] at hz; cases hz
          exact ⟨hne, hl⟩
        · exact hno j z (by omega) hz
    · have hge2 := of_decide_eq_false hge2
      by_cases hjk : j = k
      · rw [hjk, hboth, hokr]
        exact ⟨hent, fun j y hj hy => hno j y (by omega) hy⟩
      · exact hok j (by omega)
  · have hge := of_decide_eq_false hge
    have : k = xs.length := by omega
    rw [check_good hl5 (fun j hj => hok j (by omega))]
end Go.Proofs.YtmihbbgojkbaeaaDoor

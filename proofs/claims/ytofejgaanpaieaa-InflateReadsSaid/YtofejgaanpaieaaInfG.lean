/- The tables of a dynamic block. Conditions: the state is in order. -/
import Derived.Test.YtofejgaanpaieaaInfF
set_option linter.unusedVariables false
namespace InfM
noncomputable def tabs2 (B : List Bool) (nl nd p : Nat) (first : List Nat) : E (List Nat × List Nat) :=
  if chkN first ≠ 0 then .error 3
  else match clens first (nl + nd) B (nl + nd + 1) p [] with
    | .error e => .error e
    | .ok (l, p) => if l.getD 256 0 = 0 ∨ chkN (l.take nl) ≠ 0 ∨ chkN (l.drop nl) ≠ 0 then .error 3 else .ok ((l.take nl, l.drop nl), p)
noncomputable def tabs1 (B : List Bool) (nl nd nc p : Nat) : E (List Nat × List Nat) :=
  if 286 < nl ∨ 30 < nd then .error 3
  else match firsts B (places.take nc) p (List.replicate 19 0) with
    | .error e => .error e
    | .ok (first, p) => tabs2 B nl nd p first
theorem tables_ok {B : List Bool} {p h p' : Nat} (ht : take B 14 p = .ok (h, p')) : tables B p = tabs1 B (h % 32 + 257) (h / 32 % 32 + 1) (h / 1024 + 4) p' := by
  unfold tables tabs1 tabs2
  rw [ht]
  rfl
theorem tables_err {B : List Bool} {p e : Nat} (ht : take B 14 p = .error e) : tables B p = .error e := by
  unfold tables
  rw [ht]
theorem firsts_length {B : List Bool} : ∀ (r : List Nat) (p : Nat) (l : List Nat) (l' : List Nat) (p' : Nat), firsts B r p l = .ok (l', p') → l'.length = l.length
  | [], p, l, l', p', h => by simp only [firsts, Except.ok.injEq, Prod.mk.injEq] at h; rw [h.1]
  | i :: r, p, l, l', p', h => by
    rw [firsts] at h
    split at h
    · cases h
    · rw [firsts_length r _ _ _ _ h, List.length_set]
end InfM
namespace Go.Proofs.Ytofejgaanpaieaa
open Go Vc BitsM HuffM Go.Proofs

/-- What the reading of the tables comes to. -/
def TRes (w w' : World) (base b rb : Nat) (sl : Sl) (s : ByteArray) (off most : Nat) (out : List UInt8) (r : InfM.E (List Nat × List Nat)) (v : Value) : Prop :=
  Fr (· = rb) w w' ∧ match r with
  | .error er => v = .tuple #[.pointer none, .pointer none, .int .i64 (er : Int)] ∧ er ≠ 0
  | .ok ((lit, dist), p') => ∃ lb db, v = .tuple #[.pointer (some ⟨lb, 0, none⟩), .pointer (some ⟨db, 0, none⟩), .int .i64 0] ∧ Tab w' w.heap.size w'.heap.size lb lit ∧ Tab w' w.heap.size w'.heap.size db dist ∧ St w' base b rb sl s off p' out most
theorem nv_snoc (l : List Nat) (x : Nat) : nv l ++ [.int .i64 (x : Int)] = nv (l ++ [x]) := by simp [nv]
theorem toNat_ofNat (l : List Nat) : (l.map Int.ofNat).map Int.toNat = l := by simp [List.map_map, Function.comp_def]

theorem hnew_any {a : Option Addr} {zs : List Int} {n c : Nat} {w : World} (hr : Reads w a (iv zs)) (hn : zs.length = n) (ha : ∀ x, a = some x → x.block < w.heap.size) :
    Calls Try.prog F_huff_New #[.slice a n c] w fun e w' => Fr (fun _ => False) w w' ∧ ∃ pt, e = .returned (.tuple #[.pointer pt, .int .i64 ((chk zs : Nat) : Int)]) ∧ (chk zs = 0 → ∃ b, pt = some ⟨b, 0, none⟩ ∧ Tab w' w.heap.size w'.heap.size b (zs.map Int.toNat)) := by
  refine (hnew_spec hr hn ha).mono ?_
  rintro e w' ⟨⟨hc, rfl⟩ | ⟨hc, b, rfl, ht⟩, hf⟩
  · exact ⟨hf, none, rfl, fun h => absurd h hc⟩
  · exact ⟨hf, _, by rw [hc]; rfl, fun _ => ⟨b, rfl, ht⟩⟩

theorem tables_spec {w : World} {base b rb off p most : Nat} {sl : Sl} {s : ByteArray} {out : List UInt8} (h : St w base b rb sl s off p out most) :
    Calls Try.prog F_inflate_state_tables #[.pointer (some ⟨b, 0, none⟩)] w fun e w' => ∃ v, e = .returned v ∧ TRes w w' base b rb sl s off most out (InfM.tables (bitsFrom s off) p) v := by
  refine vc_inflate_state_tables_ok (R := fun v w' => TRes w w' base b rb sl s off most out (InfM.tables (bitsFrom s off) p) v) ?_ (fun v w' h => ⟨v, rfl, h⟩)
  generalize hB : bitsFrom s off = B
  refine ⟨_, h.c0, ?_⟩
  refine (stbits_spec h (n := 14) (by omega)).mono ?_
  rw [hB]
  rintro e w3 ⟨hf3, ⟨hd, p3, htk, hhd, hp3, rfl, h3⟩ | ⟨htk, rfl⟩⟩
  rotate_left
  · rw [InfM.tables_err htk]
    exact ⟨_, _, rfl, fun _ => ⟨hf3, rfl, by decide⟩, fun hh => by cases hh⟩
  rw [InfM.tables_ok htk]
  refine ⟨_, _, rfl, fun hh => (by cases hh), fun _ => ⟨by decide, by decide, ?_⟩⟩
  have enl : IntKind.i64.wrap (IntKind.i64.wrap (IntKind.u32.wrap (((BitVec.ofInt 32 (hd : Int) &&& BitVec.ofInt 32 31).toNat : Nat) : Int)) + 257) = ((hd % 32 + 257 : Nat) : Int) := by
    have := and_nat 32 hd 31 (by omega) (by decide)
    rw [show ((31 : Nat) : Int) = 31 from rfl, show hd &&& 31 = hd % 32 from and_mask hd 5] at this
    rw [this, wrap_u32 (by omega) (by omega), wrap_i64 (x := ((hd % 32 : Nat) : Int)) (by omega) (by omega), wrap_i64 (by omega) (by omega)]; omega
  have e5 : Int.fdiv (hd : Int) (2 ^ min (Int.toNat 5) 32) = ((hd / 32 : Nat) : Int) := by
    rw [show (2 : Int) ^ min (Int.toNat 5) 32 = ((32 : Nat) : Int) from rfl, Int.fdiv_eq_ediv_of_nonneg _ (Int.natCast_nonneg _), ← Int.natCast_ediv]
  have e10 : Int.fdiv (hd : Int) (2 ^ min (Int.toNat 10) 32) = ((hd / 1024 : Nat) : Int) := by
    rw [show (2 : Int) ^ min (Int.toNat 10) 32 = ((1024 : Nat) : Int) from rfl, Int.fdiv_eq_ediv_of_nonneg _ (Int.natCast_nonneg _), ← Int.natCast_ediv]
  have end_ : IntKind.i64.wrap (IntKind.i64.wrap (IntKind.u32.wrap (((BitVec.ofInt 32 ((hd / 32 : Nat) : Int) &&& BitVec.ofInt 32 31).toNat : Nat) : Int)) + 1) = ((hd / 32 % 32 + 1 : Nat) : Int) := by
    have := and_nat 32 (hd / 32) 31 (by omega) (by decide)
    rw [show ((31 : Nat) : Int) = 31 from rfl, show hd / 32 &&& 31 = hd / 32 % 32 from and_mask (hd / 32) 5] at this
    rw [this, wrap_u32 (by omega) (by omega), wrap_i64 (x := ((hd / 32 % 32 : Nat) : Int)) (by omega) (by omega), wrap_i64 (by omega) (by omega)]; omega
  have enc : IntKind.i64.wrap (IntKind.i64.wrap ((hd / 1024 : Nat) : Int) + 4) = ((hd / 1024 + 4 : Nat) : Int) := by
    rw [wrap_i64 (x := ((hd / 1024 : Nat) : Int)) (by omega) (by omega), wrap_i64 (by omega) (by omega)]; omega
  rw [enl, e5, end_, e10, enc]
  have hnl1 : 257 ≤ hd % 32 + 257 := by omega
  have hnl2 : hd % 32 + 257 ≤ 288 := by omega
  have hnd1 : 1 ≤ hd / 32 % 32 + 1 := by omega
  have hnd2 : hd / 32 % 32 + 1 ≤ 32 := by omega
  have hnc : hd / 1024 + 4 ≤ 19 := by omega
  clear enl e5 e10 end_ enc
  generalize hd % 32 + 257 = nl at *
  generalize hd / 32 % 32 + 1 = nd at *
  generalize hd / 1024 + 4 = nc at *
  rw [InfM.tabs1]
  refine ⟨fun hgt => ?_, fun hle => ⟨fun hgt => ?_, fun hle2 => ?_⟩⟩
  · have hgt := of_decide_eq_true hgt
    rw [if_pos (by omega)]
    exact ⟨hf3, rfl, by decide⟩
  · have hgt := of_decide_eq_true hgt
    rw [if_pos (by omega)]
    exact ⟨hf3, rfl, by decide⟩
  have hle := of_decide_eq_false hle
  have hle2 := of_decide_eq_false hle2
  rw [if_neg (by omega)]
  obtain ⟨w6, hr6, ho6, hf6⟩ := make_ints (w := w3) (n := 19) (by omega) (Nat.le_refl _)
  have h6 := h3.keep hf6 (by simp)
  refine ⟨w6, ⟨_, _, _⟩, hr6, ?_⟩
  obtain ⟨lb3, lrb3, lsl3⟩ := h3.lts
  have hpl : (InfM.places.take nc).length = nc := by rw [List.length_take]; have : InfM.places.length = 19 := rfl; omega
  refine ⟨fun i w11 => ∃ (k p' : Nat) (l' : List Nat), i = (k : Int) ∧ k ≤ nc ∧ InfM.firsts B (InfM.places.take nc) p3 (List.replicate 19 0) = InfM.firsts B ((InfM.places.take nc).drop k) p' l' ∧ l'.length = 19 ∧
      St w11 base b rb sl s off p' out most ∧ Own w11 w3.heap.size T_int ⟨some ⟨w3.heap.size, 0, none⟩, 19, 19⟩ (nv l') ∧ Fr (fun k => k = rb ∨ w3.heap.size ≤ k) w3 w11, fun i w11 => nc - i.toNat,
    ⟨0, p3, _, rfl, Nat.zero_le _, rfl, by simp, h6, ho6, hf6.mono fun k _ hk => hk.elim⟩, ?_⟩
  rintro i w11 ⟨k, p', l', rfl, hk, hinv, hl', h11, ho11, hf11⟩
  have e3 : IntKind.i64.wrap ((k : Int) + 1) = ((k + 1 : Nat) : Int) := by rw [wrap_i64 (by omega) (by omega)]; omega
  rw [e3]
  refine ⟨fun hlt => ?_, fun hge => ?_⟩
  · have hlt := of_decide_eq_true hlt
    have hkn : k < (InfM.places.take nc).length := by omega
    rw [List.drop_eq_getElem_cons hkn] at hinv
    have hpk : (InfM.places.take nc)[k] = InfM.places.getD k 0 := by
      rw [List.getElem_take, List.getD_eq_getElem?_getD, List.getElem?_eq_getElem (by have : InfM.places.length = 19 := rfl; omega)]; rfl
    have hp19 : InfM.places.getD k 0 < 19 := by
      have : ∀ k, k < 19 → InfM.places.getD k 0 < 19 := by decide
      exact this k (by omega)
    rw [hpk] at hinv
    refine ⟨_, h11.c0, ?_⟩
    refine (stbits_spec h11 (n := 3) (by omega)).mono ?_
    rw [hB]
    rintro e w14 ⟨hf14, ⟨x, p14, htk', hx, hp14, rfl, h14⟩ | ⟨htk', rfl⟩⟩
    rotate_left
    · have : InfM.firsts B (InfM.places.take nc) p3 (List.replicate 19 0) = .error 6 := by rw [hinv, InfM.firsts, htk']
      rw [this]
      refine ⟨_, _, rfl, fun _ => ⟨(hf3.trans hf11 fun k hk h => ?_).trans' hf14, rfl, by decide⟩, fun hh => by cases hh⟩
      rcases h with h | h
      · exact h
      · have := hf3.size; omega
    rw [InfM.firsts, htk'] at hinv
    simp only at hinv
    refine ⟨_, _, rfl, fun hh => (by cases hh), fun _ => ?_⟩
    refine (order_spec w14).mono ?_
    rintro e w18 ⟨rfl, hf18⟩
    have h18 := h14.keep hf18 (by simp)
    have l11 := h11.lts
    have ho14 := ho11.keep hf14 (fun y hy e => by cases hy; dsimp only at e; omega)
    have ho18 := ho14.keep hf18 (by simp)
    refine ⟨_, rfl, w18, ((InfM.places.getD k 0 : Nat) : Int), ?_, ?_⟩
    · have hidx := index_aggI (P := Try.prog) (w := w18) T_19_int T_int 19 (nv InfM.places) .i64 k (by kernel_rfl) (by kernel_rfl) (by rfl) (by omega) (by kernel_rfl)
      rw [show (nv InfM.places).getD k undef = .int .i64 ((InfM.places.getD k 0 : Nat) : Int) by
        have : ∀ k, k < 19 → (nv InfM.places).getD k undef = .int .i64 ((InfM.places.getD k 0 : Nat) : Int) := fun k hk => by
          have h19 : k < InfM.places.length := hk
          simp [nv, List.getD_eq_getElem?_getD, h19]
        exact this k (by omega)] at hidx
      exact hidx
    generalize InfM.places.getD k 0 = pk at hinv hp19 ⊢
    obtain ⟨a, ha, hc, hw, hset⟩ := ho18.set (i := pk) (by rw [List.length_map]; omega)
    have ew : IntKind.i64.wrap (x : Int) = (x : Int) := wrap_i64 (by omega) (by omega)
    refine ⟨⟨by omega, by dsimp only; omega⟩, a, ha, ?_⟩
    rw [Int.toNat_natCast, Nat.mul_one, ew]
    refine ⟨hw, ?_⟩
    rintro w23 rfl
    obtain ⟨ho23, hf23⟩ := hset (.int .i64 (x : Int))
    rw [show (nv l').set pk (.int .i64 (x : Int)) = nv (l'.set pk x) by simp [nv, List.map_set]] at ho23
    have h23 := h18.keep2 hf23 (fun ⟨y, hy, e⟩ => by cases hy; dsimp only at e; omega) (fun ⟨y, hy, e⟩ => by cases hy; dsimp only at e; omega) (fun z hz ⟨y, hy, e⟩ => by cases hy; have := lsl3 z hz; dsimp only at e; omega)
    refine ⟨⟨k + 1, p14, _, rfl, by omega, hinv, by rw [List.length_set]; exact hl', h23, ho23, ?_⟩, by dsimp only; omega⟩
    exact ((hf11.trans' (hf14.mono fun k _ hk => .inl hk)).trans' (hf18.mono fun k _ hk => hk.elim)).trans' (hf23.mono fun k _ ⟨y, hy, e⟩ => by cases hy; dsimp only at e; exact .inr (by omega))
  have hge := of_decide_eq_false hge
  have hkk : k = nc := by omega
  subst hkk
  rw [List.drop_of_length_le (by omega), InfM.firsts] at hinv
  rw [hinv]
  simp only
  rw [InfM.tabs2]
  have hfw11 : Fr (· = rb) w w11 := hf3.trans hf11 fun k hk h => by
    rcases h with h | h
    · exact h
    · have := hf3.size; omega
  rw [← iv_ofNat] at ho11
  refine (hnew_spec ho11.reads (n := 19) (by rw [List.length_map, hl']) (fun x hx => (ho11.blk hx).2)).mono ?_
  have hchk : InfM.chkN l' = chk (l'.map Int.ofNat) := rfl
  rintro e w25 ⟨⟨hc, rfl⟩ | ⟨hc, tb, rfl, ht⟩, hf25⟩
  · rw [hchk, if_pos hc]
    refine ⟨_, _, rfl, fun _ => ⟨hfw11.trans' (hf25.mono fun k _ hk => hk.elim), rfl, by decide⟩, fun hh => ?_⟩
    exact absurd hh (by simpa using hc)
  rw [hchk, if_neg (by omega)]
  rw [toNat_ofNat] at ht
  refine ⟨_, _, rfl, fun hh => (by simp at hh), fun _ => ?_⟩
  have h25 := h11.keep hf25 (by simp)
  have hfw25 : Fr (· = rb) w w25 := hfw11.trans' (hf25.mono fun k _ hk => hk.elim)
  obtain ⟨lb, lrb, lsl⟩ := h25.lts
  have hH11 : w.heap.size ≤ w11.heap.size := hfw11.size
  obtain ⟨lb11, lrb11, lsl11⟩ := h11.lts
  have etot : IntKind.i64.wrap ((nl : Int) + (nd : Int)) = ((nl + nd : Nat) : Int) := by rw [wrap_i64 (by omega) (by omega)]; omega
  rw [etot]
  obtain ⟨tot, htot⟩ : ∃ tot, nl + nd = tot := ⟨_, rfl⟩
  rw [htot]
  generalize hCL : InfM.clens l' tot B (tot + 1) p' [] = CL
  generalize hlo : w11.heap.size = lo at *
  generalize hhi : w25.heap.size = H at *
  have hloH : lo ≤ H := by rw [← hlo, ← hhi]; exact hf25.size
  have toW : ∀ {wx : World}, Fr (fun k => k = rb ∨ H ≤ k) w25 wx → Fr (· = rb) w wx := fun hf => hfw25.trans hf fun k hk h => by
    rcases h with h | h
    · exact h
    · omega
  refine ⟨fun l w31 => ∃ (q : Nat) (xs : List Nat) (f : Nat), CL = InfM.clens l' tot B f q xs ∧ tot + 1 ≤ f + xs.length ∧ xs.length ≤ tot ∧
      St w31 base b rb sl s off q out most ∧ Own w31 H T_int l (nv xs) ∧ Fr (fun k => k = rb ∨ H ≤ k) w25 w31, fun l w31 => tot - l.len,
    ⟨p', [], tot + 1, hCL.symm, by simp, Nat.zero_le _, h25, .nil _ _ _, .refl _ _⟩, ?_⟩
  rintro l30 w31 ⟨q, xs, f, hcl, hfx, hxl, h31, ho31, hf31⟩
  have hll : l30.len = xs.length := by rw [ho31.len, List.length_map]
  have hs31 := hf31.size
  have ht31 : Tab w31 lo H tb l' := ht.keep hf31 (fun k h1 h2 hk => by omega)
  refine ⟨fun hlt => ?_, fun hge => ?_⟩
  · have hlt := of_decide_eq_true hlt
    obtain ⟨f, rfl⟩ : ∃ g, f = g + 1 := ⟨f - 1, by omega⟩
    rw [InfM.clens, if_neg (by omega)] at hcl
    refine ⟨_, h31.c0, ?_⟩
    refine (stread_spec h31 ht31 (.inl lrb11)).mono ?_
    rw [hB]
    rintro e w34 ⟨hf34, ⟨x, q1, hsy, hq1, hx, rfl, h34⟩ | ⟨err, hsy, hne, rfl⟩⟩
    rotate_left
    · rw [hsy] at hcl
      rw [hcl]
      refine ⟨_, _, rfl, fun _ => ⟨(toW hf31).trans' hf34, rfl, hne⟩, fun hh => ?_⟩
      exact absurd hh (by simpa using hne)
    rw [hsy] at hcl
    simp only at hcl
    have ho34 := ho31.keep hf34 (fun y hy e => by have := (ho31.blk hy).1; omega)
    have hf34' : Fr (fun k => k = rb ∨ H ≤ k) w25 w34 := hf31.trans' (hf34.mono fun k _ hk => .inl hk)
    have hs34 := hf34'.size
    refine ⟨_, _, rfl, fun hh => (by simp at hh), fun _ => ⟨fun hlt16 => ?_, fun hge16 => ?_⟩⟩
    · have hlt16 := of_decide_eq_true hlt16
      rw [if_pos (by omega)] at hcl
      intro w37 h37
      have hnl' : (nv xs).length = xs.length := List.length_map _
      obtain ⟨w38, l39, hr, ho38, hf38, _⟩ := append_one' elInt ho34 (v := .int .i64 (x : Int)) rfl (by rw [hnl']; unfold maxLen; omega) (by rw [hnl']; omega) (by omega) h37
      rw [nv_snoc] at ho38
      have hl39 : l39.len = xs.length + 1 := by rw [ho38.len]; simp
      exact ⟨w38, l39, hr, ⟨q1, xs ++ [x], f, hcl, by simp; omega, by simp; omega, h34.keep2 hf38 (fun ⟨y, hy, e⟩ => by have := (ho34.blk hy).1; omega) (fun ⟨y, hy, e⟩ => by have := (ho34.blk hy).1; omega) (fun z hz ⟨y, hy, e⟩ => by have := (ho34.blk hy).1; have := lsl z hz; omega), ho38,
        hf34'.trans' (hf38.mono fun k _ ⟨y, hy, e⟩ => by have := (ho34.blk hy).1; exact .inr (by omega))⟩, by dsimp only; omega⟩
    have hge16 := of_decide_eq_false hge16
    rw [if_neg (by omega)] at hcl
    rw [hl'] at hx
    refine ⟨fun bits least what w46 => ¬ (x = 16 ∧ xs = []) ∧ bits = (((if x = 16 then 2 else if x = 17 then 3 else 7) : Nat) : Int) ∧ least = (((if x = 16 ∨ x = 17 then 3 else 11 : Nat)) : Int) ∧ what = (((if x = 16 then xs.getLastD 0 else 0) : Nat) : Int) ∧ w34 = w46, ⟨fun h16 => ?_, fun hn16 => ⟨fun h17 => ?_, fun hn17 => ?_⟩⟩, ?_⟩
    · have h16 : x = 16 := by have := eq_of_beq h16; omega
      subst h16
      refine ⟨fun h0 => ?_, fun hn0 => ?_⟩
      · have h0 : xs = [] := by
          have := eq_of_beq h0
          exact List.length_eq_zero_iff.1 (by omega)
        rw [if_pos ⟨rfl, h0⟩] at hcl
        rw [hcl]
        exact ⟨toW hf34', rfl, by decide⟩
      · have hne : xs ≠ [] := fun hh => by rw [hll, hh] at hn0; simp at hn0
        have hpos : 0 < xs.length := List.length_pos_iff.2 hne
        have e1 : IntKind.i64.wrap ((l30.len : Int) - 1) = ((xs.length - 1 : Nat) : Int) := by rw [hll, wrap_i64 (by omega) (by omega)]; omega
        rw [e1]
        obtain ⟨a, ha, hc⟩ := ho34.reads _ _ (show (nv xs)[xs.length - 1]? = some (.int .i64 ((xs.getLastD 0 : Nat) : Int)) by
          rw [nv, List.getElem?_map, List.getLastD_eq_getLast?, List.getLast?_eq_getElem?]
          rw [List.getElem?_eq_getElem (by omega)]; rfl)
        refine ⟨⟨by omega, by omega⟩, a, ha, _, by rw [Int.toNat_natCast, Nat.mul_one]; exact hc, fun hh => hne hh.2, rfl, rfl, rfl, rfl⟩
    · have h17 : x = 17 := by have := eq_of_beq h17; omega
      subst h17
      exact ⟨fun hh => by omega, rfl, rfl, rfl, rfl⟩
    · have h18 : x = 18 := by
        have h1 : x ≠ 16 := fun hh => by subst hh; simp at hn16
        have h2 : x ≠ 17 := fun hh => by subst hh; simp at hn17
        omega
      subst h18
      exact ⟨fun hh => by omega, rfl, rfl, rfl, rfl⟩
    rintro _ _ _ w46 ⟨hnn, rfl, rfl, rfl, rfl⟩
    rw [if_neg hnn] at hcl
    have hbits : (if x = 16 then 2 else if x = 17 then 3 else 7) ≤ 7 := by split <;> (try split) <;> omega
    have hleast : 3 ≤ (if x = 16 ∨ x = 17 then 3 else 11) ∧ (if x = 16 ∨ x = 17 then 3 else 11) ≤ 11 := by split <;> omega
    generalize (if x = 16 then 2 else if x = 17 then 3 else 7) = bits at hcl hbits ⊢
    generalize (if x = 16 ∨ x = 17 then 3 else 11) = least at hcl hleast ⊢
    generalize (if x = 16 then xs.getLastD 0 else 0) = what at hcl ⊢
    refine ⟨_, h34.c0, ?_⟩
    refine (stbits_spec h34 (n := bits) (by omega)).mono ?_
    rw [hB]
    rintro e w49 ⟨hf49, ⟨m, q2, htk2, hm, hq2, rfl, h49⟩ | ⟨htk2, rfl⟩⟩
    rotate_left
    · rw [htk2] at hcl
      rw [hcl]
      exact ⟨_, _, rfl, fun _ => ⟨(toW hf34').trans' hf49, rfl, by decide⟩, fun hh => by cases hh⟩
    rw [htk2] at hcl
    simp only at hcl
    have hm7 : m < 128 := Nat.lt_of_lt_of_le hm (Nat.pow_le_pow_right (n := 2) (by decide) hbits)
    refine ⟨_, _, rfl, fun hh => (by cases hh), fun _ => ?_⟩
    have ek1 : IntKind.i64.wrap (IntKind.i64.wrap ((l30.len : Int) + (least : Int)) + IntKind.i64.wrap (m : Int)) = ((xs.length + (least + m) : Nat) : Int) := by
      rw [hll, wrap_i64 (x := (m : Int)) (by omega) (by omega), wrap_i64 (x := ((xs.length : Nat) : Int) + _) (by omega) (by omega), wrap_i64 (by omega) (by omega)]; omega
    have ek2 : IntKind.i64.wrap ((least : Int) + IntKind.i64.wrap (m : Int)) = ((least + m : Nat) : Int) := by
      rw [wrap_i64 (x := (m : Int)) (by omega) (by omega), wrap_i64 (by omega) (by omega)]; omega
    rw [ek1, ek2]
    have hK1 : 3 ≤ least + m := by omega
    have hK2 : least + m ≤ 200 := by omega
    generalize least + m = K at hcl hK1 hK2 ⊢
    have ho49 := ho34.keep hf49 (fun y hy e => by have := (ho34.blk hy).1; omega)
    have hf49' : Fr (fun k => k = rb ∨ H ≤ k) w25 w49 := hf34'.trans' (hf49.mono fun k _ hk => .inl hk)
    have hs49 := hf49'.size
    refine ⟨fun hgt => ?_, fun hle => ?_⟩
    · have hgt := of_decide_eq_true hgt
      rw [if_pos (by omega)] at hcl
      rw [hcl]
      exact ⟨toW hf49', rfl, by decide⟩
    have hle := of_decide_eq_false hle
    rw [if_neg (by omega)] at hcl
    refine ⟨fun l i w56 => ∃ k : Nat, i = (k : Int) ∧ k ≤ K ∧ Own w56 H T_int l (nv (xs ++ List.replicate k what)) ∧ Fr (fun k => H ≤ k) w49 w56, fun l i w56 => K - i.toNat, ⟨0, rfl, Nat.zero_le _, by simpa using ho49, .refl _ _⟩, ?_⟩
    rintro l54 i w56 ⟨k, rfl, hk, ho56, hf56⟩
    have e3 : IntKind.i64.wrap ((k : Int) + 1) = ((k + 1 : Nat) : Int) := by rw [wrap_i64 (by omega) (by omega)]; omega
    rw [e3]
    have hs56 := hf56.size
    have hnl' : (nv (xs ++ List.replicate k what)).length = xs.length + k := by simp
    refine ⟨fun hlt w57 h57 => ?_, fun hge => ?_⟩
    · have hlt := of_decide_eq_true hlt
      obtain ⟨w58, l59, hr, ho58, hf58, _⟩ := append_one' elInt ho56 (v := .int .i64 (what : Int)) rfl (by rw [hnl']; unfold maxLen; omega) (by rw [hnl']; omega) (by omega) h57
      rw [nv_snoc, List.append_assoc, ← List.replicate_succ'] at ho58
      exact ⟨w58, l59, hr, ⟨k + 1, rfl, by omega, ho58, hf56.trans' (hf58.mono fun k _ ⟨y, hy, e⟩ => by have := (ho56.blk hy).1; omega)⟩, by dsimp only; omega⟩
    · have hge := of_decide_eq_false hge
      have hkK : k = K := by omega
      subst hkK
      have hl54 : l54.len = xs.length + k := by rw [ho56.len, hnl']
      exact ⟨⟨q2, _, f, hcl, by simp; omega, by simp; omega, h49.keep2 hf56 (by omega) (by omega) (fun z hz hh => by have := lsl z hz; omega), ho56, hf49'.trans' (hf56.mono fun k _ hk => .inr hk)⟩, by dsimp only; omega⟩
  have hge := of_decide_eq_false hge
  have hxt : xs.length = tot := by omega
  obtain ⟨f, rfl⟩ : ∃ g, f = g + 1 := ⟨f - 1, by omega⟩
  rw [InfM.clens, if_pos (by omega)] at hcl
  rw [hcl]
  simp only
  rw [Int.toNat_natCast]
  have hcap := ho31.cap
  have hr1 : Reads w31 (subA l30.a l30.cap 0 1) (iv ((xs.take nl).map Int.ofNat)) := by
    rw [iv_ofNat]
    have := ((ho31.reads).sub (cap := l30.cap) (by rw [List.length_map]; omega) 0).take nl
    simpa [nv, List.map_take] using this
  have hr2 : Reads w31 (subA l30.a l30.cap nl 1) (iv ((xs.drop nl).map Int.ofNat)) := by
    rw [iv_ofNat]
    have := (ho31.reads).sub (cap := l30.cap) (by rw [List.length_map]; omega) nl
    simpa [nv, List.map_drop] using this
  have hbl1 : ∀ {k : Nat} {x : Addr}, subA l30.a l30.cap k 1 = some x → x.block < w31.heap.size ∧ H ≤ x.block := fun hx => by
    obtain ⟨y, hy, e⟩ := subA_block hx
    have := ho31.blk hy; omega
  refine ⟨⟨by omega, by omega⟩, ?_⟩
  refine (hnew_any hr1 (n := nl) (by simp; omega) (fun x hx => (hbl1 hx).1)).mono ?_
  rintro e w61 ⟨hf61, p62, rfl, htab1⟩
  refine ⟨_, _, rfl, ⟨by omega, by omega⟩, ?_⟩
  refine (hnew_any (hr2.keep hf61 (by simp)) (n := l30.len - nl) (by simp; omega) (fun x hx => by have := (hbl1 hx).1; have := hf61.size; omega)).mono ?_
  rintro e w65 ⟨hf65, p66, rfl, htab2⟩
  have hf65' : Fr (fun _ => False) w31 w65 := hf61.trans' hf65
  have hfin : Fr (· = rb) w w65 := (toW hf31).trans' (hf65'.mono fun k _ hk => hk.elim)
  have hc1 : InfM.chkN (xs.take nl) = chk ((xs.take nl).map Int.ofNat) := rfl
  have hc2 : InfM.chkN (xs.drop nl) = chk ((xs.drop nl).map Int.ofNat) := rfl
  rw [hc1, hc2]
  obtain ⟨a, ha, hc⟩ := (ho31.keep hf65' (by simp)).reads 256 (.int .i64 ((xs.getD 256 0 : Nat) : Int)) (by
    rw [nv, List.getElem?_map, List.getD_eq_getElem?_getD, List.getElem?_eq_getElem (by omega)]; rfl)
  refine ⟨_, _, rfl, ⟨by decide, by omega⟩, a, ha, _, hc, fun h0 => ?_, fun hn0 => ⟨fun h1 => ?_, fun hn1 => ⟨fun h2 => ?_, fun hn2 => ?_⟩⟩⟩
  · have h0 := eq_of_beq h0
    rw [if_pos (.inl (by omega))]
    exact ⟨hfin, rfl, by decide⟩
  · rw [if_pos (.inr (.inl (by simpa using h1)))]
    exact ⟨hfin, rfl, by decide⟩
  · rw [if_pos (.inr (.inr (by simpa using h2)))]
    exact ⟨hfin, rfl, by decide⟩
  · have hn0 : xs.getD 256 0 ≠ 0 := fun hh => by rw [hh] at hn0; simp at hn0
    have hn1 : chk ((xs.take nl).map Int.ofNat) = 0 := by simpa using hn1
    have hn2 : chk ((xs.drop nl).map Int.ofNat) = 0 := by simpa using hn2
    rw [if_neg (fun hh => by rcases hh with hh | hh | hh <;> omega)]
    obtain ⟨lb1, rfl, ht1⟩ := htab1 hn1
    obtain ⟨db1, rfl, ht2⟩ := htab2 hn2
    rw [toNat_ofNat] at ht1 ht2
    have z1 := hf61.size
    have z2 := hf65.size
    have z3 := hfw25.size
    exact ⟨hfin, lb1, db1, rfl, (ht1.keep hf65 (by simp)).wide (by omega) (by omega), ht2.wide (by omega) (Nat.le_refl _), h31.keep hf65' (by simp)⟩
end Go.Proofs.Ytofejgaanpaieaa

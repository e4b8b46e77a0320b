/- The reference's folders: Unhex of an object's name, Text, Parse, Same; the law's Few. Conditions: texts are no longer than memory. -/
import Derived.Test.YtmihbbgojkbaeaaDoorTreeR
set_option linter.unusedVariables false
namespace Go.Proofs.YtmihbbgojkbaeaaDoor
open Go Vc HexM TreeM Go.Proofs

theorem runhex_spec (s : ByteArray) (hs : s.size ≤ 1000000000) {l : List UInt8} (hl : unhexL s.data.toList = some l) (w : World) : Calls Tryd.prog F_cartularyref01_Unhex #[.string s] w fun e w' => e = .returned (.string ⟨l.toArray⟩) ∧ Fr (fun _ => False) w w' := by
  refine vc_cartularyref01_Unhex_ok (R := fun v w' => v = .string ⟨l.toArray⟩ ∧ Fr (fun _ => False) w w') ?_ (fun v w' h => ⟨by rw [h.1], h.2⟩)
  intro w1 h1
  subst h1
  have hu := unhexL_iff s.data.toList
  rw [hl, bs_len] at hu
  have hu := hu.symm
  simp only [Option.isSome_some, Bool.and_eq_true, beq_iff_eq] at hu
  obtain ⟨hdig, heven⟩ := hu
  have hdig := digits_iff.1 hdig
  refine ⟨fun sl i w' => ∃ k r, i = ((2 * k : Nat) : Int) ∧ 2 * k ≤ s.size ∧ unhexL (s.data.toList.take (2 * k)) = some r ∧ Own w' w.heap.size T_uint8 sl (byteV r) ∧ Fr (fun _ => False) w w', fun _ i _ => s.size - i.toNat, ⟨0, [], rfl, Nat.zero_le _, rfl, own_emptyB w, .alloc _ _ _⟩, ?_⟩
  rintro l4 i w6 ⟨k, r, rfl, hk, hr, ho, hf⟩
  have hrl : r.length = k := by
    have := unhexL_len _ _ hr
    rw [List.length_take, bs_len] at this; omega
  have e1 : IntKind.i64.wrap (((2 * k : Nat) : Int) + 1) = ((2 * k + 1 : Nat) : Int) := by rw [wrap_i64 (by omega) (by omega)]; omega
  have e2 : IntKind.i64.wrap (((2 * k : Nat) : Int) + 2) = ((2 * (k + 1) : Nat) : Int) := by rw [wrap_i64 (by omega) (by omega)]; omega
  rw [e1, e2, Int.toNat_natCast, Int.toNat_natCast]
  refine ⟨fun hlt => ?_, fun hge => ?_⟩
  · have hlt := of_decide_eq_true hlt
    have hd0 := hdig (2 * k) (by omega)
    have hd1 := hdig (2 * k + 1) (by omega)
    obtain ⟨x, hx⟩ := Option.isSome_iff_exists.1 hd0
    obtain ⟨y, hy⟩ := Option.isSome_iff_exists.1 hd1
    have hx1 := dg_lt hx
    have hy1 := dg_lt hy
    obtain ⟨w7, l8, hr7, ho7, hf7⟩ := bytes_of (P := Tryd.prog) (src := T_string) (dst := T_S_uint8) (e := T_uint8) (by kernel_rfl) (by kernel_rfl) (by kernel_rfl) (s.extract (2 * k) (2 * (k + 1))) (by rw [ByteArray.size_extract]; unfold maxLen; omega) w6
    have hexs : (s.extract (2 * k) (2 * (k + 1))).size = 2 := by rw [ByteArray.size_extract]; omega
    have hbs : byteV (s.extract (2 * k) (2 * (k + 1))).data.toList = [.int .u8 (byt s (2 * k) : Nat), .int .u8 (byt s (2 * k + 1) : Nat)] := by
      have h0 := bs_get (s := s.extract (2 * k) (2 * (k + 1))) (i := 0) (by omega)
      have h1 := bs_get (s := s.extract (2 * k) (2 * (k + 1))) (i := 1) (by omega)
      rw [byt_extract (by omega) (by omega)] at h0 h1
      have hln : (s.extract (2 * k) (2 * (k + 1))).data.toList.length = 2 := by rw [bs_len, hexs]
      match hq : (s.extract (2 * k) (2 * (k + 1))).data.toList, hln with
      | [a, b], _ =>
        rw [hq] at h0 h1
        simp only [List.getElem?_cons_zero, Option.some.injEq, List.getElem?_cons_succ] at h0 h1
        subst h0; subst h1
        simp only [byteV, List.map_cons, List.map_nil, toNat_of _ (byt_lt _ _), Nat.add_zero]
    have hl8 := ho7.len
    rw [hbs] at hl8
    have hl8 : l8.len = 2 := hl8
    have hrd := ho7.reads
    rw [hbs] at hrd
    refine ⟨⟨by omega, by omega, by omega⟩, w7, l8, hr7, fun n i w' => w' = w7 ∧ ((n = 0 ∧ i = 0) ∨ (n = (x : Int) ∧ i = 1) ∨ (n = ((16 * x + y : Nat) : Int) ∧ i = 2)), fun _ i _ => 2 - i.toNat, ⟨rfl, .inl ⟨rfl, rfl⟩⟩, ?_⟩
    rintro n i w13 ⟨hw, hni⟩
    replace hw := hw.symm
    subst hw
    rw [hl8]
    have dval : ∀ {c v : Nat}, dg c = some v → ((decide ((c : Int) > 57) = true → IntKind.i64.wrap (IntKind.u8.wrap (IntKind.u8.wrap ((c : Int) - 39) - 48)) = (v : Int)) ∧ (decide ((c : Int) > 57) = false → IntKind.i64.wrap (IntKind.u8.wrap ((c : Int) - 48)) = (v : Int))) := fun {c v} h => by
      unfold dg at h
      split at h
      · cases h
        refine ⟨fun hh => absurd (of_decide_eq_true hh) (by omega), fun _ => ?_⟩
        rw [wrap_u8 (by omega) (by omega), wrap_i64 (by omega) (by omega)]; omega
      · split at h
        · cases h
          refine ⟨fun _ => ?_, fun hh => absurd (of_decide_eq_false hh) (by omega)⟩
          rw [wrap_u8 (x := (c : Int) - 39) (by omega) (by omega), wrap_u8 (by omega) (by omega), wrap_i64 (by omega) (by omega)]; omega
        · cases h
    rcases hni with ⟨rfl, rfl⟩ | ⟨rfl, rfl⟩ | ⟨rfl, rfl⟩
    · obtain ⟨a, ha, hc⟩ := hrd 0 _ rfl
      refine ⟨fun _ => ⟨⟨by decide, by decide⟩, a, ha, _, hc, fun h => ⟨⟨rfl, .inr (.inl ⟨?_, by decide⟩)⟩, show 2 - (IntKind.i64.wrap (0 + 1)).toNat < 2 - (0 : Int).toNat by decide⟩, fun h => ⟨⟨rfl, .inr (.inl ⟨?_, by decide⟩)⟩, show 2 - (IntKind.i64.wrap (0 + 1)).toNat < 2 - (0 : Int).toNat by decide⟩⟩, fun h => absurd (of_decide_eq_false h) (by decide)⟩
      · rw [(dval hx).1 h, show IntKind.i64.wrap (16 * 0) = 0 by decide, Int.zero_add, wrap_i64 (by omega) (by omega)]
      · rw [(dval hx).2 h, show IntKind.i64.wrap (16 * 0) = 0 by decide, Int.zero_add, wrap_i64 (by omega) (by omega)]
    · obtain ⟨a, ha, hc⟩ := hrd 1 _ rfl
      refine ⟨fun _ => ⟨⟨by decide, by decide⟩, a, ha, _, hc, fun h => ⟨⟨rfl, .inr (.inr ⟨?_, by decide⟩)⟩, show 2 - (IntKind.i64.wrap (1 + 1)).toNat < 2 - (1 : Int).toNat by decide⟩, fun h => ⟨⟨rfl, .inr (.inr ⟨?_, by decide⟩)⟩, show 2 - (IntKind.i64.wrap (1 + 1)).toNat < 2 - (1 : Int).toNat by decide⟩⟩, fun h => absurd (of_decide_eq_false h) (by decide)⟩
      · rw [(dval hy).1 h, wrap_i64 (x := 16 * (x : Int)) (by omega) (by omega), wrap_i64 (by omega) (by omega)]; omega
      · rw [(dval hy).2 h, wrap_i64 (x := 16 * (x : Int)) (by omega) (by omega), wrap_i64 (by omega) (by omega)]; omega
    · refine ⟨fun h => absurd (of_decide_eq_true h) (by decide), fun _ w16 h16 => ?_⟩
      have ev : IntKind.u8.wrap ((16 * x + y : Nat) : Int) = ((16 * x + y : Nat) : Int) := wrap_u8 (by omega) (by omega)
      rw [ev] at h16
      have ho13 := ho.keep hf7 (by simp)
      obtain ⟨w17, l18, hr17, ho17, hf17, _⟩ := append_one' elByteH ho13 (v := .int .u8 ((16 * x + y : Nat) : Int)) rfl (by rw [bv_len, hrl]; unfold maxLen; omega) (by rw [bv_len, hrl]; omega) (Nat.le_trans hf.size hf7.size) h16
      have ht := unhexL_take k s.data.toList r hr (by rw [bs_len]; omega) _ _ (bs_get (by omega)) (bs_get (by omega))
      rw [toNat_of _ (byt_lt _ _), toNat_of _ (byt_lt _ _), hx, hy] at ht
      refine ⟨w17, l18, hr17, ⟨k + 1, _, rfl, by omega, ht, ?_, ?_⟩, by dsimp only; omega⟩
      · rw [← bv_snoc _ _ (by omega)]; exact ho17
      · exact (hf.trans' hf7).trans hf17 fun q hq ⟨y, hy, e⟩ => by
          have := (ho13.blk hy).1; omega
  · have hge := of_decide_eq_false hge
    have hks : 2 * k = s.size := by omega
    rw [hks, bs_all, hl] at hr
    cases hr
    exact ⟨_, _, bytes_str (e := T_uint8) (by kernel_rfl) (by kernel_rfl) (by kernel_rfl) l4.cap ho.reads (by rw [ho.len, bv_len]), rfl, hf⟩
/-- The reference's 'Text', of entries in form. -/
theorem rtext_spec {w : World} {a : Option Addr} {n c : Nat} {xs : List Ent} (hE : Ents w a n xs) (hok : ∀ x ∈ xs, entOK isGit x = true) (hn : n ≤ 1000000) : Calls Tryd.prog F_cartularyref14_Text #[.slice a n c] w fun e w' => e = .returned (.string ⟨(bytesE xs).toArray⟩) ∧ Fr (fun _ => False) w w' := by
  refine vc_cartularyref14_Text_ok (R := fun v w' => v = .string ⟨(bytesE xs).toArray⟩ ∧ Fr (fun _ => False) w w') ?_ (fun v w' h => ⟨by rw [h.1], h.2⟩)
  have hlen := hE.len
  refine ⟨fun t i w' => ∃ k : Nat, i = k ∧ k ≤ n ∧ t = ⟨(bytesE (xs.take k)).toArray⟩ ∧ Fr (fun _ => False) w w', fun _ i _ => n - i.toNat, ⟨0, rfl, Nat.zero_le _, rfl, .refl _ _⟩, ?_⟩
  rintro t i w5 ⟨k, rfl, hk, rfl, hf⟩
  have hlb : (bytesE (xs.take k)).length ≤ 128000000 := by
    have := bytesE_len (xs.take k) fun y hy => hok y (List.mem_of_mem_take hy)
    rw [List.length_take] at this; omega
  refine ⟨fun hlt => ?_, fun hge => ?_⟩
  · have hlt := of_decide_eq_true hlt
    have hkl : k < xs.length := by omega
    have hx : xs[k]? = some xs[k] := List.getElem?_eq_getElem hkl
    generalize xs[k] = x at hx
    have hxm : x ∈ xs := List.mem_of_getElem? hx
    have hxo := hok x hxm
    obtain ⟨ad, had, hload⟩ := (hE.reads.keep hf (by simp)).load elE hx
    refine ⟨⟨by omega, by omega⟩, ad, had, x.mode, x.name, x.id, by rw [Int.toNat_natCast]; exact hload, fun w10 h10 => ?_⟩
    subst h10
    refine ⟨_, boxE_run w5 x, fun w12 d12 => ?_⟩
    have hb12 : Fr (fun _ => False) (w5.alloc (.cells (encE x).toArray T_api_Entry)) w12 := .drew _ d12
    have hf12 : Fr (fun _ => False) w w12 := (hf.trans' (.alloc _ _ _)).trans' hb12
    refine ⟨fun w' => Fr (fun _ => False) w12 w', .refl _ _, x.mode, fun w' hw' => boxE_cell w5 x (hb12.trans' hw') (by simp) (j := 0) rfl, x.name, fun w' hw' => boxE_cell w5 x (hb12.trans' hw') (by simp) (j := 1) rfl, x.id, fun w' hw' => boxE_cell w5 x (hb12.trans' hw') (by simp) (j := 2) rfl, (rmode_spec x.mode w12).mono ?_⟩
    rintro e w21 ⟨rfl, hf21⟩
    obtain ⟨l, hl⟩ : ∃ l, unhexL x.id.data.toList = some l := by
      unfold entOK isId at hxo
      simp only [Bool.and_eq_true] at hxo
      exact Option.isSome_iff_exists.1 hxo.2.1
    have hidl : x.id.size = 40 := by
      unfold entOK isId at hxo
      simp only [Bool.and_eq_true, beq_iff_eq, bs_len] at hxo
      exact hxo.2.2
    have hel := entB_len hxo
    have hbytes : (modeText x.mode ++ ⟨⟨[32]⟩⟩ ++ x.name ++ ⟨⟨[0]⟩⟩ ++ (⟨l.toArray⟩ : ByteArray)).data.toList = entB x := by
      simp only [bs_app, entB, hl, Option.getD_some]
    have hsz : (modeText x.mode ++ ⟨⟨[32]⟩⟩ ++ x.name ++ ⟨⟨[0]⟩⟩ ++ (⟨l.toArray⟩ : ByteArray)).size ≤ 128 := by rw [← bs_len, hbytes]; exact hel
    have hsz' := hsz
    simp only [ByteArray.size_append] at hsz'
    have h1 : (modeText x.mode).size + 1 ≤ 9223372036854775807 := by omega
    have h2 : (modeText x.mode ++ ⟨⟨[32]⟩⟩).size + x.name.size ≤ 9223372036854775807 := by simp only [ByteArray.size_append]; omega
    have h3 : (modeText x.mode ++ ⟨⟨[32]⟩⟩ ++ x.name).size + 1 ≤ 9223372036854775807 := by
      have : ByteArray.size ⟨⟨[0]⟩⟩ = 1 := rfl
      simp only [ByteArray.size_append]; omega
    refine ⟨_, rfl, hf21, h1, h2, h3, (runhex_spec x.id (by omega) hl w21).mono ?_⟩
    rintro e w24 ⟨rfl, hf24⟩
    have h4 : (modeText x.mode ++ ⟨⟨[32]⟩⟩ ++ x.name ++ ⟨⟨[0]⟩⟩).size + (⟨l.toArray⟩ : ByteArray).size ≤ 9223372036854775807 := by simp only [ByteArray.size_append]; omega
    have e1 : IntKind.i64.wrap ((k : Int) + 1) = ((k + 1 : Nat) : Int) := by rw [wrap_i64 (by omega) (by omega)]; omega
    refine ⟨_, rfl, hf21.trans' hf24, h4, ?_⟩
    generalize modeText x.mode ++ ⟨⟨[32]⟩⟩ ++ x.name ++ ⟨⟨[0]⟩⟩ ++ (⟨l.toArray⟩ : ByteArray) = S at hsz hbytes ⊢
    rw [e1]
    refine ⟨by rw [bs_mksize]; omega, ⟨k + 1, rfl, by omega, ?_, hf12.trans' (hf21.trans' hf24)⟩, by dsimp only; omega⟩
    refine bs_ext ?_
    rw [bs_app, bs_mk, bs_mk, hbytes, bytesE_take hx]
  · have hge := of_decide_eq_false hge
    have : k = xs.length := by omega
    rw [this, List.take_of_length_le (Nat.le_refl _)]
    exact ⟨rfl, hf⟩
theorem textMode_at {s : ByteArray} {k : Nat} (hk : k < 5) (h : modeS.getD k ⟨#[]⟩ = s) : textMode s = modeI.getD k 0 := by
  subst h
  match k, hk with
  | 0, _ => rfl
  | 1, _ => rfl
  | 2, _ => rfl
  | 3, _ => rfl
  | 4, _ => rfl
theorem textMode_no {s : ByteArray} (h : ∀ k, k < 5 → modeS.getD k ⟨#[]⟩ ≠ s) : textMode s = 0 := by
  have h0 : s40000 ≠ s := h 0 (by decide)
  have h1 : s100644 ≠ s := h 1 (by decide)
  have h2 : s100755 ≠ s := h 2 (by decide)
  have h3 : s120000 ≠ s := h 3 (by decide)
  have h4 : s160000 ≠ s := h 4 (by decide)
  unfold textMode
  rw [if_neg h0.symm, if_neg h1.symm, if_neg h2.symm, if_neg h3.symm, if_neg h4.symm]
theorem modeS_ne {j k : Nat} (hj : j < 5) (hk : k < 5) (h : j ≠ k) : modeS.getD j ⟨#[]⟩ ≠ modeS.getD k ⟨#[]⟩ := by
  have : ((List.range 5).all fun j => (List.range 5).all fun k => decide (j = k) || decide (modeS.getD j ⟨#[]⟩ ≠ modeS.getD k ⟨#[]⟩)) = true := by decide +kernel
  have h1 := List.all_eq_true.1 this j (List.mem_range.2 hj)
  have h2 := List.all_eq_true.1 h1 k (List.mem_range.2 hk)
  rw [Bool.or_eq_true, decide_eq_true_eq, decide_eq_true_eq] at h2
  exact h2.resolve_left h
/-- The reference's 'Parse'. -/
theorem rparse_spec (s : ByteArray) (hs : s.size ≤ 1000000) (w : World) : Calls Tryd.prog F_cartularyref14_Parse #[.string s] w fun e w' =>
    ∃ l, e = .returned (.tuple #[.slice l.a l.len l.cap, .int .i64 (parseE (s.size + 1) s []).2]) ∧ OwnK encE 3 w' w.heap.size T_api_Entry l (parseE (s.size + 1) s []).1 ∧ Fr (fun _ => False) w w' := by
  obtain ⟨r, hr⟩ : ∃ r, parseE (s.size + 1) s [] = r := ⟨_, rfl⟩
  rw [hr]
  refine vc_cartularyref14_Parse_ok (R := fun v w' => ∃ l, v = .tuple #[.slice l.a l.len l.cap, .int .i64 r.2] ∧ OwnK encE 3 w' w.heap.size T_api_Entry l r.1 ∧ Fr (fun _ => False) w w') ?_ (fun v w' ⟨l, h⟩ => ⟨l, by rw [h.1], h.2⟩)
  have err : ∀ {w' : World} {e : Int}, Fr (fun _ => False) w w' → r = ([], e) → ∃ l : Sl, Value.tuple #[.slice none 0 0, .int .i64 e] = .tuple #[.slice l.a l.len l.cap, .int .i64 r.2] ∧ OwnK encE 3 w' w.heap.size T_api_Entry l r.1 ∧ Fr (fun _ => False) w w' := fun {w' e} hf h =>
    ⟨⟨none, 0, 0⟩, by rw [h], by rw [h]; exact .nil _ _ _, hf⟩
  intro w1 h1
  have ho1 : OwnK encE 3 w1 w.heap.size T_api_Entry ⟨some ⟨w.heap.size, 0, none⟩, 0, 0⟩ [] := by rw [h1]; exact OwnK.empty w T_api_Entry
  have hf1 : Fr (fun _ => False) w w1 := by rw [h1]; exact .alloc _ _ _
  clear h1
  refine (modes_spec w1).mono ?_
  rintro e w3 ⟨lm, ls, rfl, hM, hmn, hf3⟩
  refine ⟨lm, ls, rfl, fun t l w' => ∃ f acc, t.size < f ∧ parseE f t acc = r ∧ t.size ≤ s.size ∧ Small s.size acc ∧ acc.length ≤ 500 ∧ OwnK encE 3 w' w.heap.size T_api_Entry l acc ∧ l.len ≤ l.cap ∧ Modes w' lm ls ∧ (∀ x, l.a = some x → ∀ y, (lm.a = some y ∨ ls.a = some y) → x.block ≠ y.block) ∧ Fr (fun _ => False) w w', fun t _ _ => t.size, ?_, ?_⟩
  · refine ⟨s.size + 1, [], by omega, hr, Nat.le_refl _, fun x hx => by simp at hx, Nat.zero_le _, ho1.keep hf3 (by simp), Nat.le_refl _, hM, ?_, hf1.trans' hf3⟩
    intro x hx y hy
    simp only [Option.some.injEq] at hx
    subst hx
    have h1 := hmn y hy
    have h2 := hf1.size
    have h3 := (ho1.blk (x := ⟨w.heap.size, 0, none⟩) rfl).2
    simp only at h3
    simp only
    omega
  rintro t l9 w10 ⟨f, acc, hfs, hp, hts, hsm, hac, ho, hlc, hM, hne, hf⟩
  obtain ⟨f, rfl⟩ : ∃ g, f = g + 1 := ⟨f - 1, by omega⟩
  rw [parseE] at hp
  refine ⟨fun hpos => ?_, fun he => ?_⟩
  · have hpos := of_decide_eq_true hpos
    have hnz : t ≠ ⟨#[]⟩ := by rw [Ne, bs_empty]; omega
    rw [if_neg hnz] at hp
    refine (find_spec t (by omega) 0 (by decide) w10).mono ?_
    rintro e w12 ⟨rfl, hw⟩
    replace hw := hw.symm
    subst hw
    rw [show UInt8.ofNat 0 = 0 from rfl]
    refine ⟨_, rfl, ?_⟩
    unfold cutS at hp
    rcases fnd_cases t 0 with ⟨h0, _⟩ | ⟨i, h0, hi, _⟩
    · rw [h0] at hp ⊢
      rw [if_pos rfl, if_pos rfl] at hp
      exact ⟨fun _ => err hf hp.symm, fun h => absurd h (by decide)⟩
    rw [h0] at hp ⊢
    rw [if_neg (show ¬ ((i : Int) = -1) by omega), Int.toNat_natCast] at hp
    simp only [if_neg (show ¬ (true = false) by decide)] at hp
    have e1 : IntKind.i64.wrap ((t.size : Int) - (i : Int)) = ((t.size - i : Nat) : Int) := by rw [wrap_i64 (by omega) (by omega)]; omega
    rw [e1, Int.toNat_natCast]
    refine ⟨fun h => absurd (of_decide_eq_true h) (by omega), fun _ => ⟨fun h21 => ?_, fun h21 => ⟨⟨by omega, by omega⟩, ?_⟩⟩⟩
    · have h21 := of_decide_eq_true h21
      rw [if_pos (by simp only [ByteArray.size_extract]; omega)] at hp
      exact err hf hp.symm
    have h21 := of_decide_eq_false h21
    rw [if_neg (by simp only [ByteArray.size_extract]; omega)] at hp
    refine (find_spec (t.extract 0 i) (by simp; omega) 32 (by decide) w10).mono ?_
    rintro e w15 ⟨rfl, hw⟩
    replace hw := hw.symm
    subst hw
    rw [show UInt8.ofNat 32 = 32 from rfl]
    refine ⟨_, rfl, ?_⟩
    rcases fnd_cases (t.extract 0 i) 32 with ⟨h3, _⟩ | ⟨j, h3, hj, _⟩
    · rw [h3] at hp ⊢
      rw [if_pos rfl, if_pos rfl] at hp
      exact ⟨fun _ => err hf hp.symm, fun h => absurd h (by decide)⟩
    have hji : j < i := by rw [ByteArray.size_extract] at hj; omega
    rw [h3] at hp ⊢
    rw [if_neg (show ¬ ((j : Int) = -1) by omega), Int.toNat_natCast] at hp
    simp only [if_neg (show ¬ (true = false) by decide)] at hp
    have hm : (t.extract 0 i).extract 0 j = t.extract 0 j := by
      refine bs_ext ?_
      rw [bs_head, bs_head, bs_head, List.take_take, Nat.min_eq_left (by omega)]
    rw [hm] at hp
    have hts0 : ∀ q, (t.extract 0 j).size = q → q = j := fun q h => by rw [← h, ByteArray.size_extract]; omega
    refine ⟨fun h => absurd (of_decide_eq_true h) (by omega), fun _ => ?_⟩
    rw [hM.ll, hM.rl, Int.toNat_natCast]
    refine ⟨fun m q w' => w' = w10 ∧ ∃ p : Nat, q = p ∧ p ≤ 5 ∧ (m = textMode (t.extract 0 j) ∧ (∃ b, b < p ∧ modeS.getD b ⟨#[]⟩ = t.extract 0 j) ∨ m = 0 ∧ ∀ b, b < p → modeS.getD b ⟨#[]⟩ ≠ t.extract 0 j), fun _ q _ => 5 - q.toNat, ⟨rfl, 0, rfl, Nat.zero_le _, .inr ⟨rfl, fun b hb => by omega⟩⟩, ?_⟩
    rintro m q w21 ⟨hw, p, rfl, hp5, hmq⟩
    replace hw := hw.symm
    subst hw
    have e5 : IntKind.i64.wrap ((p : Int) + 1) = ((p + 1 : Nat) : Int) := by rw [wrap_i64 (by omega) (by omega)]; omega
    rw [e5]
    refine ⟨fun hlt => ?_, fun hge => ?_⟩
    · have hlt := of_decide_eq_true hlt
      obtain ⟨a, b, ha, hb, hca, hcb⟩ := modes_at hM (show p < 5 by omega)
      refine ⟨⟨by omega, by omega⟩, b, hb, modeS.getD p ⟨#[]⟩, by rw [Int.toNat_natCast, Nat.mul_one]; exact hcb, ⟨by omega, by omega⟩, fun he => ?_, fun hne2 => ?_⟩
      · rw [bs_eq] at he
        have he := of_decide_eq_true he
        exact ⟨⟨by omega, by omega⟩, a, ha, modeI.getD p 0, by rw [Int.toNat_natCast, Nat.mul_one]; exact hca, ⟨rfl, p + 1, rfl, by omega, .inl ⟨(textMode_at (by omega) he).symm, p, by omega, he⟩⟩, by dsimp only; omega⟩
      · rw [bs_eq] at hne2
        have hne2 := of_decide_eq_false hne2
        refine ⟨⟨rfl, p + 1, rfl, by omega, ?_⟩, by dsimp only; omega⟩
        rcases hmq with ⟨h4, b', hb', h5⟩ | ⟨h4, h5⟩
        · exact .inl ⟨h4, b', by omega, h5⟩
        · refine .inr ⟨h4, fun b' hb' => ?_⟩
          by_cases hbp : b' = p
          · rw [hbp]; exact hne2
          · exact h5 b' (by omega)
    have hge := of_decide_eq_false hge
    have hp55 : p = 5 := by omega
    subst hp55
    have hmt : m = textMode (t.extract 0 j) := by
      rcases hmq with ⟨h4, _⟩ | ⟨h4, h5⟩
      · exact h4
      · rw [h4, textMode_no h5]
    clear hmq
    rw [← hmt] at hp
    refine ⟨fun hm0 => ?_, fun hm0 w26 d26 => ?_⟩
    · rw [if_pos (eq_of_beq hm0)] at hp
      exact err hf hp.symm
    have hm0 : ¬ m = 0 := fun e => by rw [e] at hm0; simp at hm0
    rw [if_neg hm0] at hp
    have e6 : IntKind.i64.wrap ((j : Int) + 1) = ((j + 1 : Nat) : Int) := by rw [wrap_i64 (by omega) (by omega)]; omega
    have e7 : IntKind.i64.wrap ((i : Int) + 1) = ((i + 1 : Nat) : Int) := by rw [wrap_i64 (by omega) (by omega)]; omega
    have e8 : IntKind.i64.wrap ((i : Int) + 21) = ((i + 21 : Nat) : Int) := by rw [wrap_i64 (by omega) (by omega)]; omega
    rw [e6, e7, e8]
    simp only [Int.toNat_natCast]
    refine ⟨fun w' => True, trivial, ⟨by omega, by omega, by omega⟩, ⟨by omega, by omega, by omega⟩, (rhex_spec (t.extract (i + 1) (i + 21)) (by simp; omega) w26).mono ?_⟩
    rintro e w29 ⟨rfl, d29⟩
    refine ⟨_, rfl, trivial, fun w31 h31 => ⟨trivial, ?_⟩⟩
    have hfw : Fr (fun _ => False) w10 w29 := (Fr.drew (fun _ => False) d26).trans' (.drew _ d29)
    have ho29 := ho.keep hfw (by simp)
    obtain ⟨w32, l33, hr32, ho32, hf32, hsi⟩ := append_oneK elE ho29 (x := ⟨m, t.extract (j + 1) i, ⟨(hexL (t.extract (i + 1) (i + 21)).data.toList).toArray⟩⟩) (by unfold maxLen; omega) (by omega) (Nat.le_trans hf.size hfw.size) h31
    have hfe : Fr (fun _ => False) w w32 := (hf.trans' hfw).trans hf32 fun q hq ⟨y, hy, e⟩ => by have := (ho29.blk hy).1; omega
    have hl33 := ho32.len
    rw [List.length_append, List.length_singleton] at hl33
    have hx1 : (t.extract (i + 1) t.size).extract 0 20 = t.extract (i + 1) (i + 21) := by
      refine bs_ext ?_
      rw [bs_head, bs_tail, bs_extract, show i + 21 - (i + 1) = 20 by omega]
    have hx2 : (t.extract 0 i).extract (j + 1) (t.extract 0 i).size = t.extract (j + 1) i := by
      refine bs_ext ?_
      rw [bs_tail, bs_head, bs_extract, List.drop_take]
    have hx3 : (t.extract (i + 1) t.size).extract 20 (t.extract (i + 1) t.size).size = t.extract (i + 21) t.size := by
      refine bs_ext ?_
      rw [bs_tail, bs_tail, bs_tail, List.drop_drop]
    rw [hx1, hx2, hx3] at hp
    refine ⟨w32, l33, hr32, trivial, ⟨by omega, by omega⟩, fun hbig => ?_, fun hbig => ⟨⟨f, _, ?_, ?_, ?_, ?_, ?_, ho32, ho32.cap, ?_, ?_, hfe⟩, ?_⟩⟩
    · have hbig := of_decide_eq_true hbig
      rw [if_pos (by omega)] at hp
      exact err hfe hp.symm
    · simp only [ByteArray.size_extract]; omega
    · have hbig := of_decide_eq_false hbig
      rw [if_neg (by omega)] at hp
      exact hp
    · simp only [ByteArray.size_extract]; omega
    · intro x hx
      rcases List.mem_append.1 hx with hx | hx
      · exact hsm x hx
      · simp only [List.mem_cons, List.mem_nil_iff, or_false] at hx
        subst hx
        refine ⟨by simp only [ByteArray.size_extract]; omega, ?_⟩
        simp only [bs_mksize, hexL_length, bs_len, ByteArray.size_extract]; omega
    · have hbig := of_decide_eq_false hbig
      rw [List.length_append, List.length_singleton]; omega
    · refine (hM.keep hfw (by simp) (by simp)).keep hf32 ?_ ?_
      · rintro x hx ⟨y, hy, e⟩; exact hne y hy x (.inl hx) e.symm
      · rintro x hx ⟨y, hy, e⟩; exact hne y hy x (.inr hx) e.symm
    · intro x hx y hy
      have hylt : y.block < w29.heap.size := by
        rcases hy with hy | hy
        · obtain ⟨y', hy', hl'⟩ := hM.lr.lt (by simp [modeI])
          rw [hy] at hy'; cases hy'; exact Nat.lt_of_lt_of_le hl' hfw.size
        · obtain ⟨y', hy', hl'⟩ := hM.rr.lt (by simp [modeS])
          rw [hy] at hy'; cases hy'; exact Nat.lt_of_lt_of_le hl' hfw.size
      rcases hsi x hx with ⟨x', hx', hb'⟩ | hnew
      · rw [← hb']; exact hne x' hx' y hy
      · omega
    · simp only [ByteArray.size_extract]; omega
  · have he := of_decide_eq_false he
    have he : t = ⟨#[]⟩ := by rw [bs_empty]; omega
    rw [if_pos he] at hp
    refine (rcheck_spec (hsm.ents (by omega) ho) hlc).mono ?_
    rintro e w35 ⟨rfl, hf35⟩
    refine ⟨_, rfl, fun hc => ?_, fun hc => ?_⟩
    · rw [if_neg (fun e => by rw [e] at hc; simp at hc)] at hp
      exact err (hf.trans' hf35) hp.symm
    · have hc : checkE isGit acc = 0 := by simpa using hc
      rw [if_pos hc] at hp
      rw [← hp]
      exact ⟨l9, rfl, ho.keep hf35 (by simp), hf.trans' hf35⟩
/-- The reference's 'Same'. -/
theorem same_spec {w : World} {a b : Option Addr} {n m c d : Nat} {xs ys : List Ent} (hx : Ents w a n xs) (hy : Ents w b m ys) (hn : n ≤ 1000000) : Calls Tryd.prog F_cartularyref14_Same #[.slice a n c, .slice b m d] w fun e w' => (∃ r : Bool, e = .returned (.bool r) ∧ (r = true ↔ xs = ys)) ∧ Drew w w' := by
  refine vc_cartularyref14_Same_ok (R := fun v w' => (∃ r : Bool, v = .bool r ∧ (r = true ↔ xs = ys)) ∧ Drew w w') ?_ (fun v w' ⟨⟨r, h1, h2⟩, h3⟩ => ⟨⟨r, by rw [h1], h2⟩, h3⟩)
  have hlx := hx.len
  have hly := hy.len
  refine ⟨fun h => ⟨⟨false, rfl, fun h => (by cases h), fun e => ?_⟩, .refl _⟩, fun h => ?_⟩
  · rw [← hlx, ← hly, e] at h; simp at h
  have hnm : n = m := by have h : (n : Int) = (m : Int) := by simpa using h
                         omega
  refine ⟨fun i w' => ∃ k : Nat, i = k ∧ k ≤ n ∧ xs.take k = ys.take k ∧ Drew w w', fun i _ => n - i.toNat, ⟨0, rfl, Nat.zero_le _, rfl, .refl _⟩, ?_⟩
  rintro i w4 ⟨k, rfl, hk, heq, hd⟩
  have e1 : IntKind.i64.wrap ((k : Int) + 1) = ((k + 1 : Nat) : Int) := by rw [wrap_i64 (by omega) (by omega)]; omega
  rw [e1]
  refine ⟨fun hlt w5 d5 => ?_, fun hge => ?_⟩
  · have hlt := of_decide_eq_true hlt
    have gx : xs[k]? = some (xs[k]'(by omega)) := List.getElem?_eq_getElem (by omega)
    have gy : ys[k]? = some (ys[k]'(by omega)) := List.getElem?_eq_getElem (by omega)
    generalize xs[k]'(by omega) = x at gx
    generalize ys[k]'(by omega) = y at gy
    have hd5 := hd.trans d5
    have lx : ∀ w', Drew w5 w' → ∃ ad, a = some ad ∧ (loadVar T_api_Entry (ad.add (k * 3))).run Tryd.prog w' = .ok (.agg (encE x).toArray) w' := fun w' d => (hx.reads.keep (.drew (fun _ => False) (hd5.trans d)) (by simp)).load elE gx
    have ly : ∀ w', Drew w5 w' → ∃ ad, b = some ad ∧ (loadVar T_api_Entry (ad.add (k * 3))).run Tryd.prog w' = .ok (.agg (encE y).toArray) w' := fun w' d => (hy.reads.keep (.drew (fun _ => False) (hd5.trans d)) (by simp)).load elE gy
    obtain ⟨ad, had, _⟩ := lx w5 (.refl _)
    obtain ⟨bd, hbd, _⟩ := ly w5 (.refl _)
    refine ⟨fun w' => Drew w5 w', .refl _, ⟨by omega, by omega⟩, ad, had, ⟨by omega, by omega⟩, bd, hbd, x.mode, x.name, x.id, fun w' hw' => ?_, y.mode, y.name, y.id, fun w' hw' => ?_, fun hne => ⟨⟨false, rfl, fun h => (by cases h), fun e => ?_⟩, hd5⟩, fun he => ⟨⟨k + 1, rfl, by omega, ?_, hd5⟩, by dsimp only; omega⟩⟩
    · obtain ⟨ad', h1, h2⟩ := lx w' hw'
      rw [had] at h1; cases h1
      rw [Int.toNat_natCast]; exact h2
    · obtain ⟨bd', h1, h2⟩ := ly w' hw'
      rw [hbd] at h1; cases h1
      rw [Int.toNat_natCast]; exact h2
    · rw [e, gy] at gx
      cases gx
      simp at hne
    · have hxy : x = y := by
        rw [bs_eq, bs_eq] at he
        simp only [Bool.not_eq_false', Bool.and_eq_true, beq_iff_eq, decide_eq_true_eq] at he
        obtain ⟨x1, x2, x3⟩ := x
        obtain ⟨y1, y2, y3⟩ := y
        obtain ⟨h1, h2, h3⟩ := he
        simp only at h1 h2 h3
        subst h1; subst h2; subst h3; rfl
      rw [List.take_add_one, List.take_add_one, gx, gy, heq, hxy]
  · have hge := of_decide_eq_false hge
    refine ⟨⟨true, rfl, fun _ => ?_, fun _ => rfl⟩, hd⟩
    rw [List.take_of_length_le (by omega), List.take_of_length_le (by omega)] at heq
    exact heq
/-- The law's 'Few'. -/
theorem fewE_spec {w : World} {a : Option Addr} {n c : Nat} {xs : List Ent} (hE : Ents w a n xs) (hc : n ≤ c) : Calls Tryd.prog F_cartularylaw14_Few #[.slice a n c] w fun e w' => ∃ l, e = .returned (.slice l.a l.len l.cap) ∧ OwnK encE 3 w' w.heap.size T_api_Entry l (xs.take 600) ∧ Fr (fun _ => False) w w' := by
  refine vc_cartularylaw14_Few_ok (R := fun v w' => ∃ l : Sl, v = .slice l.a l.len l.cap ∧ OwnK encE 3 w' w.heap.size T_api_Entry l (xs.take 600) ∧ Fr (fun _ => False) w w') ?_ (fun v w' ⟨l, h⟩ => ⟨l, by rw [h.1], h.2⟩)
  have hlen := hE.len
  have key : ∀ (src : Option Addr) (m c' : Nat), ReadsK encE 3 w src (xs.take 600) → (xs.take 600).length = m → ∀ w1, w1 = w.alloc (.cells #[] T_api_Entry) →
      ∃ (w2 : World) (l3 : Sl), (Builtin.append_ #[T_S_api_Entry, T_S_api_Entry] T_S_api_Entry #[.slice (some ⟨w.heap.size, 0, none⟩) 0 0, .slice src m c']).run Tryd.prog w1 = .ok (.slice l3.a l3.len l3.cap) w2 ∧ ∃ l : Sl, Value.slice l3.a l3.len l3.cap = .slice l.a l.len l.cap ∧ OwnK encE 3 w2 w.heap.size T_api_Entry l (xs.take 600) ∧ Fr (fun _ => False) w w2 := fun src m c' hr hm w1 h1 => by
    subst h1
    have hl6 : (xs.take 600).length ≤ 600 := by rw [List.length_take]; omega
    obtain ⟨w2, l3, h2, ho, hf⟩ := append_allK elE (OwnK.empty (enc := encE) (k := 3) w T_api_Entry) c' (hr.keep (.alloc (fun _ => False) _ _) (by simp)) (by simp only [List.length_nil]; unfold maxLen; omega) (by simp only [List.length_nil]; omega) (by simp) hm
    refine ⟨w2, l3, h2, l3, rfl, by simpa using ho, (Fr.alloc _ _ _).trans hf fun q hq ⟨y, hy, e⟩ => ?_⟩
    simp only [Option.some.injEq] at hy
    subst hy
    simp only at e; omega
  refine ⟨fun h => ⟨⟨by decide, ?_⟩, key _ _ _ ?_ ?_⟩, fun h => key _ _ _ (hE.reads.take 600) ?_⟩
  · have h := of_decide_eq_true h; omega
  · unfold subA
    split
    · exact hE.reads.take 600
    · have := hE.reads.take 600
      cases a with
      | none => exact this
      | some x => simpa [Addr.add] using this
  · have h := of_decide_eq_true h
    rw [List.length_take]
    show min 600 xs.length = 600
    omega
  · have h := of_decide_eq_false h
    rw [List.length_take]; omega
end Go.Proofs.YtmihbbgojkbaeaaDoor

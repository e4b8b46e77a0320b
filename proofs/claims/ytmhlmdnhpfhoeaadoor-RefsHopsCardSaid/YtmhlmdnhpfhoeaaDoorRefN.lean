/- Beginnings, ends and parts of texts; the reference's 'Has' and 'Name'. Conditions: texts are no longer than memory; the library's variable MaxLen holds some number. -/
import Derived.Test.YtmhlmdnhpfhoeaaDoorRefA
import Derived.Test.YtmhlmdnhpfhoeaaDoorRef16
import Derived.Test.YtmhlmdnhpfhoeaaDoorStr1
import Derived.Test.YtmhlmdnhpfhoeaaDoorStr2
import Derived.Test.YtmhlmdnhpfhoeaaDoorLaysP
import Derived.Test.YtmhlmdnhpfhoeaaDoorShWrap
import Derived.Shelf.Strings.Search3
set_option linter.unusedVariables false
namespace Go.Proofs.YtmhlmdnhpfhoeaaDoor
open Go Vc Go.Proofs

theorem ext_suf {s t : ByteArray} (h : t.size ≤ s.size) : decide (s.extract (s.size - t.size) s.size = t) = sufL t.data.toList s.data.toList := by
  unfold sufL
  refine decide_eq_decide.2 ?_
  rw [List.suffix_iff_eq_drop, bs_len, bs_len]
  refine ⟨fun e => ?_, fun e => bs_ext ?_⟩
  · conv => lhs; rw [← e]
    rw [bs_tail]
  · rw [bs_tail]; exact e.symm
theorem suf_short {s t : ByteArray} (h : ¬ t.size ≤ s.size) : sufL t.data.toList s.data.toList = false := decide_eq_false fun e => h (by rw [← bs_len, ← bs_len]; exact e.length_le)
theorem suffixL_spec (s t : ByteArray) (hs : s.size ≤ 140737488355328) (w : World) : Calls Tryd.prog F_stringslite_HasSuffix #[.string s, .string t] w fun e w' => e = .returned (.bool (sufL t.data.toList s.data.toList)) ∧ w' = w := by
  refine vc_stringslite_HasSuffix_ok (R := fun v w' => v = .bool (sufL t.data.toList s.data.toList) ∧ w' = w) ?_ (fun v w' h => ⟨by rw [h.1], h.2⟩)
  refine ⟨fun h => ?_, fun h => ⟨by rw [suf_short (by have := of_decide_eq_false h; omega)], rfl⟩⟩
  have h := of_decide_eq_true h
  have e1 : IntKind.i64.wrap ((s.size : Int) - (t.size : Int)) = ((s.size - t.size : Nat) : Int) := by rw [wrap_i64 (by omega) (by omega)]; omega
  rw [e1]
  refine ⟨⟨by omega, by omega⟩, ?_, rfl⟩
  rw [Int.toNat_natCast, bs_eq, ext_suf (by omega)]
theorem suffix_spec (s t : ByteArray) (hs : s.size ≤ 140737488355328) (w : World) : Calls Tryd.prog F_strings_HasSuffix #[.string s, .string t] w fun e w' => e = .returned (.bool (sufL t.data.toList s.data.toList)) ∧ w' = w := by
  refine vc_strings_HasSuffix_ok (R := fun v w' => v = .bool (sufL t.data.toList s.data.toList) ∧ w' = w) ?_ (fun v w' h => ⟨by rw [h.1], h.2⟩)
  refine (suffixL_spec s t hs w).mono ?_
  rintro e w2 ⟨rfl, rfl⟩
  exact ⟨_, rfl, rfl, rfl⟩
theorem prefixL_spec (s t : ByteArray) (w : World) : Calls Tryd.prog F_stringslite_HasPrefix #[.string s, .string t] w fun e w' => e = .returned (.bool (begB s t)) ∧ w' = w := by
  refine vc_stringslite_HasPrefix_ok (R := fun v w' => v = .bool (begB s t) ∧ w' = w) ?_ (fun v w' h => ⟨by rw [h.1], h.2⟩)
  refine ⟨fun h => ⟨⟨by omega, by have := of_decide_eq_true h; omega⟩, ?_, rfl⟩, fun h => ⟨?_, rfl⟩⟩
  · have h := of_decide_eq_true h
    rw [Int.toNat_natCast, begB_cut (by omega)]
  · rw [begB_short (by have := of_decide_eq_false h; omega)]
theorem beg_le {s t : ByteArray} (h : begB s t = true) : t.size ≤ s.size := by
  have := (of_decide_eq_true h : t.data.toList <+: s.data.toList).length_le
  rw [bs_len, bs_len] at this; exact this
theorem suf_le {s t : ByteArray} (h : sufL t.data.toList s.data.toList = true) : t.size ≤ s.size := by
  have := (of_decide_eq_true h : t.data.toList <:+ s.data.toList).length_le
  rw [bs_len, bs_len] at this; exact this
def cutPre (s t : ByteArray) : ByteArray := if begB s t = true then s.extract t.size s.size else s
def cutSuf (s t : ByteArray) : ByteArray := if sufL t.data.toList s.data.toList = true then s.extract 0 (s.size - t.size) else s
theorem cutPrefix_spec (s t : ByteArray) (w : World) : Calls Tryd.prog F_strings_CutPrefix #[.string s, .string t] w fun e w' => e = .returned (.tuple #[.string (cutPre s t), .bool (begB s t)]) ∧ w' = w := by
  refine vc_strings_CutPrefix_ok (R := fun v w' => v = .tuple #[.string (cutPre s t), .bool (begB s t)] ∧ w' = w) ?_ (fun v w' h => ⟨by rw [h.1], h.2⟩)
  refine Calls.mono (R := fun e w' => e = .returned (.tuple #[.string (cutPre s t), .bool (begB s t)]) ∧ w' = w) (vc_stringslite_CutPrefix_ok (R := fun v w' => v = .tuple #[.string (cutPre s t), .bool (begB s t)] ∧ w' = w) ?_ (fun v w' h => ⟨by rw [h.1], h.2⟩)) ?_
  · refine (prefixL_spec s t w).mono ?_
    rintro e w2 ⟨rfl, rfl⟩
    refine ⟨_, rfl, fun h => ⟨?_, rfl⟩, fun h => ⟨⟨by omega, ?_⟩, ?_, rfl⟩⟩
    · have h : begB s t = false := by simpa using h
      unfold cutPre; rw [h]; rfl
    · have := beg_le (show begB s t = true by simpa using h); omega
    · have h : begB s t = true := by simpa using h
      unfold cutPre; rw [h, Int.toNat_natCast]; rfl
  · rintro e w2 ⟨rfl, rfl⟩
    exact ⟨_, _, rfl, rfl, rfl⟩
theorem cutSuffix_spec (s t : ByteArray) (hs : s.size ≤ 140737488355328) (w : World) : Calls Tryd.prog F_strings_CutSuffix #[.string s, .string t] w fun e w' => e = .returned (.tuple #[.string (cutSuf s t), .bool (sufL t.data.toList s.data.toList)]) ∧ w' = w := by
  refine vc_strings_CutSuffix_ok (R := fun v w' => v = .tuple #[.string (cutSuf s t), .bool (sufL t.data.toList s.data.toList)] ∧ w' = w) ?_ (fun v w' h => ⟨by rw [h.1], h.2⟩)
  refine Calls.mono (R := fun e w' => e = .returned (.tuple #[.string (cutSuf s t), .bool (sufL t.data.toList s.data.toList)]) ∧ w' = w) (vc_stringslite_CutSuffix_ok (R := fun v w' => v = .tuple #[.string (cutSuf s t), .bool (sufL t.data.toList s.data.toList)] ∧ w' = w) ?_ (fun v w' h => ⟨by rw [h.1], h.2⟩)) ?_
  · refine (suffixL_spec s t hs w).mono ?_
    rintro e w2 ⟨rfl, rfl⟩
    refine ⟨_, rfl, fun h => ⟨?_, rfl⟩, fun h => ?_⟩
    · have h : sufL t.data.toList s.data.toList = false := by simpa using h
      unfold cutSuf; rw [h]; rfl
    · have h : sufL t.data.toList s.data.toList = true := by simpa using h
      have hle := suf_le h
      have e1 : IntKind.i64.wrap ((s.size : Int) - (t.size : Int)) = ((s.size - t.size : Nat) : Int) := by rw [wrap_i64 (by omega) (by omega)]; omega
      rw [e1]
      refine ⟨⟨by omega, by omega⟩, ?_, rfl⟩
      unfold cutSuf; rw [h, Int.toNat_natCast]; rfl
  · rintro e w2 ⟨rfl, rfl⟩
    exact ⟨_, _, rfl, rfl, rfl⟩
theorem contains2_spec (s t : ByteArray) (hs : s.size < 4294967281) {w : World} (hm : MaxL w) : Calls Tryd.prog F_strings_Contains #[.string s, .string t] w fun e w' => e = .returned (.bool (hasL t.data.toList s.data.toList)) ∧ w' = w := by
  refine vc_strings_Contains_ok (R := fun v w' => v = .bool (hasL t.data.toList s.data.toList) ∧ w' = w) ?_ (fun v w' h => ⟨by rw [h.1], h.2⟩)
  obtain ⟨m, hm⟩ := hm
  refine (Any.strings_Index lays143 s t m w hs hm).mono ?_
  rintro e w2 ⟨rfl, rfl⟩
  refine ⟨_, rfl, ?_, rfl⟩
  rw [← hasL_index]
theorem hasL_pre {t l : List UInt8} (h : t <+: l) : hasL t l = true := by
  cases l with
  | nil =>
    have := List.prefix_nil.1 h
    subst this; rfl
  | cons c r => rw [hasL, List.isPrefixOf_iff_prefix.2 h]; rfl
theorem hasL_short {t : List UInt8} : ∀ {l : List UInt8}, l.length < t.length → hasL t l = false
  | [], h => by
    cases t with
    | nil => simp at h
    | cons a b => rfl
  | c :: r, h => by
    rw [hasL, hasL_short (l := r) (by simp at h; omega), Bool.or_false, Bool.eq_false_iff]
    intro hp
    have := (List.isPrefixOf_iff_prefix.1 hp).length_le
    omega
theorem hasL_step {t l : List UInt8} {k : Nat} (hk : k < l.length) (hn : ¬ t <+: l.drop k) : hasL t (l.drop k) = hasL t (l.drop (k + 1)) := by
  rw [List.drop_eq_getElem_cons hk] at hn ⊢
  rw [hasL, Bool.eq_false_iff.2 (fun h => hn (List.isPrefixOf_iff_prefix.1 h)), Bool.false_or]
theorem ext_pre {s t : ByteArray} {k : Nat} (h : k + t.size ≤ s.size) : decide (s.extract k (k + t.size) = t) = decide (t.data.toList <+: s.data.toList.drop k) := by
  refine decide_eq_decide.2 ?_
  rw [List.prefix_iff_eq_take, bs_len]
  refine ⟨fun e => ?_, fun e => bs_ext ?_⟩
  · conv => lhs; rw [← e]
    rw [bs_extract, show k + t.size - k = t.size by omega]
  · rw [bs_extract, show k + t.size - k = t.size by omega]; exact e.symm
theorem rhas_spec (s t : ByteArray) (hs : s.size ≤ 140737488355328) (ht0 : 0 < t.size) (ht : t.size ≤ 1000) (w : World) : Calls Tryd.prog F_cartularyref16_Has #[.string s, .string t] w fun e w' => e = .returned (.bool (hasL t.data.toList s.data.toList)) ∧ w' = w := by
  refine vc_cartularyref16_Has_ok (R := fun v w' => v = .bool (hasL t.data.toList s.data.toList) ∧ w' = w) ?_ (fun v w' h => ⟨by rw [h.1], h.2⟩)
  refine ⟨fun z w' => w' = w ∧ ∃ k : Nat, z = k ∧ k ≤ s.size ∧ hasL t.data.toList s.data.toList = hasL t.data.toList (s.data.toList.drop k), fun z _ => s.size - z.toNat, ⟨rfl, 0, rfl, Nat.zero_le _, by rw [List.drop_zero]⟩, ?_⟩
  rintro z w4 ⟨hw, k, rfl, hk, hH⟩
  subst hw
  have e1 : IntKind.i64.wrap ((k : Int) + 1) = ((k + 1 : Nat) : Int) := by rw [wrap_i64 (by omega) (by omega)]; omega
  have e2 : IntKind.i64.wrap ((k : Int) + (t.size : Int)) = ((k + t.size : Nat) : Int) := by rw [wrap_i64 (by omega) (by omega)]; omega
  rw [e1, e2]
  refine ⟨fun hlt => ?_, fun hge => ⟨?_, rfl⟩⟩
  · have hlt := of_decide_eq_true hlt
    rw [Int.toNat_natCast, Int.toNat_natCast, bs_eq, ext_pre (by omega)]
    refine ⟨⟨by omega, by omega, by omega⟩, fun h => ⟨?_, rfl⟩, fun h => ⟨⟨rfl, k + 1, rfl, by omega, ?_⟩, by dsimp only; omega⟩⟩
    · rw [hH, hasL_pre (of_decide_eq_true h)]
    · rw [hH, hasL_step (by rw [bs_len]; omega) (of_decide_eq_false h)]
  · have hge := of_decide_eq_false hge
    rw [hH, hasL_short (by rw [List.length_drop, bs_len, bs_len]; omega)]
theorem rends_spec (s t : ByteArray) (hs : s.size ≤ 140737488355328) (w : World) : Calls Tryd.prog F_cartularyref16_Ends #[.string s, .string t] w fun e w' => e = .returned (.bool (sufL t.data.toList s.data.toList)) ∧ w' = w := by
  refine vc_cartularyref16_Ends_ok (R := fun v w' => v = .bool (sufL t.data.toList s.data.toList) ∧ w' = w) ?_ (fun v w' h => ⟨by rw [h.1], h.2⟩)
  refine ⟨fun h => ?_, fun h => ⟨by rw [suf_short (by have := of_decide_eq_false h; omega)], rfl⟩⟩
  have h := of_decide_eq_true h
  have e1 : IntKind.i64.wrap ((s.size : Int) - (t.size : Int)) = ((s.size - t.size : Nat) : Int) := by rw [wrap_i64 (by omega) (by omega)]; omega
  rw [e1]
  refine ⟨⟨by omega, by omega⟩, ?_, rfl⟩
  rw [Int.toNat_natCast, bs_eq, ext_suf (by omega)]
theorem hasL_one (c : UInt8) : ∀ l : List UInt8, hasL [c] l = l.contains c
  | [] => rfl
  | d :: r => by
    rw [hasL, hasL_one c r, List.contains_cons]
    congr 1
    simp [List.isPrefixOf]
theorem beg_dot (p : List UInt8) : begB ⟨p.toArray⟩ ⟨#[46]⟩ = decide (p.head? = some 46) := by
  unfold begB
  refine decide_eq_decide.2 ?_
  rw [bs_mk]
  show [46] <+: p ↔ _
  cases p with
  | nil => simp
  | cons c r => rw [List.cons_prefix_cons]; simp [eq_comm]
def nbadS : List ByteArray := nbadL.map fun c => ⟨#[c]⟩
theorem rname_spec (s : ByteArray) (hs : s.size ≤ 140737488355328) (w : World) : Calls Tryd.prog F_cartularyref16_Name #[.string s] w fun e w' => e = .returned (.bool (nameB s)) ∧ Fr (fun _ => False) w w' := by
  refine vc_cartularyref16_Name_ok (R := fun v w' => v = .bool (nameB s) ∧ Fr (fun _ => False) w w') ?_ (fun v w' h => ⟨by rw [h.1], h.2⟩)
  refine ⟨fun h => ⟨?_, .refl _ _⟩, fun hH => ?_⟩
  · rw [bs_eq] at h
    have h := of_decide_eq_true h
    unfold nameB
    rw [decide_eq_true (show s = sHEAD from h)]; rfl
  rw [bs_eq] at hH
  have hH : decide (s = sHEAD) = false := hH
  have hN : nameB s = (begB s sRefs && cleanB s && !hasL [46, 46] s.data.toList && !hasL [64, 123] s.data.toList && !sufL [46] s.data.toList && !(s.data.toList.any fun c => nbadL.contains c) && (partsL s.data.toList).all partName) := by
    unfold nameB; rw [hH, Bool.false_or]
  rw [hN]
  refine (begins_spec s _ w).mono ?_
  rintro e w2 ⟨rfl, rfl⟩
  refine ⟨_, rfl, fun h => ⟨?_, .refl _ _⟩, fun h => ?_⟩
  · have h : begB s sRefs = false := by simpa [sRefs] using h
    rw [h]; rfl
  have h1 : begB s sRefs = true := by simpa [sRefs] using h
  rw [h1, Bool.true_and]
  refine (rclean_spec s hs w2).mono ?_
  rintro e w5 ⟨rfl, hf5⟩
  refine ⟨_, rfl, fun h => ⟨?_, hf5⟩, fun h => ?_⟩
  · have h : cleanB s = false := by simpa using h
    rw [h]; rfl
  have h2 : cleanB s = true := by simpa using h
  rw [h2, Bool.true_and]
  have hsz : s.size ≤ 200 := by
    unfold cleanB at h2
    simp only [Bool.and_eq_true] at h2
    exact of_decide_eq_true h2.1.1
  refine (rhas_spec s _ hs (by decide) (by decide) w5).mono ?_
  rintro e w8 ⟨rfl, rfl⟩
  refine ⟨_, rfl, fun h => ⟨?_, hf5⟩, fun h => ?_⟩
  · have h : hasL [46, 46] s.data.toList = true := h
    rw [h]; rfl
  have h3 : hasL [46, 46] s.data.toList = false := h
  rw [h3, Bool.not_false, Bool.true_and]
  refine (rhas_spec s _ hs (by decide) (by decide) w8).mono ?_
  rintro e w11 ⟨rfl, rfl⟩
  refine ⟨_, rfl, fun h => ⟨?_, hf5⟩, fun h => ?_⟩
  · have h : hasL [64, 123] s.data.toList = true := h
    rw [h]; rfl
  have h4 : hasL [64, 123] s.data.toList = false := h
  rw [h4, Bool.not_false, Bool.true_and]
  refine (rends_spec s _ hs w11).mono ?_
  rintro e w14 ⟨rfl, rfl⟩
  refine ⟨_, rfl, fun h => ⟨?_, hf5⟩, fun h w16 h16 => ?_⟩
  · have h : sufL [46] s.data.toList = true := h
    rw [h]; rfl
  have h5 : sufL [46] s.data.toList = false := h
  rw [h5, Bool.not_false, Bool.true_and]
  have hf16 : Fr (fun _ => False) w2 w16 := hf5.trans' (by rw [h16]; exact .alloc _ _ _)
  have hb16 : w16.heap[w14.heap.size]? = some (.cells (nbadS.map Value.string).toArray T_string (0, 0)) := by rw [h16]; exact alloc_new _ _
  refine ⟨fun z w' => w' = w16 ∧ ∃ k : Nat, z = k ∧ k ≤ 8 ∧ (s.data.toList.any fun c => (nbadL.take k).contains c) = false, fun z _ => 8 - z.toNat, ⟨rfl, 0, rfl, Nat.zero_le _, by rw [List.any_eq_false]; intro d _ h; simp at h⟩, ?_⟩
  rintro z w20 ⟨hw, k, rfl, hk, hany⟩
  subst hw
  have e1 : IntKind.i64.wrap ((k : Int) + 1) = ((k + 1 : Nat) : Int) := by rw [wrap_i64 (by omega) (by omega)]; omega
  rw [e1]
  refine ⟨fun hlt => ?_, fun hge => ?_⟩
  · have hk8 : k < 8 := by
      have := of_decide_eq_true hlt
      have h8 : ((8 : Nat) : Int) = 8 := rfl
      omega
    have hkl : k < nbadL.length := hk8
    have hat : (nbadS.map Value.string)[k]? = some (.string ⟨#[nbadL[k]]⟩) := by
      rw [nbadS, List.getElem?_map, List.getElem?_map, List.getElem?_eq_getElem hkl]; rfl
    have hce : nbadL[k]? = some nbadL[k] := List.getElem?_eq_getElem hkl
    generalize nbadL[k] = c at hat hce
    refine ⟨⟨by omega, of_decide_eq_true hlt⟩, _, rfl, ⟨#[c]⟩, ?_, ?_⟩
    · rw [Int.toNat_natCast, Nat.mul_one, add_lit, cell_blk hb16, Nat.zero_add]
      simpa using hat
    refine (rhas_spec s ⟨#[c]⟩ hs (Nat.succ_pos 0) (by show 1 ≤ 1000; decide) w20).mono ?_
    rintro e w24 ⟨rfl, rfl⟩
    rw [show (⟨#[c]⟩ : ByteArray).data.toList = [c] from rfl, hasL_one]
    refine ⟨_, rfl, fun h => ⟨?_, hf16⟩, fun h => ⟨⟨rfl, k + 1, rfl, by omega, ?_⟩, by dsimp only; omega⟩⟩
    · have : (s.data.toList.any fun c => nbadL.contains c) = true := List.any_eq_true.2 ⟨c, by simpa using h, List.contains_iff_mem.2 (List.mem_of_getElem? hce)⟩
      rw [this]; rfl
    · rw [List.any_eq_false] at hany ⊢
      intro d hd hdc
      have hdc := List.contains_iff_mem.1 hdc
      rw [List.take_add_one, hce] at hdc
      rcases List.mem_append.1 hdc with hdc | hdc
      · exact hany d hd (List.contains_iff_mem.2 hdc)
      · simp at hdc
        subst hdc
        rw [List.contains_iff_mem.2 hd] at h; cases h
  have hk8 : k = 8 := by
    have := of_decide_eq_false hge
    have h8 : ((8 : Nat) : Int) = 8 := rfl
    omega
  rw [hk8, show nbadL.take 8 = nbadL from rfl] at hany
  rw [hany, Bool.not_false, Bool.true_and]
  refine (rparts_spec s (by omega) w20).mono ?_
  rintro e w27 ⟨l, rfl, ho, hf27⟩
  have hpl := partsL_len s.data.toList
  have hpz := partsL_size s.data.toList
  rw [bs_len] at hpl hpz
  generalize partsL s.data.toList = parts at ho hpl hpz
  have hlen : l.len = parts.length := by rw [ho.len, strV, List.length_map, bsm, List.length_map]
  refine ⟨l, rfl, fun z w' => w' = w27 ∧ ∃ k : Nat, z = k ∧ k ≤ parts.length ∧ (parts.take k).all partName = true, fun z _ => parts.length - z.toNat, ⟨rfl, 0, rfl, Nat.zero_le _, by simp⟩, ?_⟩
  clear e1
  rintro z w32 ⟨hw, k, rfl, hk, hall⟩
  subst hw
  have hF := hf16.trans' hf27
  have e1 : IntKind.i64.wrap ((k : Int) + 1) = ((k + 1 : Nat) : Int) := by rw [wrap_i64 (by omega) (by omega)]; omega
  rw [e1]
  refine ⟨fun hlt => ?_, fun hge => ⟨?_, hF⟩⟩
  rotate_left
  · have hge := of_decide_eq_false hge
    rw [List.take_of_length_le (by omega)] at hall
    rw [hall]
  have hlt := of_decide_eq_true hlt
  have hkl : k < parts.length := by omega
  have hat : (strV (bsm parts))[k]? = some (.string ⟨parts[k].toArray⟩) := by
    rw [strV, bsm, List.getElem?_map, List.getElem?_map, List.getElem?_eq_getElem hkl]; rfl
  have hge : parts[k]? = some parts[k] := List.getElem?_eq_getElem hkl
  have hsz2 := hpz _ (List.getElem_mem hkl)
  generalize parts[k] = p at hat hge hsz2
  obtain ⟨ad, had, hc⟩ := ho.reads _ _ hat
  have hstop : partName p = false → (Value.bool false = .bool (parts.all partName) ∧ Fr (fun _ => False) w2 w32) := fun h => ⟨by
    have : parts.all partName = false := by
      rw [List.all_eq_false]
      exact ⟨p, List.mem_of_getElem? hge, by rw [h]; decide⟩
    rw [this], hF⟩
  refine ⟨⟨by omega, by omega⟩, ad, had, _, by rw [Int.toNat_natCast, Nat.mul_one]; exact hc, (begins_spec _ _ w32).mono ?_⟩
  rintro e w36 ⟨rfl, rfl⟩
  rw [beg_dot]
  refine ⟨_, rfl, fun h => hstop ?dot, fun h => ?nodot⟩
  case dot =>
    unfold partName
    have h := of_decide_eq_true h
    rw [decide_eq_false (fun hn => hn h)]; rfl
  refine (rends_spec _ _ (by rw [bs_mksize]; omega) w36).mono ?_
  rintro e w39 ⟨rfl, rfl⟩
  have h1 := of_decide_eq_false h
  rw [bs_mk]
  refine ⟨_, rfl, fun h => hstop ?_, fun h => ⟨⟨rfl, k + 1, rfl, hkl, ?_⟩, by dsimp only; omega⟩⟩
  · have h : sufL lockL p = true := h
    unfold partName
    rw [h, Bool.not_true, Bool.and_false]
  · have h : sufL lockL p = false := h
    have : partName p = true := by
      unfold partName
      rw [h, decide_eq_true h1]; rfl
    rw [List.take_add_one, hge, List.all_append, hall, Option.toList_some, List.all_cons, this]; rfl
end Go.Proofs.YtmhlmdnhpfhoeaaDoor

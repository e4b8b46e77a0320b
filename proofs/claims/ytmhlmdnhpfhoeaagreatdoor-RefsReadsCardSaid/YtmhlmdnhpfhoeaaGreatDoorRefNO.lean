/- Names of references: the program and the reference. Conditions: as named. -/
import Derived.Test.YtmhlmdnhpfhoeaaGreatDoorRefA
import Derived.Test.YtmhlmdnhpfhoeaaGreatDoorRef16
import Derived.Test.YtmhlmdnhpfhoeaaGreatDoorStr1
import Derived.Test.YtmhlmdnhpfhoeaaGreatDoorStr2
import Derived.Test.YtmhlmdnhpfhoeaaGreatDoorLaysI
import Derived.Test.YtmhlmdnhpfhoeaaGreatDoorShWrap
import Derived.Shelf.Strings.Search3
import Derived.Test.YtmhlmdnhpfhoeaaGreatDoorSeqX
import Derived.Test.YtmhlmdnhpfhoeaaGreatDoorStrB
set_option linter.unusedVariables false
namespace Go.Proofs.YtmhlmdnhpfhoeaaGreatDoor
open Go Vc Go.Proofs

theorem ext_suf {s t : ByteArray} (h : t.size ≤ s.size) : decide (s.extract (s.size - t.size) s.size = t) = sufL t.data.toList s.data.toList := by
  unfold sufL
  refine decide_eq_decide.2 ?_
  rw [List.suffix_iff_eq_drop, bs_len, bs_len]
  refine ⟨fun e => ?_, fun e => bs_ext ?_⟩
  · conv => lhs; rw [← e]
    rw [bs_tail]
  · rw [bs_tail]; exact e.symm
theorem suf_short {s t : ByteArray} (h : ¬ t.size ≤ s.size) : sufL t.data.toList s.data.toList = false := decide_eq_false fun e => h (by rw [← bs_len, ← bs_len]; exact e.length_le)
theorem suffixL_spec (s t : ByteArray) (hs : s.size ≤ 140737488355328) (w : World) : Calls Tryz.prog F_stringslite_HasSuffix #[.string s, .string t] w fun e w' => e = .returned (.bool (sufL t.data.toList s.data.toList)) ∧ w' = w := by
  refine vc_stringslite_HasSuffix_ok (R := fun v w' => v = .bool (sufL t.data.toList s.data.toList) ∧ w' = w) ?_ (fun v w' h => ⟨by rw [h.1], h.2⟩)
  refine ⟨fun h => ?_, fun h => ⟨by rw [suf_short (by have := of_decide_eq_false h; omega)], rfl⟩⟩
  have h := of_decide_eq_true h
  have e1 : IntKind.i64.wrap ((s.size : Int) - (t.size : Int)) = ((s.size - t.size : Nat) : Int) := by rw [wrap_i64 (by omega) (by omega)]; omega
  rw [e1]
  refine ⟨⟨by omega, by omega⟩, ?_, rfl⟩
  rw [Int.toNat_natCast, bs_eq, ext_suf (by omega)]
theorem suffix_spec (s t : ByteArray) (hs : s.size ≤ 140737488355328) (w : World) : Calls Tryz.prog F_strings_HasSuffix #[.string s, .string t] w fun e w' => e = .returned (.bool (sufL t.data.toList s.data.toList)) ∧ w' = w := by
  refine vc_strings_HasSuffix_ok (R := fun v w' => v = .bool (sufL t.data.toList s.data.toList) ∧ w' = w) ?_ (fun v w' h => ⟨by rw [h.1], h.2⟩)
  refine (suffixL_spec s t hs w).mono ?_
  rintro e w2 ⟨rfl, rfl⟩
  exact ⟨_, rfl, rfl, rfl⟩
theorem prefixL_spec (s t : ByteArray) (w : World) : Calls Tryz.prog F_stringslite_HasPrefix #[.string s, .string t] w fun e w' => e = .returned (.bool (begB s t)) ∧ w' = w := by
  refine vc_stringslite_HasPrefix_ok (R := fun v w' => v = .bool (begB s t) ∧ w' = w) ?_ (fun v w' h => ⟨by rw [h.1], h.2⟩)
  refine ⟨fun h => ⟨⟨by omega, by have := of_decide_eq_true h; omega⟩, ?_, rfl⟩, fun h => ⟨?_, rfl⟩⟩
  · have h := of_decide_eq_true h
    rw [Int.toNat_natCast, begB_cut (by omega)]
  · rw [begB_short (by have := of_decide_eq_false h; omega)]
theorem beg_le {s t : ByteArray} (h : begB s t = true) : t.size ≤ s.size := by
  have := (of_decide_eq_true h : t.data.toList <+: s.data.toList).length_le
  rw [bs_len, bs_len] at this; exact this
theorem suf_le {s t : ByteArray} (h : sufL t.data.toList s.data.toList = true) : t.size ≤ s.size := by
  have := (of_decide_eq_true h : t.data.toList <:+ s.data.toList).length_le
  rw [bs_len, bs_len] at this; exact this
def cutPre (s t : ByteArray) : ByteArray := if begB s t = true then s.extract t.size s.size else s
def cutSuf (s t : ByteArray) : ByteArray := if sufL t.data.toList s.data.toList = true then s.extract 0 (s.size - t.size) else s
theorem cutPrefix_spec (s t : ByteArray) (w : World) : Calls Tryz.prog F_strings_CutPrefix #[.string s, .string t] w fun e w' => e = .returned (.tuple #[.string (cutPre s t), .bool (begB s t)]) ∧ w' = w := by
  refine vc_strings_CutPrefix_ok (R := fun v w' => v = .tuple #[.string (cutPre s t), .bool (begB s t)] ∧ w' = w) ?_ (fun v w' h => ⟨by rw [h.1], h.2⟩)
  refine Calls.mono (R := fun e w' => e = .returned (.tuple #[.string (cutPre s t), .bool (begB s t)]) ∧ w' = w) (vc_stringslite_CutPrefix_ok (R := fun v w' => v = .tuple #[.string (cutPre s t), .bool (begB s t)] ∧ w' = w) ?_ (fun v w' h => ⟨by rw [h.1], h.2⟩)) ?_
  · refine (prefixL_spec s t w).mono ?_
    rintro e w2 ⟨rfl, rfl⟩
    refine ⟨_, rfl, fun h => ⟨?_, rfl⟩, fun h => ⟨⟨by omega, ?_⟩, ?_, rfl⟩⟩
    · have h : begB s t = false := by simpa using h
      unfold cutPre; rw [h]; rfl
    · have := beg_le (show begB s t = true by simpa using h); omega
    · have h : begB s t = true := by simpa using h
      unfold cutPre; rw [h, Int.toNat_natCast]; rfl
  · rintro e w2 ⟨rfl, rfl⟩
    exact ⟨_, _, rfl, rfl, rfl⟩
theorem cutSuffix_spec (s t : ByteArray) (hs : s.size ≤ 140737488355328) (w : World) : Calls Tryz.prog F_strings_CutSuffix #[.string s, .string t] w fun e w' => e = .returned (.tuple #[.string (cutSuf s t), .bool (sufL t.data.toList s.data.toList)]) ∧ w' = w := by
  refine vc_strings_CutSuffix_ok (R := fun v w' => v = .tuple #[.string (cutSuf s t), .bool (sufL t.data.toList s.data.toList)] ∧ w' = w) ?_ (fun v w' h => ⟨by rw [h.1], h.2⟩)
  refine Calls.mono (R := fun e w' => e = .returned (.tuple #[.string (cutSuf s t), .bool (sufL t.data.toList s.data.toList)]) ∧ w' = w) (vc_stringslite_CutSuffix_ok (R := fun v w' => v = .tuple #[.string (cutSuf s t), .bool (sufL t.data.toList s.data.toList)] ∧ w' = w) ?_ (fun v w' h => ⟨by rw [h.1], h.2⟩)) ?_
  · refine (suffixL_spec s t hs w).mono ?_
    rintro e w2 ⟨rfl, rfl⟩
    refine ⟨_, rfl, fun h => ⟨?_, rfl⟩, fun h => ?_⟩
    · have h : sufL t.data.toList s.data.toList = false := by simpa using h
      unfold cutSuf; rw [h]; rfl
    · have h : sufL t.data.toList s.data.toList = true := by simpa using h
      have hle := suf_le h
      have e1 : IntKind.i64.wrap ((s.size : Int) - (t.size : Int)) = ((s.size - t.size : Nat) : Int) := by rw [wrap_i64 (by omega) (by omega)]; omega
      rw [e1]
      refine ⟨⟨by omega, by omega⟩, ?_, rfl⟩
      unfold cutSuf; rw [h, Int.toNat_natCast]; rfl
  · rintro e w2 ⟨rfl, rfl⟩
    exact ⟨_, _, rfl, rfl, rfl⟩
theorem contains2_spec (s t : ByteArray) (hs : s.size < 4294967281) {w : World} (hm : MaxL w) : Calls Tryz.prog F_strings_Contains #[.string s, .string t] w fun e w' => e = .returned (.bool (hasL t.data.toList s.data.toList)) ∧ w' = w := by
  refine vc_strings_Contains_ok (R := fun v w' => v = .bool (hasL t.data.toList s.data.toList) ∧ w' = w) ?_ (fun v w' h => ⟨by rw [h.1], h.2⟩)
  obtain ⟨m, hm⟩ := hm
  refine (Any.strings_Index lays143 s t m w hs hm).mono ?_
  rintro e w2 ⟨rfl, rfl⟩
  refine ⟨_, rfl, ?_, rfl⟩
  rw [← hasL_index]
theorem hasL_pre {t l : List UInt8} (h : t <+: l) : hasL t l = true := by
  cases l with
  | nil =>
    have := List.prefix_nil.1 h
    subst this; rfl
  | cons c r => rw [hasL, List.isPrefixOf_iff_prefix.2 h]; rfl
theorem hasL_short {t : List UInt8} : ∀ {l : List UInt8}, l.length < t.length → hasL t l = false
  | [], h => by
    cases t with
    | nil => simp at h
    | cons a b => rfl
  | c :: r, h => by
    rw [hasL, hasL_short (l := r) (by simp at h; omega), Bool.or_false, Bool.eq_false_iff]
    intro hp
    have := (List.isPrefixOf_iff_prefix.1 hp).length_le
    omega
theorem hasL_step {t l : List UInt8} {k : Nat} (hk : k < l.length) (hn : ¬ t <+: l.drop k) : hasL t (l.drop k) = hasL t (l.drop (k + 1)) := by
  rw [List.drop_eq_getElem_cons hk] at hn ⊢
  rw [hasL, Bool.eq_false_iff.2 (fun h => hn (List.isPrefixOf_iff_prefix.1 h)), Bool.false_or]
theorem ext_pre {s t : ByteArray} {k : Nat} (h : k + t.size ≤ s.size) : decide (s.extract k (k + t.size) = t) = decide (t.data.toList <+: s.data.toList.drop k) := by
  refine decide_eq_decide.2 ?_
  rw [List.prefix_iff_eq_take, bs_len]
  refine ⟨fun e => ?_, fun e => bs_ext ?_⟩
  · conv => lhs; rw [← e]
    rw [bs_extract, show k + t.size - k = t.size by omega]
  · rw [bs_extract, show k + t.size - k = t.size by omega]; exact e.symm
theorem rhas_spec (s t : ByteArray) (hs : s.size ≤ 140737488355328) (ht0 : 0 < t.size) (ht : t.size ≤ 1000) (w : World) : Calls Tryz.prog F_cartularyref16_Has #[.string s, .string t] w fun e w' => e = .returned (.bool (hasL t.data.toList s.data.toList)) ∧ w' = w := by
  refine vc_cartularyref16_Has_ok (R := fun v w' => v = .bool (hasL t.data.toList s.data.toList) ∧ w' = w) ?_ (fun v w' h => ⟨by rw [h.1], h.2⟩)
  refine ⟨fun z w' => w' = w ∧ ∃ k : Nat, z = k ∧ k ≤ s.size ∧ hasL t.data.toList s.data.toList = hasL t.data.toList (s.data.toList.drop k), fun z _ => s.size - z.toNat, ⟨rfl, 0, rfl, Nat.zero_le _, by rw [List.drop_zero]⟩, ?_⟩
  rintro z w4 ⟨hw, k, rfl, hk, hH⟩
  subst hw
  have e1 : IntKind.i64.wrap ((k : Int) + 1) = ((k + 1 : Nat) : Int) := by rw [wrap_i64 (by omega) (by omega)]; omega
  have e2 : IntKind.i64.wrap ((k : Int) + (t.size : Int)) = ((k + t.size : Nat) : Int) := by rw [wrap_i64 (by omega) (by omega)]; omega
  rw [e1, e2]
  refine ⟨fun hlt => ?_, fun hge => ⟨?_, rfl⟩⟩
  · have hlt := of_decide_eq_true hlt
    rw [Int.toNat_natCast, Int.toNat_natCast, bs_eq, ext_pre (by omega)]
    refine ⟨⟨by omega, by omega, by omega⟩, fun h => ⟨?_, rfl⟩, fun h => ⟨⟨rfl, k + 1, rfl, by omega, ?_⟩, by dsimp only; omega⟩⟩
    · rw [hH, hasL_pre (of_decide_eq_true h)]
    · rw [hH, hasL_step (by rw [bs_len]; omega) (of_decide_eq_false h)]
  · have hge := of_decide_eq_false hge
    rw [hH, hasL_short (by rw [List.length_drop, bs_len, bs_len]; omega)]
theorem rends_spec (s t : ByteArray) (hs : s.size ≤ 140737488355328) (w : World) : Calls Tryz.prog F_cartularyref16_Ends #[.string s, .string t] w fun e w' => e = .returned (.bool (sufL t.data.toList s.data.toList)) ∧ w' = w := by
  refine vc_cartularyref16_Ends_ok (R := fun v w' => v = .bool (sufL t.data.toList s.data.toList) ∧ w' = w) ?_ (fun v w' h => ⟨by rw [h.1], h.2⟩)
  refine ⟨fun h => ?_, fun h => ⟨by rw [suf_short (by have := of_decide_eq_false h; omega)], rfl⟩⟩
  have h := of_decide_eq_true h
  have e1 : IntKind.i64.wrap ((s.size : Int) - (t.size : Int)) = ((s.size - t.size : Nat) : Int) := by rw [wrap_i64 (by omega) (by omega)]; omega
  rw [e1]
  refine ⟨⟨by omega, by omega⟩, ?_, rfl⟩
  rw [Int.toNat_natCast, bs_eq, ext_suf (by omega)]
theorem hasL_one (c : UInt8) : ∀ l : List UInt8, hasL [c] l = l.contains c
  | [] => rfl
  | d :: r => by
    rw [hasL, hasL_one c r, List.contains_cons]
    congr 1
    simp [List.isPrefixOf]
theorem beg_dot (p : List UInt8) : begB ⟨p.toArray⟩ ⟨#[46]⟩ = decide (p.head? = some 46) := by
  unfold begB
  refine decide_eq_decide.2 ?_
  rw [bs_mk]
  show [46] <+: p ↔ _
  cases p with
  | nil => simp
  | cons c r => rw [List.cons_prefix_cons]; simp [eq_comm]
def nbadS : List ByteArray := nbadL.map fun c => ⟨#[c]⟩
theorem rname_spec (s : ByteArray) (hs : s.size ≤ 140737488355328) (w : World) : Calls Tryz.prog F_cartularyref16_Name #[.string s] w fun e w' => e = .returned (.bool (nameB s)) ∧ Fr (fun _ => False) w w' := by
  refine vc_cartularyref16_Name_ok (R := fun v w' => v = .bool (nameB s) ∧ Fr (fun _ => False) w w') ?_ (fun v w' h => ⟨by rw [h.1], h.2⟩)
  refine ⟨fun h => ⟨?_, .refl _ _⟩, fun hH => ?_⟩
  · rw [bs_eq] at h
    have h := of_decide_eq_true h
    unfold nameB
    rw [decide_eq_true (show s = sHEAD from h)]; rfl
  rw [bs_eq] at hH
  have hH : decide (s = sHEAD) = false := hH
  have hN : nameB s = (begB s sRefs && cleanB s && !hasL [46, 46] s.data.toList && !hasL [64, 123] s.data.toList && !sufL [46] s.data.toList && !(s.data.toList.any fun c => nbadL.contains c) && (partsL s.data.toList).all partName) := by
    unfold nameB; rw [hH, Bool.false_or]
  rw [hN]
  refine (begins_spec s _ w).mono ?_
  rintro e w2 ⟨rfl, rfl⟩
  refine ⟨_, rfl, fun h => ⟨?_, .refl _ _⟩, fun h => ?_⟩
  · have h : begB s sRefs = false := by simpa [sRefs] using h
    rw [h]; rfl
  have h1 : begB s sRefs = true := by simpa [sRefs] using h
  rw [h1, Bool.true_and]
  refine (rclean_spec s hs w2).mono ?_
  rintro e w5 ⟨rfl, hf5⟩
  refine ⟨_, rfl, fun h => ⟨?_, hf5⟩, fun h => ?_⟩
  · have h : cleanB s = false := by simpa using h
    rw [h]; rfl
  have h2 : cleanB s = true := by simpa using h
  rw [h2, Bool.true_and]
  have hsz : s.size ≤ 200 := by
    unfold cleanB at h2
    simp only [Bool.and_eq_true] at h2
    exact of_decide_eq_true h2.1.1
  refine (rhas_spec s _ hs (by decide) (by decide) w5).mono ?_
  rintro e w8 ⟨rfl, rfl⟩
  refine ⟨_, rfl, fun h => ⟨?_, hf5⟩, fun h => ?_⟩
  · have h : hasL [46, 46] s.data.toList = true := h
    rw [h]; rfl
  have h3 : hasL [46, 46] s.data.toList = false := h
  rw [h3, Bool.not_false, Bool.true_and]
  refine (rhas_spec s _ hs (by decide) (by decide) w8).mono ?_
  rintro e w11 ⟨rfl, rfl⟩
  refine ⟨_, rfl, fun h => ⟨?_, hf5⟩, fun h => ?_⟩
  · have h : hasL [64, 123] s.data.toList = true := h
    rw [h]; rfl
  have h4 : hasL [64, 123] s.data.toList = false := h
  rw [h4, Bool.not_false, Bool.true_and]
  refine (rends_spec s _ hs w11).mono ?_
  rintro e w14 ⟨rfl, rfl⟩
  refine ⟨_, rfl, fun h => ⟨?_, hf5⟩, fun h w16 h16 => ?_⟩
  · have h : sufL [46] s.data.toList = true := h
    rw [h]; rfl
  have h5 : sufL [46] s.data.toList = false := h
  rw [h5, Bool.not_false, Bool.true_and]
  have hf16 : Fr (fun _ => False) w2 w16 := hf5.trans' (by rw [h16]; exact .alloc _ _ _)
  have hb16 : w16.heap[w14.heap.size]? = some (.cells (nbadS.map Value.string).toArray T_string (0, 0)) := by rw [h16]; exact alloc_new _ _
  refine ⟨fun z w' => w' = w16 ∧ ∃ k : Nat, z = k ∧ k ≤ 8 ∧ (s.data.toList.any fun c => (nbadL.take k).contains c) = false, fun z _ => 8 - z.toNat, ⟨rfl, 0, rfl, Nat.zero_le _, by rw [List.any_eq_false]; intro d _ h; simp at h⟩, ?_⟩
  rintro z w20 ⟨hw, k, rfl, hk, hany⟩
  subst hw
  have e1 : IntKind.i64.wrap ((k : Int) + 1) = ((k + 1 : Nat) : Int) := by rw [wrap_i64 (by omega) (by omega)]; omega
  rw [e1]
  refine ⟨fun hlt => ?_, fun hge => ?_⟩
  · have hk8 : k < 8 := by
      have := of_decide_eq_true hlt
      have h8 : ((8 : Nat) : Int) = 8 := rfl
      omega
    have hkl : k < nbadL.length := hk8
    have hat : (nbadS.map Value.string)[k]? = some (.string ⟨#[nbadL[k]]⟩) := by
      rw [nbadS, List.getElem?_map, List.getElem?_map, List.getElem?_eq_getElem hkl]; rfl
    have hce : nbadL[k]? = some nbadL[k] := List.getElem?_eq_getElem hkl
    generalize nbadL[k] = c at hat hce
    refine ⟨⟨by omega, of_decide_eq_true hlt⟩, _, rfl, ⟨#[c]⟩, ?_, ?_⟩
    · rw [Int.toNat_natCast, Nat.mul_one, add_lit, cell_blk hb16, Nat.zero_add]
      simpa using hat
    refine (rhas_spec s ⟨#[c]⟩ hs (Nat.succ_pos 0) (by show 1 ≤ 1000; decide) w20).mono ?_
    rintro e w24 ⟨rfl, rfl⟩
    rw [show (⟨#[c]⟩ : ByteArray).data.toList = [c] from rfl, hasL_one]
    refine ⟨_, rfl, fun h => ⟨?_, hf16⟩, fun h => ⟨⟨rfl, k + 1, rfl, by omega, ?_⟩, by dsimp only; omega⟩⟩
    · have : (s.data.toList.any fun c => nbadL.contains c) = true := List.any_eq_true.2 ⟨c, by simpa using h, List.contains_iff_mem.2 (List.mem_of_getElem? hce)⟩
      rw [this]; rfl
    · rw [List.any_eq_false] at hany ⊢
      intro d hd hdc
      have hdc := List.contains_iff_mem.1 hdc
      rw [List.take_add_one, hce] at hdc
      rcases List.mem_append.1 hdc with hdc | hdc
      · exact hany d hd (List.contains_iff_mem.2 hdc)
      · simp at hdc
        subst hdc
        rw [List.contains_iff_mem.2 hd] at h; cases h
  have hk8 : k = 8 := by
    have := of_decide_eq_false hge
    have h8 : ((8 : Nat) : Int) = 8 := rfl
    omega
  rw [hk8, show nbadL.take 8 = nbadL from rfl] at hany
  rw [hany, Bool.not_false, Bool.true_and]
  refine (rparts_spec s (by omega) w20).mono ?_
  rintro e w27 ⟨l, rfl, ho, hf27⟩
  have hpl := partsL_len s.data.toList
  have hpz := partsL_size s.data.toList
  rw [bs_len] at hpl hpz
  generalize partsL s.data.toList = parts at ho hpl hpz
  have hlen : l.len = parts.length := by rw [ho.len, strV, List.length_map, bsm, List.length_map]
  refine ⟨l, rfl, fun z w' => w' = w27 ∧ ∃ k : Nat, z = k ∧ k ≤ parts.length ∧ (parts.take k).all partName = true, fun z _ => parts.length - z.toNat, ⟨rfl, 0, rfl, Nat.zero_le _, by simp⟩, ?_⟩
  clear e1
  rintro z w32 ⟨hw, k, rfl, hk, hall⟩
  subst hw
  have hF := hf16.trans' hf27
  have e1 : IntKind.i64.wrap ((k : Int) + 1) = ((k + 1 : Nat) : Int) := by rw [wrap_i64 (by omega) (by omega)]; omega
  rw [e1]
  refine ⟨fun hlt => ?_, fun hge => ⟨?_, hF⟩⟩
  rotate_left
  · have hge := of_decide_eq_false hge
    rw [List.take_of_length_le (by omega)] at hall
    rw [hall]
  have hlt := of_decide_eq_true hlt
  have hkl : k < parts.length := by omega
  have hat : (strV (bsm parts))[k]? = some (.string ⟨parts[k].toArray⟩) := by
    rw [strV, bsm, List.getElem?_map, List.getElem?_map, List.getElem?_eq_getElem hkl]; rfl
  have hge : parts[k]? = some parts[k] := List.getElem?_eq_getElem hkl
  have hsz2 := hpz _ (List.getElem_mem hkl)
  generalize parts[k] = p at hat hge hsz2
  obtain ⟨ad, had, hc⟩ := ho.reads _ _ hat
  have hstop : partName p = false → (Value.bool false = .bool (parts.all partName) ∧ Fr (fun _ => False) w2 w32) := fun h => ⟨by
    have : parts.all partName = false := by
      rw [List.all_eq_false]
      exact ⟨p, List.mem_of_getElem? hge, by rw [h]; decide⟩
    rw [this], hF⟩
  refine ⟨⟨by omega, by omega⟩, ad, had, _, by rw [Int.toNat_natCast, Nat.mul_one]; exact hc, (begins_spec _ _ w32).mono ?_⟩
  rintro e w36 ⟨rfl, rfl⟩
  rw [beg_dot]
  refine ⟨_, rfl, fun h => hstop ?dot, fun h => ?nodot⟩
  case dot =>
    unfold partName
    have h := of_decide_eq_true h
    rw [decide_eq_false (fun hn => hn h)]; rfl
  refine (rends_spec _ _ (by rw [bs_mksize]; omega) w36).mono ?_
  rintro e w39 ⟨rfl, rfl⟩
  have h1 := of_decide_eq_false h
  rw [bs_mk]
  refine ⟨_, rfl, fun h => hstop ?_, fun h => ⟨⟨rfl, k + 1, rfl, hkl, ?_⟩, by dsimp only; omega⟩⟩
  · have h : sufL lockL p = true := h
    unfold partName
    rw [h, Bool.not_true, Bool.and_false]
  · have h : sufL lockL p = false := h
    have : partName p = true := by
      unfold partName
      rw [h, decide_eq_true h1]; rfl
    rw [List.take_add_one, hge, List.all_append, hall, Option.toList_some, List.all_cons, this]; rfl
end Go.Proofs.YtmhlmdnhpfhoeaaGreatDoor
namespace Go.Proofs.YtmhlmdnhpfhoeaaGreatDoor
open Go Vc Go.Proofs Go.RowKit Go.Shelf
attribute [local go_sem] Oper.semAt_some

theorem toList_head : (⟨#[72, 69, 65, 68]⟩ : ByteArray).toList = [72, 69, 65, 68] := by rw [ByteArray.toList_eq]
def nbadB : ByteArray := ⟨#[32, 126, 94, 58, 63, 42, 91, 92]⟩
theorem nbad_ascii : Ascii nbadB := by
  intro j hj
  have : j < 8 := hj
  have key : ∀ j : Fin 8, byt nbadB j < 128 := by decide
  exact key ⟨j, this⟩
def partN (p : ByteArray) : Bool := decide (byt p 0 ≠ 46) && !sufL lockL p.data.toList
theorem clean_partsN {s : ByteArray} (hc : cleanB s = true) : s.size ≤ 200 ∧ ∀ p ∈ partsF s.size s, p.size ≠ 0 ∧ p.size ≤ 200 := by
  unfold cleanB at hc
  simp only [Bool.and_eq_true] at hc
  have h1 := of_decide_eq_true hc.1.1
  refine ⟨h1, fun p hp => ?_⟩
  have h2 := List.all_eq_true.1 hc.1.2 p hp
  rw [partsF_L _ _ (Nat.le_refl _), bsm] at hp
  obtain ⟨q, hq, rfl⟩ := List.mem_map.1 hp
  have h3 := partsL_size _ q hq
  rw [bs_len] at h3
  refine ⟨fun e => ?_, by rw [bs_mksize]; omega⟩
  rw [bs_empty.2 e] at h2
  revert h2; decide
theorem partN_eq {p : List UInt8} (hp : p ≠ []) : partN ⟨p.toArray⟩ = partName p := by
  obtain ⟨c, r, rfl⟩ := List.exists_cons_of_ne_nil hp
  unfold partN partName
  rw [bs_mk]
  congr 1
  refine decide_eq_decide.2 ?_
  have hb : byt ⟨(c :: r).toArray⟩ 0 = c.toNat := rfl
  rw [hb, List.head?_cons]
  refine not_congr ⟨fun h => ?_, fun h => by rw [Option.some.inj h]; rfl⟩
  rw [UInt8.toNat_inj.1 (show c.toNat = (46 : UInt8).toNat from h)]
theorem name_parts {s : ByteArray} (hc : cleanB s = true) : (partsL s.data.toList).all partName = (partsF s.size s).all partN := by
  have hps := (clean_partsN hc).2
  rw [partsF_L _ _ (Nat.le_refl _), bsm] at hps ⊢
  rw [List.all_map, Bool.eq_iff_iff, List.all_eq_true, List.all_eq_true]
  have key : ∀ q ∈ partsL s.data.toList, partN ⟨q.toArray⟩ = partName q := fun q hq => partN_eq (fun e => (hps ⟨q.toArray⟩ (List.mem_map.2 ⟨q, hq, rfl⟩)).1 (by rw [e]; rfl))
  refine ⟨fun h q hq => ?_, fun h q hq => ?_⟩
  · rw [Function.comp_apply, key q hq]; exact h q hq
  · have := h q hq
    rw [Function.comp_apply, key q hq] at this; exact this
set_option maxRecDepth 100000 in
set_option maxHeartbeats 4000000 in
theorem name_spec (s : ByteArray) (hs : s.size ≤ 140737488355328) {w : World} (hml : MaxL w) : Calls Tryz.prog 10 #[.string s] w fun e w' => e = .returned (.bool (nameB s)) ∧ Fr (fun _ => False) w w' := by
  refine (callsIn_wide (n := 3)).1 ?_
  refine callsIn_of_wp_marks Tryz.func10 rfl trivial ?_ rfl
  simp only [Tryz.ntmps10, List.size_toArray, List.length_cons, List.length_nil, Nat.reduceAdd, Nat.reduceSub, Array.replicate_succ, Array.replicate_zero, List.push_toArray, List.append_toArray, List.nil_append, List.cons_append]
  obtain ⟨w0, hw0⟩ : ∃ w0, w.alloc (.cells #[.bool false] 4) = w0 := ⟨_, rfl⟩
  have hsz : w0.heap.size = w.heap.size + 1 := by rw [← hw0]; simp
  have hb0 : w0.heap[w.heap.size]? = some (.cells #[.bool false] 4 (0, 0)) := by rw [← hw0]; exact alloc_new _ _
  have hf0 : Fr (fun _ => False) w w0 := by rw [← hw0]; exact .alloc _ _ _
  have hcc : ∀ w', Fr (fun _ => False) w0 w' → w'.cell? ⟨w.heap.size, 0, none⟩ = some (.bool false) := fun w' hf => by rw [cell_blk (hf.keep hb0 (by simp))]; rfl
  have hcz : ∀ w', Fr (fun _ => False) w0 w' → w'.frozen? ⟨w.heap.size, 0, none⟩ = false := fun w' hf => frozen_blk (hf.keep hb0 (by simp)) 0
  have hc0 := hcc w0 (.refl _ _)
  have hz0 := hcz w0 (.refl _ _)
  have kH : (s.toList == [72, 69, 65, 68]) = decide (s = sHEAD) := by rw [← toList_head, bs_eq]; rfl
  have hset : ∀ w', Fr (fun _ => False) w0 w' → (w'.setCell ⟨w.heap.size, 0, none⟩ (.bool false)).cell? ⟨w.heap.size, 0, none⟩ = some (.bool false) := fun w' hf => World.cell?_setCell_same' _ _ _ (by rw [hcc w' hf]; rfl)
  by_cases hH : s = sHEAD
  · have hN : nameB s = true := by unfold nameB; rw [decide_eq_true hH]; rfl
    rw [decide_eq_true hH] at kH
    clear hH
    gi_wp2
    have hst : Fr (· = w.heap.size) w0 (w0.setCell ⟨w.heap.size, 0, none⟩ (.bool true)) := .set _ _ _ rfl
    have hc5 : (w0.setCell ⟨w.heap.size, 0, none⟩ (.bool true)).cell? ⟨w.heap.size, 0, none⟩ = some (.bool true) := World.cell?_setCell_same' _ _ _ (by rw [hc0]; rfl)
    refine ⟨.bool true, ?_, by rw [hN], hf0.trans hst fun q hq e => by omega⟩
    simp [results, Tryz.f10, go_sem, hc5]
  rw [decide_eq_false hH] at kH
  have hN : nameB s = (begB s sRefs && cleanB s && !hasL [46, 46] s.data.toList && !hasL [64, 123] s.data.toList && !sufL [46] s.data.toList && !(s.data.toList.any fun c => nbadL.contains c) && (partsL s.data.toList).all partName) := by
    unfold nameB; rw [decide_eq_false hH, Bool.false_or]
  have hF : Fr (fun _ => False) w0 w0 := .refl _ _
  by_cases h1 : begB s sRefs = true
  rotate_left
  · have h1 : begB s sRefs = false := by simpa using h1
    gi_wp2_with (refine ⟨trivial, ?_⟩; gi_at_call 29; refine (callsIn_wide.2 (hasPrefix_spec s sRefs _)).mono ?_; rintro e w1 ⟨rfl, rfl⟩; simp only [h1])
    refine ⟨trivial, ?_⟩
    gi_wp2
    refine ⟨trivial, ?_⟩
    gi_wp2
    refine ⟨trivial, ?_⟩
    gi_wp2
    refine ⟨trivial, ?_⟩
    gi_wp2
    refine ⟨trivial, ?_⟩
    gi_wp2
    refine ⟨.bool false, ?_, ?_, (hf0.trans' hF).trans (Fr.set (· = w.heap.size) _ _ rfl) fun q hq e => by omega⟩
    · simp [results, Tryz.f10, go_sem, hset _ hF]
    · rw [hN, h1]; simp only [Bool.not_true, Bool.not_false, Bool.and_true, Bool.true_and, Bool.and_false, Bool.false_and]
  gi_wp2_with (refine ⟨trivial, ?_⟩; gi_at_call 29; refine (callsIn_wide.2 (hasPrefix_spec s sRefs _)).mono ?_; rintro e w1 ⟨rfl, rfl⟩; simp only [h1])
  by_cases h2 : cleanB s = true
  rotate_left
  · have h2 : cleanB s = false := by simpa using h2
    refine ⟨trivial, ?_⟩
    gi_at_call 25
    refine (callsIn_wide.2 (clean_spec s hs _)).mono ?_
    rintro e w2 ⟨rfl, hf2⟩
    replace hF := hF.trans' hf2
    rw [h2]
    have hc2 := hcc _ hF
    have hz2 := hcz _ hF
    gi_wp2
    refine ⟨trivial, ?_⟩
    gi_wp2
    refine ⟨trivial, ?_⟩
    gi_wp2
    refine ⟨trivial, ?_⟩
    gi_wp2
    refine ⟨trivial, ?_⟩
    gi_wp2
    refine ⟨.bool false, ?_, ?_, (hf0.trans' hF).trans (Fr.set (· = w.heap.size) _ _ rfl) fun q hq e => by omega⟩
    · simp [results, Tryz.f10, go_sem, hset _ hF]
    · rw [hN, h1, h2]; simp only [Bool.not_true, Bool.not_false, Bool.and_true, Bool.true_and, Bool.and_false, Bool.false_and]
  obtain ⟨hs2, hps⟩ := clean_partsN h2
  refine ⟨trivial, ?_⟩
  gi_at_call 25
  refine (callsIn_wide.2 (clean_spec s hs _)).mono ?_
  rintro e w2 ⟨rfl, hf2⟩
  replace hF := hF.trans' hf2
  rw [h2]
  have hc2 := hcc _ hF
  have hz2 := hcz _ hF
  gi_wp2
  by_cases h3 : hasL [46, 46] s.data.toList = false
  rotate_left
  · have h3 : hasL [46, 46] s.data.toList = true := by simpa using h3
    refine ⟨trivial, ?_⟩
    gi_at_call 35
    refine (callsIn_wide.2 (contains2_spec s ⟨#[46, 46]⟩ (by omega) (hml.keep (hf0.trans' hF)))).mono ?_
    rintro e w3 ⟨rfl, rfl⟩
    rw [show hasL (⟨#[46, 46]⟩ : ByteArray).data.toList s.data.toList = true from h3]
    have hc3 := hcc _ hF
    have hz3 := hcz _ hF
    gi_wp2
    refine ⟨trivial, ?_⟩
    gi_wp2
    refine ⟨trivial, ?_⟩
    gi_wp2
    refine ⟨trivial, ?_⟩
    gi_wp2
    refine ⟨.bool false, ?_, ?_, (hf0.trans' hF).trans (Fr.set (· = w.heap.size) _ _ rfl) fun q hq e => by omega⟩
    · simp [results, Tryz.f10, go_sem, hset _ hF]
    · rw [hN, h1, h2, h3]; simp only [Bool.not_true, Bool.not_false, Bool.and_true, Bool.true_and, Bool.and_false, Bool.false_and]
  refine ⟨trivial, ?_⟩
  gi_at_call 35
  refine (callsIn_wide.2 (contains2_spec s ⟨#[46, 46]⟩ (by omega) (hml.keep (hf0.trans' hF)))).mono ?_
  rintro e w3 ⟨rfl, rfl⟩
  rw [show hasL (⟨#[46, 46]⟩ : ByteArray).data.toList s.data.toList = false from h3]
  have hc3 := hcc _ hF
  have hz3 := hcz _ hF
  gi_wp2
  by_cases h4 : hasL [64, 123] s.data.toList = false
  rotate_left
  · have h4 : hasL [64, 123] s.data.toList = true := by simpa using h4
    refine ⟨trivial, ?_⟩
    gi_at_call 35
    refine (callsIn_wide.2 (contains2_spec s ⟨#[64, 123]⟩ (by omega) (hml.keep (hf0.trans' hF)))).mono ?_
    rintro e w4 ⟨rfl, rfl⟩
    rw [show hasL (⟨#[64, 123]⟩ : ByteArray).data.toList s.data.toList = true from h4]
    have hc4 := hcc _ hF
    have hz4 := hcz _ hF
    gi_wp2
    refine ⟨trivial, ?_⟩
    gi_wp2
    refine ⟨trivial, ?_⟩
    gi_wp2
    refine ⟨.bool false, ?_, ?_, (hf0.trans' hF).trans (Fr.set (· = w.heap.size) _ _ rfl) fun q hq e => by omega⟩
    · simp [results, Tryz.f10, go_sem, hset _ hF]
    · rw [hN, h1, h2, h3, h4]; simp only [Bool.not_true, Bool.not_false, Bool.and_true, Bool.true_and, Bool.and_false, Bool.false_and]
  refine ⟨trivial, ?_⟩
  gi_at_call 35
  refine (callsIn_wide.2 (contains2_spec s ⟨#[64, 123]⟩ (by omega) (hml.keep (hf0.trans' hF)))).mono ?_
  rintro e w4 ⟨rfl, rfl⟩
  rw [show hasL (⟨#[64, 123]⟩ : ByteArray).data.toList s.data.toList = false from h4]
  have hc4 := hcc _ hF
  have hz4 := hcz _ hF
  gi_wp2
  by_cases h5 : sufL [46] s.data.toList = false
  rotate_left
  · have h5 : sufL [46] s.data.toList = true := by simpa using h5
    refine ⟨trivial, ?_⟩
    gi_at_call 36
    refine (callsIn_wide.2 (suffix_spec s ⟨#[46]⟩ (by omega) _)).mono ?_
    rintro e w5 ⟨rfl, rfl⟩
    rw [show sufL (⟨#[46]⟩ : ByteArray).data.toList s.data.toList = true from h5]
    have hc5 := hcc _ hF
    have hz5 := hcz _ hF
    gi_wp2
    refine ⟨trivial, ?_⟩
    gi_wp2
    refine ⟨.bool false, ?_, ?_, (hf0.trans' hF).trans (Fr.set (· = w.heap.size) _ _ rfl) fun q hq e => by omega⟩
    · simp [results, Tryz.f10, go_sem, hset _ hF]
    · rw [hN, h1, h2, h3, h4, h5]; simp only [Bool.not_true, Bool.not_false, Bool.and_true, Bool.true_and, Bool.and_false, Bool.false_and]
  refine ⟨trivial, ?_⟩
  gi_at_call 36
  refine (callsIn_wide.2 (suffix_spec s ⟨#[46]⟩ (by omega) _)).mono ?_
  rintro e w5 ⟨rfl, rfl⟩
  rw [show sufL (⟨#[46]⟩ : ByteArray).data.toList s.data.toList = false from h5]
  have hc5 := hcc _ hF
  have hz5 := hcz _ hF
  gi_wp2
  by_cases h6 : (s.data.toList.any fun c => nbadL.contains c) = false
  rotate_left
  · have h6 : (s.data.toList.any fun c => nbadL.contains c) = true := by simpa using h6
    refine ⟨trivial, ?_⟩
    gi_at_call 37
    refine (callsIn_wide.2 (containsAny_spec s nbadB (by omega) (by decide) (by decide) nbad_ascii _)).mono ?_
    rintro e w6 ⟨rfl, hf6⟩
    replace hF := hF.trans' hf6
    rw [show (s.data.toList.any fun c => nbadB.data.toList.contains c) = true from h6]
    have hc6 := hcc _ hF
    have hz6 := hcz _ hF
    gi_wp2
    refine ⟨.bool false, ?_, ?_, (hf0.trans' hF).trans (Fr.set (· = w.heap.size) _ _ rfl) fun q hq e => by omega⟩
    · simp [results, Tryz.f10, go_sem, hset _ hF]
    · rw [hN, h1, h2, h3, h4, h5, h6]; simp only [Bool.not_true, Bool.not_false, Bool.and_true, Bool.true_and, Bool.and_false, Bool.false_and]
  refine ⟨trivial, ?_⟩
  gi_at_call 37
  refine (callsIn_wide.2 (containsAny_spec s nbadB (by omega) (by decide) (by decide) nbad_ascii _)).mono ?_
  rintro e w6 ⟨rfl, hf6⟩
  replace hF := hF.trans' hf6
  rw [show (s.data.toList.any fun c => nbadB.data.toList.contains c) = false from h6]
  have hc6 := hcc _ hF
  have hz6 := hcz _ hF
  gi_wp2
  have hFB : nameB s = (partsF s.size s).all partN := by
    rw [hN, h1, h2, h3, h4, h5, h6, name_parts h2]; rfl
  have hb3 := hF.keep hb0 (by simp)
  have hF3 := hf0.trans' hF
  gi_wp2_with (refine ⟨trivial, ?_⟩; gi_at_call 38; refine (callsIn_wide.2 (splitSeq_spec s _)).mono ?_; rintro e w' ⟨rfl, rfl⟩)
  clear hset hcc hcz
  obtain ⟨n, hn⟩ : ∃ n, w6.heap.size = n := ⟨_, rfl⟩
  have hwn : w.heap.size < n := by rw [← hn]; exact lt_blk hb3
  obtain ⟨w1, hw1⟩ : ∃ w1, ((w6.alloc (.cells #[.string s] 9)).alloc (.cells #[.string ⟨#[47]⟩] 9)).alloc (.cells #[.int .i64 0] 3) = w1 := ⟨_, rfl⟩
  have hf1 : Fr (fun _ => False) w6 w1 := by rw [← hw1]; exact ((Fr.alloc _ _ _).trans' (.alloc _ _ _)).trans' (.alloc _ _ _)
  have n1 : (w6.alloc (.cells #[.string s] 9)).heap.size = n + 1 := by simp [hn]
  have n2 : ((w6.alloc (.cells #[.string s] 9)).alloc (.cells #[.string ⟨#[47]⟩] 9)).heap.size = n + 2 := by simp [hn]
  have hbs : w1.heap[n]? = some (.cells #[.string s] 9 (0, 0)) := by
    rw [← hw1, ← hn]
    exact (Fr.alloc (fun _ => False) _ _).keep ((Fr.alloc (fun _ => False) _ _).keep (alloc_new w6 _) (by simp)) (by simp)
  have hbp : w1.heap[n + 1]? = some (.cells #[.string ⟨#[47]⟩] 9 (0, 0)) := by
    rw [← hw1, ← n1]
    exact (Fr.alloc (fun _ => False) _ _).keep (alloc_new _ _) (by simp)
  have hbz : w1.heap[n + 2]? = some (.cells #[.int .i64 0] 3 (0, 0)) := by
    rw [← hw1, ← n2]
    exact alloc_new _ _
  rw [hw1, hn]
  clear hw1 n1 n2
  refine range_split (B := n) (b0 := n + 1) (b1 := n) (b2 := n + 2) (by omega) (by omega) (by omega) (by omega) (by omega) rfl s hs
    (by rw [cell_blk hbp]; rfl) (by rw [cell_blk hbs]; rfl) (by rw [cell_blk hbz]; rfl) (frozen_blk hbs 0)
    (fun pre W => (∀ p ∈ pre, partN p = true) ∧ W.heap[w.heap.size]? = some (.cells #[.bool false] 4 (0, 0)) ∧ Fr (fun _ => False) w W)
    (fun pre W => (∃ p ∈ partsF s.size s, partN p = false) ∧ W.cell? ⟨w.heap.size, 0, none⟩ = some (.bool false) ∧ Fr (fun _ => False) w W)
    (fun pre W W' ⟨h1, h2, h3⟩ hf => ⟨h1, hf.keep h2 (by omega), h3.trans hf fun q hq h => by omega⟩)
    (fun pre W W' ⟨h1, h2, h3⟩ hf => ⟨h1, hf.cell h2 (by simp only; omega), h3.trans hf fun q hq h => by omega⟩)
    ⟨by simp, hf1.keep hb3 (by simp), hF3.trans' hf1⟩
    (fun x => { tmps := #[.string s, undef, .pointer (some ⟨w.heap.size, 0, none⟩), .string x, .string s, .bool false, .string s, .bool true, .bool false, .bool false, .string s, .bool true, .bool false, .bool false, .bool false, .string s, .bool false, .bool false, .bool false, .string s, .bool false, .bool false, .bool false, .string s, .bool false, .bool false, .bool false, .string s, .bool false, .bool false, .string s, .func (.func 83) #[] #[.pointer (some ⟨n + 1, 0, none⟩), .pointer (some ⟨n, 0, none⟩), .pointer (some ⟨n + 2, 0, none⟩)], .string x, undef, undef, undef, undef, undef, undef, undef], defers := [] }) ?assign ?body ?done ?stop
  case assign =>
    intro l x W K hK
    gi_wp2
    exact hK
  case body =>
    rintro l pre x W ⟨hp, hcell, hf⟩ hr
    have hcc : W.cell? ⟨w.heap.size, 0, none⟩ = some (.bool false) := by rw [cell_blk hcell]; rfl
    have hcz : W.frozen? ⟨w.heap.size, 0, none⟩ = false := frozen_blk hcell 0
    have hxm : x ∈ partsF s.size s := by obtain ⟨r, hr⟩ := hr; rw [← hr]; simp
    obtain ⟨hx0, hx2⟩ := hps x hxm
    have hget : ∀ (h : 0 < x.size), (x[0]'h).toNat = byt x 0 := fun h => by
      unfold byt; rw [Lib.data_getElem? x _ h]; rfl
    have hpos : 0 < x.size := by omega
    have ret : partN x = false → Fr (fun k => k < n) W (W.setCell ⟨w.heap.size, 0, none⟩ (.bool false)) ∧ (∃ p ∈ partsF s.size s, partN p = false) ∧ (W.setCell ⟨w.heap.size, 0, none⟩ (.bool false)).cell? ⟨w.heap.size, 0, none⟩ = some (.bool false) ∧ Fr (fun _ => False) w (W.setCell ⟨w.heap.size, 0, none⟩ (.bool false)) := fun hx =>
      ⟨Fr.set _ _ _ hwn, ⟨x, hxm, hx⟩, World.cell?_setCell_same' _ _ _ (by rw [hcc]; rfl), hf.trans (Fr.set (· = w.heap.size) _ _ rfl) fun q hq e => by omega⟩
    by_cases h46 : byt x 0 = 46
    · have kb : (((byt x 0 : Nat) : Int) == 46) = true := by rw [h46]; rfl
      gi_wp2
      refine ⟨trivial, ?_⟩
      gi_wp2
      exact ret (by unfold partN; rw [decide_eq_false (fun h => h h46)]; rfl)
    · have kb : (((byt x 0 : Nat) : Int) == 46) = false := by
        rw [beq_eq_false_iff_ne]; omega
      by_cases hl : sufL lockL x.data.toList = true
      · gi_wp2_with (refine ⟨trivial, ?_⟩; gi_at_call 36; refine (CallsIn.inRound l (callsIn_wide.2 (suffix_spec x ⟨#[46, 108, 111, 99, 107]⟩ (by omega) _))).mono ?_; rintro e w9 ⟨rfl, rfl⟩; rw [show sufL (⟨#[46, 108, 111, 99, 107]⟩ : ByteArray).data.toList x.data.toList = true from hl])
        exact ret (by unfold partN; rw [hl]; simp)
      · have hl : sufL lockL x.data.toList = false := by simpa using hl
        gi_wp2_with (refine ⟨trivial, ?_⟩; gi_at_call 36; refine (CallsIn.inRound l (callsIn_wide.2 (suffix_spec x ⟨#[46, 108, 111, 99, 107]⟩ (by omega) _))).mono ?_; rintro e w9 ⟨rfl, rfl⟩; rw [show sufL (⟨#[46, 108, 111, 99, 107]⟩ : ByteArray).data.toList x.data.toList = false from hl])
        refine ⟨.refl _ _, fun p hpm => ?_, hcell, hf⟩
        rcases List.mem_append.1 hpm with hpm | hpm
        · exact hp p hpm
        · simp only [List.mem_cons, List.mem_nil_iff, or_false] at hpm
          subst hpm
          unfold partN
          rw [hl, decide_eq_true h46]; rfl
  case done =>
    rintro D W hD ⟨hall, hcell, hf⟩ hK
    have hcc : W.cell? ⟨w.heap.size, 0, none⟩ = some (.bool false) := by rw [cell_blk hcell]; rfl
    have hcz : W.frozen? ⟨w.heap.size, 0, none⟩ = false := frozen_blk hcell 0
    gi_wp2
    have hne : D ≠ w.heap.size := by have := hf1.size; omega
    have hst : Fr (· = w.heap.size) W (W.setCell ⟨w.heap.size, 0, none⟩ (.bool true)) := .set _ _ _ rfl
    have hK' := hst.keep hK hne
    refine ⟨by simp, .inl ⟨_, _, rfl, run_takeDeferred hK', ?_⟩⟩
    have hpt : Fr (· = D) (W.setCell ⟨w.heap.size, 0, none⟩ (.bool true)) ((W.setCell ⟨w.heap.size, 0, none⟩ (.bool true)).putObj D (.deferred none)) := (Fr.grown (grownBy_putObj' _ D _)).mono fun q _ h => by cases h; rfl
    have hc5 := hpt.cell (World.cell?_setCell_same' W ⟨w.heap.size, 0, none⟩ (.bool true) (by rw [hcc]; rfl)) (fun h => hne h.symm)
    refine ⟨.bool true, ?_, ?_, ?_⟩
    · simp [results, Tryz.f10, go_sem, hc5]
    · have : (partsF s.size s).all partN = true := List.all_eq_true.2 hall
      rw [hFB, this]
    · have h1 := hf.size
      have h2 := (hF3.trans' hf1).size
      exact (hf.trans hst fun q hq e => by omega).trans hpt fun q hq e => by omega
  case stop =>
    rintro D pre W hD ⟨⟨p, hpm, hpb⟩, hcell, hf⟩ hK
    have hne : D ≠ w.heap.size := by have := hf1.size; omega
    gi_wp2
    refine ⟨by simp, .inl ⟨_, _, rfl, run_takeDeferred hK, ?_⟩⟩
    have hpt : Fr (· = D) W (W.putObj D (.deferred none)) := (Fr.grown (grownBy_putObj' _ D _)).mono fun q _ h => by cases h; rfl
    have hc5 := hpt.cell hcell (fun h => hne h.symm)
    refine ⟨.bool false, ?_, ?_, ?_⟩
    · simp [results, Tryz.f10, go_sem, hc5]
    · have : (partsF s.size s).all partN = false := by
        rw [← Bool.not_eq_true, List.all_eq_true]
        intro h
        rw [h p hpm] at hpb; cases hpb
      rw [hFB, this]
    · have h2 := (hF3.trans' hf1).size
      exact hf.trans hpt fun q hq e => by omega
end Go.Proofs.YtmhlmdnhpfhoeaaGreatDoor

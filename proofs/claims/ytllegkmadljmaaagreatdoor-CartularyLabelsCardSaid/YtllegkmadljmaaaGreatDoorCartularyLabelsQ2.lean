/- Texts of this seat in one: made by a program of ours. -/
import Derived.Test.YtllegkmadljmaaaGreatDoorCartularyLabelsQ0
import Derived.Test.YtllegkmadljmaaaGreatDoorCartularyLabelsQ1
import Derived.Shelf.Strings.Search3
import Derived.Test.YtllegkmadljmaaaGreatDoorProg
import Derived.Laws.CopyRow
import Derived.Shelf.Lays
import Derived.Shelf.LaysM
import Derived.Shelf.Strings.BuilderX
import Derived.Shelf.Strconv.Itoa3
import Derived.Shelf.Strconv.Atoi
import Derived.Lib.LaidTab
/- Names of references: the program. Conditions: as named. -/
set_option linter.unusedVariables false
namespace Go.Proofs.YtllegkmadljmaaaGreatDoor
open Go Vc Go.Proofs

theorem cutSuffix_spec (s t : ByteArray) (hs : s.size ≤ 140737488355328) (w : World) : Calls Tryz.prog F_strings_CutSuffix #[.string s, .string t] w fun e w' => e = .returned (.tuple #[.string (cutSuf s t), .bool (sufL t.data.toList s.data.toList)]) ∧ w' = w := by
  refine vc_strings_CutSuffix_ok (R := fun v w' => v = .tuple #[.string (cutSuf s t), .bool (sufL t.data.toList s.data.toList)] ∧ w' = w) ?_ (fun v w' h => ⟨by rw [h.1], h.2⟩)
  refine Calls.mono (R := fun e w' => e = .returned (.tuple #[.string (cutSuf s t), .bool (sufL t.data.toList s.data.toList)]) ∧ w' = w) (vc_stringslite_CutSuffix_ok (R := fun v w' => v = .tuple #[.string (cutSuf s t), .bool (sufL t.data.toList s.data.toList)] ∧ w' = w) ?_ (fun v w' h => ⟨by rw [h.1], h.2⟩)) ?_
  · refine (suffixL_spec s t hs w).mono ?_
    rintro e w2 ⟨rfl, rfl⟩
    refine ⟨_, rfl, fun h => ⟨?_, rfl⟩, fun h => ?_⟩
    · have h : sufL t.data.toList s.data.toList = false := by simpa using h
      unfold cutSuf; rw [h]; rfl
    · have h : sufL t.data.toList s.data.toList = true := by simpa using h
      have hle := suf_le h
      have e1 : IntKind.i64.wrap ((s.size : Int) - (t.size : Int)) = ((s.size - t.size : Nat) : Int) := by rw [wrap_i64 (by omega) (by omega)]; omega
      rw [e1]
      refine ⟨⟨by omega, by omega⟩, ?_, rfl⟩
      unfold cutSuf; rw [h, Int.toNat_natCast]; rfl
  · rintro e w2 ⟨rfl, rfl⟩
    exact ⟨_, _, rfl, rfl, rfl⟩
end Go.Proofs.YtllegkmadljmaaaGreatDoor
namespace Go.Proofs.YtllegkmadljmaaaGreatDoor
open Go Vc Go.Proofs Go.RowKit Go.Shelf
attribute [local go_sem] Oper.semAt_some

theorem toList_head : (⟨#[72, 69, 65, 68]⟩ : ByteArray).toList = [72, 69, 65, 68] := by rw [ByteArray.toList_eq]
def nbadB : ByteArray := ⟨#[32, 126, 94, 58, 63, 42, 91, 92]⟩
theorem nbad_ascii : Ascii nbadB := by
  intro j hj
  have : j < 8 := hj
  have key : ∀ j : Fin 8, byt nbadB j < 128 := by decide
  exact key ⟨j, this⟩
def partN (p : ByteArray) : Bool := decide (byt p 0 ≠ 46) && !sufL lockL p.data.toList
theorem clean_partsN {s : ByteArray} (hc : cleanB s = true) : s.size ≤ 200 ∧ ∀ p ∈ partsF s.size s, p.size ≠ 0 ∧ p.size ≤ 200 := by
  unfold cleanB at hc
  simp only [Bool.and_eq_true] at hc
  have h1 := of_decide_eq_true hc.1.1
  refine ⟨h1, fun p hp => ?_⟩
  have h2 := List.all_eq_true.1 hc.1.2 p hp
  rw [partsF_L _ _ (Nat.le_refl _), bsm] at hp
  obtain ⟨q, hq, rfl⟩ := List.mem_map.1 hp
  have h3 := partsL_size _ q hq
  rw [bs_len] at h3
  refine ⟨fun e => ?_, by rw [bs_mksize]; omega⟩
  rw [bs_empty.2 e] at h2
  revert h2; decide
theorem partN_eq {p : List UInt8} (hp : p ≠ []) : partN ⟨p.toArray⟩ = partName p := by
  obtain ⟨c, r, rfl⟩ := List.exists_cons_of_ne_nil hp
  unfold partN partName
  rw [bs_mk]
  congr 1
  refine decide_eq_decide.2 ?_
  have hb : byt ⟨(c :: r).toArray⟩ 0 = c.toNat := rfl
  rw [hb, List.head?_cons]
  refine not_congr ⟨fun h => ?_, fun h => by rw [Option.some.inj h]; rfl⟩
  rw [UInt8.toNat_inj.1 (show c.toNat = (46 : UInt8).toNat from h)]
theorem name_parts {s : ByteArray} (hc : cleanB s = true) : (partsL s.data.toList).all partName = (partsF s.size s).all partN := by
  have hps := (clean_partsN hc).2
  rw [partsF_L _ _ (Nat.le_refl _), bsm] at hps ⊢
  rw [List.all_map, Bool.eq_iff_iff, List.all_eq_true, List.all_eq_true]
  have key : ∀ q ∈ partsL s.data.toList, partN ⟨q.toArray⟩ = partName q := fun q hq => partN_eq (fun e => (hps ⟨q.toArray⟩ (List.mem_map.2 ⟨q, hq, rfl⟩)).1 (by rw [e]; rfl))
  refine ⟨fun h q hq => ?_, fun h q hq => ?_⟩
  · rw [Function.comp_apply, key q hq]; exact h q hq
  · have := h q hq
    rw [Function.comp_apply, key q hq] at this; exact this
set_option maxRecDepth 100000 in
set_option maxHeartbeats 4000000 in
theorem name_spec (s : ByteArray) (hs : s.size ≤ 140737488355328) {w : World} (hml : MaxL w) : Calls Tryz.prog 6 #[.string s] w fun e w' => e = .returned (.bool (nameB s)) ∧ Fr (fun _ => False) w w' := by
  refine (callsIn_wide (n := 3)).1 ?_
  refine callsIn_of_wp_marks Tryz.func6 rfl trivial ?_ rfl
  simp only [Tryz.ntmps6, List.size_toArray, List.length_cons, List.length_nil, Nat.reduceAdd, Nat.reduceSub, Array.replicate_succ, Array.replicate_zero, List.push_toArray, List.append_toArray, List.nil_append, List.cons_append]
  obtain ⟨w0, hw0⟩ : ∃ w0, w.alloc (.cells #[.bool false] 4) = w0 := ⟨_, rfl⟩
  have hsz : w0.heap.size = w.heap.size + 1 := by rw [← hw0]; simp
  have hb0 : w0.heap[w.heap.size]? = some (.cells #[.bool false] 4 (0, 0)) := by rw [← hw0]; exact alloc_new _ _
  have hf0 : Fr (fun _ => False) w w0 := by rw [← hw0]; exact .alloc _ _ _
  have hcc : ∀ w', Fr (fun _ => False) w0 w' → w'.cell? ⟨w.heap.size, 0, none⟩ = some (.bool false) := fun w' hf => by rw [cell_blk (hf.keep hb0 (by simp))]; rfl
  have hcz : ∀ w', Fr (fun _ => False) w0 w' → w'.frozen? ⟨w.heap.size, 0, none⟩ = false := fun w' hf => frozen_blk (hf.keep hb0 (by simp)) 0
  have hc0 := hcc w0 (.refl _ _)
  have hz0 := hcz w0 (.refl _ _)
  have kH : (s.toList == [72, 69, 65, 68]) = decide (s = sHEAD) := by rw [← toList_head, bs_eq]; rfl
  have hset : ∀ w', Fr (fun _ => False) w0 w' → (w'.setCell ⟨w.heap.size, 0, none⟩ (.bool false)).cell? ⟨w.heap.size, 0, none⟩ = some (.bool false) := fun w' hf => World.cell?_setCell_same' _ _ _ (by rw [hcc w' hf]; rfl)
  by_cases hH : s = sHEAD
  · have hN : nameB s = true := by unfold nameB; rw [decide_eq_true hH]; rfl
    rw [decide_eq_true hH] at kH
    clear hH
    gi_wp2
    have hst : Fr (· = w.heap.size) w0 (w0.setCell ⟨w.heap.size, 0, none⟩ (.bool true)) := .set _ _ _ rfl
    have hc5 : (w0.setCell ⟨w.heap.size, 0, none⟩ (.bool true)).cell? ⟨w.heap.size, 0, none⟩ = some (.bool true) := World.cell?_setCell_same' _ _ _ (by rw [hc0]; rfl)
    refine ⟨.bool true, ?_, by rw [hN], hf0.trans hst fun q hq e => by omega⟩
    simp [results, Tryz.f6, go_sem, hc5]
  rw [decide_eq_false hH] at kH
  have hN : nameB s = (begB s sRefs && cleanB s && !hasL [46, 46] s.data.toList && !hasL [64, 123] s.data.toList && !sufL [46] s.data.toList && !(s.data.toList.any fun c => nbadL.contains c) && (partsL s.data.toList).all partName) := by
    unfold nameB; rw [decide_eq_false hH, Bool.false_or]
  have hF : Fr (fun _ => False) w0 w0 := .refl _ _
  by_cases h1 : begB s sRefs = true
  rotate_left
  · have h1 : begB s sRefs = false := by simpa using h1
    gi_wp2_with (refine ⟨trivial, ?_⟩; gi_at_call 22; refine (callsIn_wide.2 (hasPrefix_spec s sRefs _)).mono ?_; rintro e w1 ⟨rfl, rfl⟩; simp only [h1])
    refine ⟨trivial, ?_⟩
    gi_wp2
    refine ⟨trivial, ?_⟩
    gi_wp2
    refine ⟨trivial, ?_⟩
    gi_wp2
    refine ⟨trivial, ?_⟩
    gi_wp2
    refine ⟨trivial, ?_⟩
    gi_wp2
    refine ⟨.bool false, ?_, ?_, (hf0.trans' hF).trans (Fr.set (· = w.heap.size) _ _ rfl) fun q hq e => by omega⟩
    · simp [results, Tryz.f6, go_sem, hset _ hF]
    · rw [hN, h1]; simp only [Bool.false_and]
  gi_wp2_with (refine ⟨trivial, ?_⟩; gi_at_call 22; refine (callsIn_wide.2 (hasPrefix_spec s sRefs _)).mono ?_; rintro e w1 ⟨rfl, rfl⟩; simp only [h1])
  by_cases h2 : cleanB s = true
  rotate_left
  · have h2 : cleanB s = false := by simpa using h2
    refine ⟨trivial, ?_⟩
    gi_at_call 23
    refine (callsIn_wide.2 (clean_spec s hs _)).mono ?_
    rintro e w2 ⟨rfl, hf2⟩
    replace hF := hF.trans' hf2
    rw [h2]
    have hc2 := hcc _ hF
    have hz2 := hcz _ hF
    gi_wp2
    refine ⟨trivial, ?_⟩
    gi_wp2
    refine ⟨trivial, ?_⟩
    gi_wp2
    refine ⟨trivial, ?_⟩
    gi_wp2
    refine ⟨trivial, ?_⟩
    gi_wp2
    refine ⟨.bool false, ?_, ?_, (hf0.trans' hF).trans (Fr.set (· = w.heap.size) _ _ rfl) fun q hq e => by omega⟩
    · simp [results, Tryz.f6, go_sem, hset _ hF]
    · rw [hN, h1, h2]; simp only [Bool.and_false, Bool.false_and]
  obtain ⟨hs2, hps⟩ := clean_partsN h2
  refine ⟨trivial, ?_⟩
  gi_at_call 23
  refine (callsIn_wide.2 (clean_spec s hs _)).mono ?_
  rintro e w2 ⟨rfl, hf2⟩
  replace hF := hF.trans' hf2
  rw [h2]
  have hc2 := hcc _ hF
  have hz2 := hcz _ hF
  gi_wp2
  by_cases h3 : hasL [46, 46] s.data.toList = false
  rotate_left
  · have h3 : hasL [46, 46] s.data.toList = true := by simpa using h3
    refine ⟨trivial, ?_⟩
    gi_at_call 24
    refine (callsIn_wide.2 (contains2_spec s ⟨#[46, 46]⟩ (by omega) (hml.keep (hf0.trans' hF)))).mono ?_
    rintro e w3 ⟨rfl, rfl⟩
    rw [show hasL (⟨#[46, 46]⟩ : ByteArray).data.toList s.data.toList = true from h3]
    have hc3 := hcc _ hF
    have hz3 := hcz _ hF
    gi_wp2
    refine ⟨trivial, ?_⟩
    gi_wp2
    refine ⟨trivial, ?_⟩
    gi_wp2
    refine ⟨trivial, ?_⟩
    gi_wp2
    refine ⟨.bool false, ?_, ?_, (hf0.trans' hF).trans (Fr.set (· = w.heap.size) _ _ rfl) fun q hq e => by omega⟩
    · simp [results, Tryz.f6, go_sem, hset _ hF]
    · rw [hN, h1, h2, h3]; simp only [Bool.not_true, Bool.and_true, Bool.and_false, Bool.false_and]
  refine ⟨trivial, ?_⟩
  gi_at_call 24
  refine (callsIn_wide.2 (contains2_spec s ⟨#[46, 46]⟩ (by omega) (hml.keep (hf0.trans' hF)))).mono ?_
  rintro e w3 ⟨rfl, rfl⟩
  rw [show hasL (⟨#[46, 46]⟩ : ByteArray).data.toList s.data.toList = false from h3]
  have hc3 := hcc _ hF
  have hz3 := hcz _ hF
  gi_wp2
  by_cases h4 : hasL [64, 123] s.data.toList = false
  rotate_left
  · have h4 : hasL [64, 123] s.data.toList = true := by simpa using h4
    refine ⟨trivial, ?_⟩
    gi_at_call 24
    refine (callsIn_wide.2 (contains2_spec s ⟨#[64, 123]⟩ (by omega) (hml.keep (hf0.trans' hF)))).mono ?_
    rintro e w4 ⟨rfl, rfl⟩
    rw [show hasL (⟨#[64, 123]⟩ : ByteArray).data.toList s.data.toList = true from h4]
    have hc4 := hcc _ hF
    have hz4 := hcz _ hF
    gi_wp2
    refine ⟨trivial, ?_⟩
    gi_wp2
    refine ⟨trivial, ?_⟩
    gi_wp2
    refine ⟨.bool false, ?_, ?_, (hf0.trans' hF).trans (Fr.set (· = w.heap.size) _ _ rfl) fun q hq e => by omega⟩
    · simp [results, Tryz.f6, go_sem, hset _ hF]
    · rw [hN, h1, h2, h3, h4]; simp only [Bool.not_true, Bool.not_false, Bool.and_true, Bool.and_false, Bool.false_and]
  refine ⟨trivial, ?_⟩
  gi_at_call 24
  refine (callsIn_wide.2 (contains2_spec s ⟨#[64, 123]⟩ (by omega) (hml.keep (hf0.trans' hF)))).mono ?_
  rintro e w4 ⟨rfl, rfl⟩
  rw [show hasL (⟨#[64, 123]⟩ : ByteArray).data.toList s.data.toList = false from h4]
  have hc4 := hcc _ hF
  have hz4 := hcz _ hF
  gi_wp2
  by_cases h5 : sufL [46] s.data.toList = false
  rotate_left
  · have h5 : sufL [46] s.data.toList = true := by simpa using h5
    refine ⟨trivial, ?_⟩
    gi_at_call 25
    refine (callsIn_wide.2 (suffix_spec s ⟨#[46]⟩ (by omega) _)).mono ?_
    rintro e w5 ⟨rfl, rfl⟩
    rw [show sufL (⟨#[46]⟩ : ByteArray).data.toList s.data.toList = true from h5]
    have hc5 := hcc _ hF
    have hz5 := hcz _ hF
    gi_wp2
    refine ⟨trivial, ?_⟩
    gi_wp2
    refine ⟨.bool false, ?_, ?_, (hf0.trans' hF).trans (Fr.set (· = w.heap.size) _ _ rfl) fun q hq e => by omega⟩
    · simp [results, Tryz.f6, go_sem, hset _ hF]
    · rw [hN, h1, h2, h3, h4, h5]; simp only [Bool.not_true, Bool.not_false, Bool.and_true, Bool.and_false, Bool.false_and]
  refine ⟨trivial, ?_⟩
  gi_at_call 25
  refine (callsIn_wide.2 (suffix_spec s ⟨#[46]⟩ (by omega) _)).mono ?_
  rintro e w5 ⟨rfl, rfl⟩
  rw [show sufL (⟨#[46]⟩ : ByteArray).data.toList s.data.toList = false from h5]
  have hc5 := hcc _ hF
  have hz5 := hcz _ hF
  gi_wp2
  by_cases h6 : (s.data.toList.any fun c => nbadL.contains c) = false
  rotate_left
  · have h6 : (s.data.toList.any fun c => nbadL.contains c) = true := by simpa using h6
    refine ⟨trivial, ?_⟩
    gi_at_call 26
    refine (callsIn_wide.2 (containsAny_spec s nbadB (by omega) (by decide) (by decide) nbad_ascii _)).mono ?_
    rintro e w6 ⟨rfl, hf6⟩
    replace hF := hF.trans' hf6
    rw [show (s.data.toList.any fun c => nbadB.data.toList.contains c) = true from h6]
    have hc6 := hcc _ hF
    have hz6 := hcz _ hF
    gi_wp2
    refine ⟨.bool false, ?_, ?_, (hf0.trans' hF).trans (Fr.set (· = w.heap.size) _ _ rfl) fun q hq e => by omega⟩
    · simp [results, Tryz.f6, go_sem, hset _ hF]
    · rw [hN, h1, h2, h3, h4, h5, h6]; simp only [Bool.not_true, Bool.not_false, Bool.and_true, Bool.and_false, Bool.false_and]
  refine ⟨trivial, ?_⟩
  gi_at_call 26
  refine (callsIn_wide.2 (containsAny_spec s nbadB (by omega) (by decide) (by decide) nbad_ascii _)).mono ?_
  rintro e w6 ⟨rfl, hf6⟩
  replace hF := hF.trans' hf6
  rw [show (s.data.toList.any fun c => nbadB.data.toList.contains c) = false from h6]
  have hc6 := hcc _ hF
  have hz6 := hcz _ hF
  gi_wp2
  have hFB : nameB s = (partsF s.size s).all partN := by
    rw [hN, h1, h2, h3, h4, h5, h6, name_parts h2]; rfl
  have hb3 := hF.keep hb0 (by simp)
  have hF3 := hf0.trans' hF
  gi_wp2_with (refine ⟨trivial, ?_⟩; gi_at_call 27; refine (callsIn_wide.2 (splitSeq_spec s _)).mono ?_; rintro e w' ⟨rfl, rfl⟩)
  clear hset hcc hcz
  obtain ⟨n, hn⟩ : ∃ n, w6.heap.size = n := ⟨_, rfl⟩
  have hwn : w.heap.size < n := by rw [← hn]; exact lt_blk hb3
  obtain ⟨w1, hw1⟩ : ∃ w1, ((w6.alloc (.cells #[.string s] 9)).alloc (.cells #[.string ⟨#[47]⟩] 9)).alloc (.cells #[.int .i64 0] 3) = w1 := ⟨_, rfl⟩
  have hf1 : Fr (fun _ => False) w6 w1 := by rw [← hw1]; exact ((Fr.alloc _ _ _).trans' (.alloc _ _ _)).trans' (.alloc _ _ _)
  have n1 : (w6.alloc (.cells #[.string s] 9)).heap.size = n + 1 := by simp [hn]
  have n2 : ((w6.alloc (.cells #[.string s] 9)).alloc (.cells #[.string ⟨#[47]⟩] 9)).heap.size = n + 2 := by simp [hn]
  have hbs : w1.heap[n]? = some (.cells #[.string s] 9 (0, 0)) := by
    rw [← hw1, ← hn]
    exact (Fr.alloc (fun _ => False) _ _).keep ((Fr.alloc (fun _ => False) _ _).keep (alloc_new w6 _) (by simp)) (by simp)
  have hbp : w1.heap[n + 1]? = some (.cells #[.string ⟨#[47]⟩] 9 (0, 0)) := by
    rw [← hw1, ← n1]
    exact (Fr.alloc (fun _ => False) _ _).keep (alloc_new _ _) (by simp)
  have hbz : w1.heap[n + 2]? = some (.cells #[.int .i64 0] 3 (0, 0)) := by
    rw [← hw1, ← n2]
    exact alloc_new _ _
  rw [hw1, hn]
  clear hw1 n1 n2
  refine range_split (B := n) (b0 := n + 1) (b1 := n) (b2 := n + 2) (by omega) (by omega) (by omega) (by omega) (by omega) rfl s hs
    (by rw [cell_blk hbp]; rfl) (by rw [cell_blk hbs]; rfl) (by rw [cell_blk hbz]; rfl) (frozen_blk hbs 0)
    (fun pre W => (∀ p ∈ pre, partN p = true) ∧ W.heap[w.heap.size]? = some (.cells #[.bool false] 4 (0, 0)) ∧ Fr (fun _ => False) w W)
    (fun pre W => (∃ p ∈ partsF s.size s, partN p = false) ∧ W.cell? ⟨w.heap.size, 0, none⟩ = some (.bool false) ∧ Fr (fun _ => False) w W)
    (fun pre W W' ⟨h1, h2, h3⟩ hf => ⟨h1, hf.keep h2 (by omega), h3.trans hf fun q hq h => by omega⟩)
    (fun pre W W' ⟨h1, h2, h3⟩ hf => ⟨h1, hf.cell h2 (by simp only; omega), h3.trans hf fun q hq h => by omega⟩)
    ⟨by simp, hf1.keep hb3 (by simp), hF3.trans' hf1⟩
    (fun x => { tmps := #[.string s, undef, .pointer (some ⟨w.heap.size, 0, none⟩), .string x, .string s, .bool false, .string s, .bool true, .bool false, .bool false, .string s, .bool true, .bool false, .bool false, .bool false, .string s, .bool false, .bool false, .bool false, .string s, .bool false, .bool false, .bool false, .string s, .bool false, .bool false, .bool false, .string s, .bool false, .bool false, .string s, .func (.func 96) #[] #[.pointer (some ⟨n + 1, 0, none⟩), .pointer (some ⟨n, 0, none⟩), .pointer (some ⟨n + 2, 0, none⟩)], .string x, undef, undef, undef, undef, undef, undef, undef], defers := [] }) ?assign ?body ?done ?stop
  case assign =>
    intro l x W K hK
    gi_wp2
    exact hK
  case body =>
    rintro l pre x W ⟨hp, hcell, hf⟩ hr
    have hcc : W.cell? ⟨w.heap.size, 0, none⟩ = some (.bool false) := by rw [cell_blk hcell]; rfl
    have hcz : W.frozen? ⟨w.heap.size, 0, none⟩ = false := frozen_blk hcell 0
    have hxm : x ∈ partsF s.size s := by obtain ⟨r, hr⟩ := hr; rw [← hr]; simp
    obtain ⟨hx0, hx2⟩ := hps x hxm
    have hget : ∀ (h : 0 < x.size), (x[0]'h).toNat = byt x 0 := fun h => by
      unfold byt; rw [Lib.data_getElem? x _ h]; rfl
    have hpos : 0 < x.size := by omega
    have ret : partN x = false → Fr (fun k => k < n) W (W.setCell ⟨w.heap.size, 0, none⟩ (.bool false)) ∧ (∃ p ∈ partsF s.size s, partN p = false) ∧ (W.setCell ⟨w.heap.size, 0, none⟩ (.bool false)).cell? ⟨w.heap.size, 0, none⟩ = some (.bool false) ∧ Fr (fun _ => False) w (W.setCell ⟨w.heap.size, 0, none⟩ (.bool false)) := fun hx =>
      ⟨Fr.set _ _ _ hwn, ⟨x, hxm, hx⟩, World.cell?_setCell_same' _ _ _ (by rw [hcc]; rfl), hf.trans (Fr.set (· = w.heap.size) _ _ rfl) fun q hq e => by omega⟩
    by_cases h46 : byt x 0 = 46
    · have kb : (((byt x 0 : Nat) : Int) == 46) = true := by rw [h46]; rfl
      gi_wp2
      refine ⟨trivial, ?_⟩
      gi_wp2
      exact ret (by unfold partN; rw [decide_eq_false (fun h => h h46)]; rfl)
    · have kb : (((byt x 0 : Nat) : Int) == 46) = false := by
        rw [beq_eq_false_iff_ne]; omega
      by_cases hl : sufL lockL x.data.toList = true
      · gi_wp2_with (refine ⟨trivial, ?_⟩; gi_at_call 25; refine (CallsIn.inRound l (callsIn_wide.2 (suffix_spec x ⟨#[46, 108, 111, 99, 107]⟩ (by omega) _))).mono ?_; rintro e w9 ⟨rfl, rfl⟩; rw [show sufL (⟨#[46, 108, 111, 99, 107]⟩ : ByteArray).data.toList x.data.toList = true from hl])
        exact ret (by unfold partN; rw [hl]; simp)
      · have hl : sufL lockL x.data.toList = false := by simpa using hl
        gi_wp2_with (refine ⟨trivial, ?_⟩; gi_at_call 25; refine (CallsIn.inRound l (callsIn_wide.2 (suffix_spec x ⟨#[46, 108, 111, 99, 107]⟩ (by omega) _))).mono ?_; rintro e w9 ⟨rfl, rfl⟩; rw [show sufL (⟨#[46, 108, 111, 99, 107]⟩ : ByteArray).data.toList x.data.toList = false from hl])
        refine ⟨.refl _ _, fun p hpm => ?_, hcell, hf⟩
        rcases List.mem_append.1 hpm with hpm | hpm
        · exact hp p hpm
        · simp only [List.mem_cons, List.mem_nil_iff, or_false] at hpm
          subst hpm
          unfold partN
          rw [hl, decide_eq_true h46]; rfl
  case done =>
    rintro D W hD ⟨hall, hcell, hf⟩ hK
    have hcc : W.cell? ⟨w.heap.size, 0, none⟩ = some (.bool false) := by rw [cell_blk hcell]; rfl
    have hcz : W.frozen? ⟨w.heap.size, 0, none⟩ = false := frozen_blk hcell 0
    gi_wp2
    have hne : D ≠ w.heap.size := by have := hf1.size; omega
    have hst : Fr (· = w.heap.size) W (W.setCell ⟨w.heap.size, 0, none⟩ (.bool true)) := .set _ _ _ rfl
    have hK' := hst.keep hK hne
    refine ⟨by simp, .inl ⟨_, _, rfl, run_takeDeferred hK', ?_⟩⟩
    have hpt : Fr (· = D) (W.setCell ⟨w.heap.size, 0, none⟩ (.bool true)) ((W.setCell ⟨w.heap.size, 0, none⟩ (.bool true)).putObj D (.deferred none)) := (Fr.grown (grownBy_putObj' _ D _)).mono fun q _ h => by cases h; rfl
    have hc5 := hpt.cell (World.cell?_setCell_same' W ⟨w.heap.size, 0, none⟩ (.bool true) (by rw [hcc]; rfl)) (fun h => hne h.symm)
    refine ⟨.bool true, ?_, ?_, ?_⟩
    · simp [results, Tryz.f6, go_sem, hc5]
    · have : (partsF s.size s).all partN = true := List.all_eq_true.2 hall
      rw [hFB, this]
    · have h1 := hf.size
      have h2 := (hF3.trans' hf1).size
      exact (hf.trans hst fun q hq e => by omega).trans hpt fun q hq e => by omega
  case stop =>
    rintro D pre W hD ⟨⟨p, hpm, hpb⟩, hcell, hf⟩ hK
    have hne : D ≠ w.heap.size := by have := hf1.size; omega
    gi_wp2
    refine ⟨by simp, .inl ⟨_, _, rfl, run_takeDeferred hK, ?_⟩⟩
    have hpt : Fr (· = D) W (W.putObj D (.deferred none)) := (Fr.grown (grownBy_putObj' _ D _)).mono fun q _ h => by cases h; rfl
    have hc5 := hpt.cell hcell (fun h => hne h.symm)
    refine ⟨.bool false, ?_, ?_, ?_⟩
    · simp [results, Tryz.f6, go_sem, hc5]
    · have : (partsF s.size s).all partN = false := by
        rw [← Bool.not_eq_true, List.all_eq_true]
        intro h
        rw [h p hpm] at hpb; cases hpb
      rw [hFB, this]
    · have h2 := (hF3.trans' hf1).size
      exact hf.trans hpt fun q hq e => by omega
end Go.Proofs.YtllegkmadljmaaaGreatDoor

/- Formulas of 3 Go functions of this seat (written by a program of the author's, vcgen.py), and that each is enough for the call. No condition. -/
set_option linter.unusedVariables false
namespace Go.Proofs.YtllegkmadljmaaaGreatDoor
open Go Vc Go.Proofs
set_option maxRecDepth 100000
def vc_refs_Open (x0 : Nat) (w : World) (R : Value → World → Prop) : Prop :=
 ∀ w1 : World,
 (w1 = World.alloc w (Obj.map (Array.mk []) 0) →
 ∀ w2 : World,
 (w2 = World.alloc w1 (Obj.cells (Array.mk [Value.pointer (some (Addr.mk x0 0 none)), Value.map (some (Array.size (World.heap w)))]) 92) →
 Calls Tryz.prog (41 : Nat) (Array.mk [Value.pointer (some (Addr.mk x0 0 none)), Value.string (ByteArray.mk (Array.mk [112, 97, 99, 107, 101, 100, 45, 114, 101, 102, 115]))]) (w2) (fun e3 w4 =>
 ∃ s5 : ByteArray, ∃ n6 : Int, (e3 = Ending.returned (Value.tuple (Array.mk [Value.string s5, Value.int .i64 n6])) ∧
 ((((n6 != 0) = true →
 R (Value.tuple (Array.mk [Value.pointer (some (Addr.mk (Array.size (World.heap w1)) 0 none)), Value.int .i64 0])) w4)) ∧
 ((n6 != 0) = false →
 ∃ I7 : ByteArray → ByteArray → World → Prop, ∃ I8 : ByteArray → ByteArray → World → Nat, (I7 s5 (ByteArray.mk (Array.mk [])) w4 ∧
 ∀ s9 : ByteArray,
 ∀ s10 : ByteArray,
 ∀ w11 : World,
 (I7 s9 s10 w11 →
 ((((!ByteArray.toList s9 == ByteArray.toList (ByteArray.mk (Array.mk []))) = true →
 Calls Tryz.prog (46 : Nat) (Array.mk [Value.string s9, Value.string (ByteArray.mk (Array.mk [10]))]) (w11) (fun e12 w13 =>
 ∃ s14 : ByteArray, ∃ s15 : ByteArray, ∃ b16 : Bool, (e12 = Ending.returned (Value.tuple (Array.mk [Value.string s14, Value.string s15, Value.bool b16])) ∧
 ((((!b16) = true →
 R (Value.tuple (Array.mk [Value.pointer none, Value.int .i64 3])) w13)) ∧
 ((!b16) = false →
 Calls Tryz.prog (22 : Nat) (Array.mk [Value.string s14, Value.string (ByteArray.mk (Array.mk [35]))]) (w13) (fun e17 w18 =>
 ∃ b19 : Bool, (e17 = Ending.returned (Value.bool b19) ∧
 (((b19 = true →
 (I7 s15 s10 w18 ∧
 I8 s15 s10 w18 < I8 s9 s10 w11))) ∧
 (b19 = false →
 Calls Tryz.prog (47 : Nat) (Array.mk [Value.string s14, Value.string (ByteArray.mk (Array.mk [94]))]) (w18) (fun e20 w21 =>
 ∃ s22 : ByteArray, ∃ b23 : Bool, (e20 = Ending.returned (Value.tuple (Array.mk [Value.string s22, Value.bool b23])) ∧
 (((b23 = true →
 ∃ p24 : Option Nat, (World.cell? w21 (Addr.mk (Array.size (World.heap w1)) 1 none) = some (Value.map p24) ∧
 ∃ w25 : World, ∃ s26 : ByteArray, ∃ s27 : ByteArray, ∃ b28 : Bool, (Sem.run Tryz.prog (Instr.lookup 90 (Value.map p24) (Value.string s10) true) w21 = Result.ok (Value.tuple (Array.mk [Value.agg (Array.mk [Value.string s26, Value.string s27]), Value.bool b28])) w25 ∧
 ∀ w29 : World,
 (w29 = World.alloc w25 (Obj.cells (Array.mk [Value.string (ByteArray.mk (Array.mk [])), Value.string (ByteArray.mk (Array.mk []))]) 96) →
 ∃ w30 : World, (Sem.run Tryz.prog (storeVar 96 (Addr.mk (Array.size (World.heap w25)) 0 none) (Value.agg (Array.mk [Value.string s26, Value.string s27]))) w29 = Result.ok PUnit.unit w30 ∧
 ((((!b28) = true →
 R (Value.tuple (Array.mk [Value.pointer none, Value.int .i64 3])) w30)) ∧
 ((!b28) = false →
 ∃ s31 : ByteArray, (World.cell? w30 (Addr.mk (Array.size (World.heap w25)) 1 none) = some (Value.string s31) ∧
 ((((!ByteArray.toList s31 == ByteArray.toList (ByteArray.mk (Array.mk []))) = true →
 R (Value.tuple (Array.mk [Value.pointer none, Value.int .i64 3])) w30)) ∧
 ((!ByteArray.toList s31 == ByteArray.toList (ByteArray.mk (Array.mk []))) = false →
 Calls Tryz.prog (40 : Nat) (Array.mk [Value.string s22]) (w30) (fun e32 w33 =>
 ∃ b34 : Bool, (e32 = Ending.returned (Value.bool b34) ∧
 ((((!b34) = true →
 R (Value.tuple (Array.mk [Value.pointer none, Value.int .i64 3])) w33)) ∧
 ((!b34) = false →
 ∀ w35 : World,
 (Drew w33 w35 →
 ∃ p36 : Option Nat, (World.cell? w35 (Addr.mk (Array.size (World.heap w1)) 1 none) = some (Value.map p36) ∧
 ∃ s37 : ByteArray, (World.cell? w35 (Addr.mk (Array.size (World.heap w25)) 0 none) = some (Value.string s37) ∧
 ∃ w38 : World, (Sem.run Tryz.prog (Instr.mapUpdate 90 (Value.map p36) (Value.string s10) (Value.agg (Array.mk [Value.string s37, Value.string s22]))) w35 = Result.ok PUnit.unit w38 ∧
 (I7 s15 s10 w38 ∧
 I8 s15 s10 w38 < I8 s9 s10 w11)))))))))))))))))))) ∧
 (b23 = false →
 Calls Tryz.prog (46 : Nat) (Array.mk [Value.string s14, Value.string (ByteArray.mk (Array.mk [32]))]) (w21) (fun e39 w40 =>
 ∃ s41 : ByteArray, ∃ s42 : ByteArray, ∃ b43 : Bool, (e39 = Ending.returned (Value.tuple (Array.mk [Value.string s41, Value.string s42, Value.bool b43])) ∧
 ((((!b43) = true →
 R (Value.tuple (Array.mk [Value.pointer none, Value.int .i64 3])) w40)) ∧
 ((!b43) = false →
 Calls Tryz.prog (40 : Nat) (Array.mk [Value.string s41]) (w40) (fun e44 w45 =>
 ∃ b46 : Bool, (e44 = Ending.returned (Value.bool b46) ∧
 ((((!b46) = true →
 R (Value.tuple (Array.mk [Value.pointer none, Value.int .i64 3])) w45)) ∧
 ((!b46) = false →
 Calls Tryz.prog (6 : Nat) (Array.mk [Value.string s42]) (w45) (fun e47 w48 =>
 ∃ b49 : Bool, (e47 = Ending.returned (Value.bool b49) ∧
 ((((!b49) = true →
 R (Value.tuple (Array.mk [Value.pointer none, Value.int .i64 3])) w48)) ∧
 ((!b49) = false →
 ((((ByteArray.toList s42 == ByteArray.toList (ByteArray.mk (Array.mk [72, 69, 65, 68]))) = true →
 R (Value.tuple (Array.mk [Value.pointer none, Value.int .i64 3])) w48)) ∧
 ((ByteArray.toList s42 == ByteArray.toList (ByteArray.mk (Array.mk [72, 69, 65, 68]))) = false →
 ∃ p50 : Option Nat, (World.cell? w48 (Addr.mk (Array.size (World.heap w1)) 1 none) = some (Value.map p50) ∧
 ∃ w51 : World, ∃ s52 : ByteArray, ∃ s53 : ByteArray, ∃ b54 : Bool, (Sem.run Tryz.prog (Instr.lookup 90 (Value.map p50) (Value.string s42) true) w48 = Result.ok (Value.tuple (Array.mk [Value.agg (Array.mk [Value.string s52, Value.string s53]), Value.bool b54])) w51 ∧
 ∀ w55 : World,
 (w55 = World.alloc w51 (Obj.cells (Array.mk [Value.string (ByteArray.mk (Array.mk [])), Value.string (ByteArray.mk (Array.mk []))]) 96) →
 ∃ w56 : World, (Sem.run Tryz.prog (storeVar 96 (Addr.mk (Array.size (World.heap w51)) 0 none) (Value.agg (Array.mk [Value.string s52, Value.string s53]))) w55 = Result.ok PUnit.unit w56 ∧
 (((b54 = true →
 R (Value.tuple (Array.mk [Value.pointer none, Value.int .i64 4])) w56)) ∧
 (b54 = false →
 ∃ p57 : Option Nat, (World.cell? w56 (Addr.mk (Array.size (World.heap w1)) 1 none) = some (Value.map p57) ∧
 ∃ w58 : World, (Sem.run Tryz.prog (Instr.mapUpdate 90 (Value.map p57) (Value.string s42) (Value.agg (Array.mk [Value.string s41, Value.string (ByteArray.mk (Array.mk []))]))) w56 = Result.ok PUnit.unit w58 ∧
 ∃ p59 : Option Nat, (World.cell? w58 (Addr.mk (Array.size (World.heap w1)) 1 none) = some (Value.map p59) ∧
 ∃ w60 : World, ∃ n61 : Int, (Sem.run Tryz.prog (Builtin.len_ (Array.mk [90]) 3 (Array.mk [Value.map p59])) w58 = Result.ok (Value.int .i64 n61) w60 ∧
 (((decide (n61 > 2000) = true →
 R (Value.tuple (Array.mk [Value.pointer none, Value.int .i64 2])) w60)) ∧
 (decide (n61 > 2000) = false →
 (I7 s15 s42 w60 ∧
 I8 s15 s42 w60 < I8 s9 s10 w11))))))))))))))))))))))))))))))))))))))))) ∧
 ((!ByteArray.toList s9 == ByteArray.toList (ByteArray.mk (Array.mk []))) = false →
 R (Value.tuple (Array.mk [Value.pointer (some (Addr.mk (Array.size (World.heap w1)) 0 none)), Value.int .i64 0])) w11))))))))))
theorem vc_refs_Open_ok {x0 : Nat} {w : World} {R : Value → World → Prop} {R' : Ending → World → Prop} (h : vc_refs_Open x0 w R) (hR : ∀ v w', R v w' → R' (.returned v) w') :
    Calls Tryz.prog 12 #[.pointer (some ⟨x0, 0, none⟩)] w R' :=
  calls_of_body (vs := [(.pointer (some ⟨x0, 0, none⟩), true)]) (ty := ty) (ann := ⟨[], [(6, [(5, .str), (7, .str)])], [(17, .tail 9)], []⟩) (c := Tryz.f12.body.getD .skip) (by kernel_rfl) Tryz.func12 (by kernel_rfl) (by kernel_rfl) (Eq.mp (by kernel_rfl) h) hR
def vc_refs_Refs_file (x0 : Nat) (x1 : ByteArray) (w : World) (R : Value → World → Prop) : Prop :=
 ∃ p1 : Option Addr, (World.cell? w (Addr.mk x0 0 none) = some (Value.pointer p1) ∧
 Calls Tryz.prog (41 : Nat) (Array.mk [Value.pointer p1, Value.string x1]) (w) (fun e2 w3 =>
 ∃ s4 : ByteArray, ∃ n5 : Int, (e2 = Ending.returned (Value.tuple (Array.mk [Value.string s4, Value.int .i64 n5])) ∧
 ((((n5 != 0) = true →
 R (Value.tuple (Array.mk [Value.string (ByteArray.mk (Array.mk [])), Value.string (ByteArray.mk (Array.mk [])), Value.int .i64 n5])) w3)) ∧
 ((n5 != 0) = false →
 Calls Tryz.prog (39 : Nat) (Array.mk [Value.string s4, Value.string (ByteArray.mk (Array.mk [10]))]) (w3) (fun e6 w7 =>
 ∃ s8 : ByteArray, ∃ b9 : Bool, (e6 = Ending.returned (Value.tuple (Array.mk [Value.string s8, Value.bool b9])) ∧
 ∃ I10 : World → Prop, (Calls Tryz.prog (40 : Nat) (Array.mk [Value.string s8]) (w7) (fun e11 w12 =>
 ∃ b13 : Bool, (e11 = Ending.returned (Value.bool b13) ∧
 (((b13 = true →
 (((b9 = true →
 R (Value.tuple (Array.mk [Value.string s8, Value.string (ByteArray.mk (Array.mk [])), Value.int .i64 0])) w12)) ∧
 (b9 = false →
 I10 w12)))) ∧
 (b13 = false →
 I10 w12)))) ∧
 ∀ w14 : World,
 (I10 w14 →
 Calls Tryz.prog (47 : Nat) (Array.mk [Value.string s8, Value.string (ByteArray.mk (Array.mk [114, 101, 102, 58, 32]))]) (w14) (fun e15 w16 =>
 ∃ s17 : ByteArray, ∃ b18 : Bool, (e15 = Ending.returned (Value.tuple (Array.mk [Value.string s17, Value.bool b18])) ∧
 ((((!b9) = true →
 R (Value.tuple (Array.mk [Value.string (ByteArray.mk (Array.mk [])), Value.string (ByteArray.mk (Array.mk [])), Value.int .i64 3])) w16)) ∧
 ((!b9) = false →
 ((((!b18) = true →
 R (Value.tuple (Array.mk [Value.string (ByteArray.mk (Array.mk [])), Value.string (ByteArray.mk (Array.mk [])), Value.int .i64 3])) w16)) ∧
 ((!b18) = false →
 Calls Tryz.prog (6 : Nat) (Array.mk [Value.string s17]) (w16) (fun e19 w20 =>
 ∃ b21 : Bool, (e19 = Ending.returned (Value.bool b21) ∧
 ((((!b21) = true →
 R (Value.tuple (Array.mk [Value.string (ByteArray.mk (Array.mk [])), Value.string (ByteArray.mk (Array.mk [])), Value.int .i64 3])) w20)) ∧
 ((!b21) = false →
 R (Value.tuple (Array.mk [Value.string (ByteArray.mk (Array.mk [])), Value.string s17, Value.int .i64 0])) w20)))))))))))))))))))
theorem vc_refs_Refs_file_ok {x0 : Nat} {x1 : ByteArray} {w : World} {R : Value → World → Prop} {R' : Ending → World → Prop} (h : vc_refs_Refs_file x0 x1 w R) (hR : ∀ v w', R v w' → R' (.returned v) w') :
    Calls Tryz.prog 48 #[.pointer (some ⟨x0, 0, none⟩), .string x1] w R' :=
  calls_of_body (vs := [(.pointer (some ⟨x0, 0, none⟩), true), (.string x1, false)]) (ty := ty) (ann := ⟨[(7, [])], [], [], []⟩) (c := Tryz.f48.body.getD .skip) (by kernel_rfl) Tryz.func48 (by kernel_rfl) (by kernel_rfl) (Eq.mp (by kernel_rfl) h) hR
def vc_refs_Refs_Lookup (x0 : Nat) (x1 : ByteArray) (w : World) (R : Value → World → Prop) : Prop :=
 Calls Tryz.prog (6 : Nat) (Array.mk [Value.string x1]) (w) (fun e1 w2 =>
 ∃ b3 : Bool, (e1 = Ending.returned (Value.bool b3) ∧
 ((((!b3) = true →
 R (Value.tuple (Array.mk [Value.string (ByteArray.mk (Array.mk [])), Value.int .i64 4])) w2)) ∧
 ((!b3) = false →
 ∃ I4 : ByteArray → Int → World → Prop, ∃ I5 : ByteArray → Int → World → Nat, (I4 x1 0 w2 ∧
 ∀ s6 : ByteArray,
 ∀ n7 : Int,
 ∀ w8 : World,
 (I4 s6 n7 w8 →
 Calls Tryz.prog (48 : Nat) (Array.mk [Value.pointer (some (Addr.mk x0 0 none)), Value.string s6]) (w8) (fun e9 w10 =>
 ∃ s11 : ByteArray, ∃ s12 : ByteArray, ∃ n13 : Int, (e9 = Ending.returned (Value.tuple (Array.mk [Value.string s11, Value.string s12, Value.int .i64 n13])) ∧
 ((((n13 == 7) = true →
 ∃ p14 : Option Nat, (World.cell? w10 (Addr.mk x0 1 none) = some (Value.map p14) ∧
 ∃ w15 : World, ∃ s16 : ByteArray, ∃ s17 : ByteArray, ∃ b18 : Bool, (Sem.run Tryz.prog (Instr.lookup 90 (Value.map p14) (Value.string s6) true) w10 = Result.ok (Value.tuple (Array.mk [Value.agg (Array.mk [Value.string s16, Value.string s17]), Value.bool b18])) w15 ∧
 ∀ w19 : World,
 (w19 = World.alloc w15 (Obj.cells (Array.mk [Value.string (ByteArray.mk (Array.mk [])), Value.string (ByteArray.mk (Array.mk []))]) 96) →
 ∃ w20 : World, (Sem.run Tryz.prog (storeVar 96 (Addr.mk (Array.size (World.heap w15)) 0 none) (Value.agg (Array.mk [Value.string s16, Value.string s17]))) w19 = Result.ok PUnit.unit w20 ∧
 (((b18 = true →
 ∃ s21 : ByteArray, (World.cell? w20 (Addr.mk (Array.size (World.heap w15)) 0 none) = some (Value.string s21) ∧
 R (Value.tuple (Array.mk [Value.string s21, Value.int .i64 0])) w20))) ∧
 (b18 = false →
 R (Value.tuple (Array.mk [Value.string (ByteArray.mk (Array.mk [])), Value.int .i64 n13])) w20)))))))) ∧
 ((n13 == 7) = false →
 ((((n13 != 0) = true →
 R (Value.tuple (Array.mk [Value.string s11, Value.int .i64 n13])) w10)) ∧
 ((n13 != 0) = false →
 ((((!ByteArray.toList s11 == ByteArray.toList (ByteArray.mk (Array.mk []))) = true →
 R (Value.tuple (Array.mk [Value.string s11, Value.int .i64 n13])) w10)) ∧
 ((!ByteArray.toList s11 == ByteArray.toList (ByteArray.mk (Array.mk []))) = false →
 ((((n7 == 5) = true →
 R (Value.tuple (Array.mk [Value.string (ByteArray.mk (Array.mk [])), Value.int .i64 9])) w10)) ∧
 ((n7 == 5) = false →
 (I4 s12 (IntKind.wrap .i64 (n7 + 1)) w10 ∧
 I5 s12 (IntKind.wrap .i64 (n7 + 1)) w10 < I5 s6 n7 w8)))))))))))))))))
theorem vc_refs_Refs_Lookup_ok {x0 : Nat} {x1 : ByteArray} {w : World} {R : Value → World → Prop} {R' : Ending → World → Prop} (h : vc_refs_Refs_Lookup x0 x1 w R) (hR : ∀ v w', R v w' → R' (.returned v) w') :
    Calls Tryz.prog 13 #[.pointer (some ⟨x0, 0, none⟩), .string x1] w R' :=
  calls_of_body (vs := [(.pointer (some ⟨x0, 0, none⟩), true), (.string x1, false)]) (ty := ty) (ann := ⟨[], [(5, [(1, .str), (6, .int .i64)])], [], []⟩) (c := Tryz.f13.body.getD .skip) (by kernel_rfl) Tryz.func13 (by kernel_rfl) (by kernel_rfl) (Eq.mp (by kernel_rfl) h) hR
end Go.Proofs.YtllegkmadljmaaaGreatDoor

/- Formulas of 3 Go functions of this seat (written by a program of the author's, vcgen.py), and that each is enough for the call. No condition. -/
set_option linter.unusedVariables false
namespace Go.Proofs.YtllegkmadljmaaaGreatDoor
open Go Vc Go.Proofs
set_option maxRecDepth 100000
def vc_sums_digit (x0 : Int) (w : World) (R : Value → World → Prop) : Prop :=
 ∃ I1 : Bool → World → Prop, ((((decide (x0 ≥ 48) = true →
 I1 (decide (x0 ≤ 57)) w)) ∧
 (decide (x0 ≥ 48) = false →
 I1 false w)) ∧
 ∀ b2 : Bool,
 ∀ w3 : World,
 (I1 b2 w3 →
 (((b2 = true →
 R (Value.int .i64 (IntKind.wrap .i64 (IntKind.wrap .u8 (x0 - 48)))) w3)) ∧
 (b2 = false →
 (((decide (x0 ≥ 97) = true →
 (((decide (x0 ≤ 102) = true →
 R (Value.int .i64 (IntKind.wrap .i64 (IntKind.wrap .i64 (IntKind.wrap .u8 (x0 - 97)) + 10))) w3)) ∧
 (decide (x0 ≤ 102) = false →
 R (Value.int .i64 (-1)) w3)))) ∧
 (decide (x0 ≥ 97) = false →
 R (Value.int .i64 (-1)) w3))))))
theorem vc_sums_digit_ok {x0 : Int} {w : World} {R : Value → World → Prop} {R' : Ending → World → Prop} (h : vc_sums_digit x0 w R) (hR : ∀ v w', R v w' → R' (.returned v) w') :
    Calls Tryz.prog 124 #[.int .u8 x0] w R' :=
  calls_of_body (vs := [(.int .u8 x0, false)]) (ty := ty) (ann := ⟨[(2, [(3, .bool)])], [], [], []⟩) (c := Tryz.f124.body.getD .skip) (by kernel_rfl) Tryz.func124 (by kernel_rfl) (by kernel_rfl) (Eq.mp (by kernel_rfl) h) hR
def vc_sums_Unhex (x0 : ByteArray) (w : World) (R : Value → World → Prop) : Prop :=
 ∃ I1 : Sl → Int → World → Prop, ∃ I2 : Sl → Int → World → Nat, (I1 (Sl.mk none 0 0) 0 w ∧
 ∀ l3 : Sl,
 ∀ n4 : Int,
 ∀ w5 : World,
 (I1 l3 n4 w5 →
 (((decide (IntKind.wrap .i64 (n4 + 1) < (↑(ByteArray.size x0) : Int)) = true →
 ∀ w6 : World,
 (Drew w5 w6 →
 ∃ I7 : World → Prop, (I7 w6 ∧
 ((0 ≤ n4 ∧
 n4 < (↑(ByteArray.size x0) : Int)) ∧
 ((0 ≤ IntKind.wrap .i64 (n4 + 1) ∧
 IntKind.wrap .i64 (n4 + 1) < (↑(ByteArray.size x0) : Int)) ∧
 Calls Tryz.prog (124 : Nat) (Array.mk [Value.int .u8 (byteAt x0 n4)]) (w6) (fun e8 w9 =>
 ∃ n10 : Int, (e8 = Ending.returned (Value.int .i64 n10) ∧
 (I7 w9 ∧
 Calls Tryz.prog (124 : Nat) (Array.mk [Value.int .u8 (byteAt x0 (IntKind.wrap .i64 (n4 + 1)))]) (w9) (fun e11 w12 =>
 ∃ n13 : Int, (e11 = Ending.returned (Value.int .i64 n13) ∧
 (I7 w12 ∧
 (((decide (n10 < 0) = true →
 R (Value.tuple (Array.mk [Value.string (ByteArray.mk (Array.mk [])), Value.bool false])) w12)) ∧
 (decide (n10 < 0) = false →
 (((decide (n13 < 0) = true →
 R (Value.tuple (Array.mk [Value.string (ByteArray.mk (Array.mk [])), Value.bool false])) w12)) ∧
 (decide (n13 < 0) = false →
 ((0 : Int) ≤ (4 : Int) ∧
 ∀ w14 : World,
 (w14 = World.alloc w12 (Obj.cells (Array.mk [Value.int .u8 (IntKind.wrap .u8 (IntKind.wrap .i64 (↑(BitVec.toNat (BitVec.ofInt 64 (IntKind.wrap .i64 (n10 * 2 ^ min (Int.toNat 4) 64)) ||| BitVec.ofInt 64 n13)) : Int)))]) 5) →
 ∃ w15 : World, ∃ l16 : Sl, (Sem.run Tryz.prog (Builtin.append_ (Array.mk [108, 108]) 108 (Array.mk [Value.slice l3.1 l3.2 l3.3, Value.slice (some (Addr.mk (Array.size (World.heap w12)) 0 none)) 1 1])) w14 = Result.ok (Value.slice l16.1 l16.2 l16.3) w15 ∧
 (I1 (Sl.mk l16.1 l16.2 l16.3) (IntKind.wrap .i64 (n4 + 2)) w15 ∧
 I2 (Sl.mk l16.1 l16.2 l16.3) (IntKind.wrap .i64 (n4 + 2)) w15 < I2 l3 n4 w5)))))))))))))))))))) ∧
 (decide (IntKind.wrap .i64 (n4 + 1) < (↑(ByteArray.size x0) : Int)) = false →
 ((2 : Int) ≠ (0 : Int) ∧
 ((((Int.tmod (↑(ByteArray.size x0) : Int) 2 != 0) = true →
 R (Value.tuple (Array.mk [Value.string (ByteArray.mk (Array.mk [])), Value.bool false])) w5)) ∧
 ((Int.tmod (↑(ByteArray.size x0) : Int) 2 != 0) = false →
 ∃ w17 : World, ∃ s18 : ByteArray, (Sem.run Tryz.prog (convert 108 9 (Value.slice l3.1 l3.2 l3.3)) w5 = Result.ok (Value.string s18) w17 ∧
 R (Value.tuple (Array.mk [Value.string s18, Value.bool true])) w17))))))))
theorem vc_sums_Unhex_ok {x0 : ByteArray} {w : World} {R : Value → World → Prop} {R' : Ending → World → Prop} (h : vc_sums_Unhex x0 w R) (hR : ∀ v w', R v w' → R' (.returned v) w') :
    Calls Tryz.prog 76 #[.string x0] w R' :=
  calls_of_body (vs := [(.string x0, false)]) (ty := ty) (ann := ⟨[], [(3, [(4, .slice), (5, .int .i64)])], [(5, .held [(0, true), (1, true), (2, true), (4, true), (5, true), (6, true), (7, true), (3, false), (8, false), (9, true), (10, true)])], []⟩) (c := Tryz.f76.body.getD .skip) (by kernel_rfl) Tryz.func76 (by kernel_rfl) (by kernel_rfl) (Eq.mp (by kernel_rfl) h) hR
def vc_sums_Id (x0 : ByteArray) (w : World) (R : Value → World → Prop) : Prop :=
 Calls Tryz.prog (76 : Nat) (Array.mk [Value.string x0]) (w) (fun e1 w2 =>
 ∃ s3 : ByteArray, ∃ b4 : Bool, (e1 = Ending.returned (Value.tuple (Array.mk [Value.string s3, Value.bool b4])) ∧
 (((b4 = true →
 R (Value.bool ((↑(ByteArray.size x0) : Int) == 40)) w2)) ∧
 (b4 = false →
 R (Value.bool false) w2))))
theorem vc_sums_Id_ok {x0 : ByteArray} {w : World} {R : Value → World → Prop} {R' : Ending → World → Prop} (h : vc_sums_Id x0 w R) (hR : ∀ v w', R v w' → R' (.returned v) w') :
    Calls Tryz.prog 40 #[.string x0] w R' :=
  calls_of_body (vs := [(.string x0, false)]) (ty := ty) (ann := ⟨[], [], [], []⟩) (c := Tryz.f40.body.getD .skip) (by kernel_rfl) Tryz.func40 (by kernel_rfl) (by kernel_rfl) (Eq.mp (by kernel_rfl) h) hR
end Go.Proofs.YtllegkmadljmaaaGreatDoor

/- Unhex and Id. Conditions: as named. -/
set_option linter.unusedVariables false
namespace Go.Proofs.YtllegkmadljmaaaGreatDoor
open Go Vc HexM Go.Proofs

theorem digit_spec (c : Nat) (hc : c < 256) (w : World) : Calls Tryz.prog F_sums_digit #[.int .u8 (c : Int)] w fun e w' => e = .returned (.int .i64 (match dg c with | some n => (n : Int) | none => -1)) ∧ w' = w := by
  refine vc_sums_digit_ok (R := fun v w' => v = .int .i64 (match dg c with | some n => (n : Int) | none => -1) ∧ w' = w) ?_ (fun v w' h => ⟨by rw [h.1], h.2⟩)
  refine ⟨fun b w' => b = decide (48 ≤ c ∧ c ≤ 57) ∧ w' = w, ⟨fun h => ⟨?_, rfl⟩, fun h => ⟨?_, rfl⟩⟩, ?_⟩
  · have h := of_decide_eq_true h
    exact decide_eq_decide.2 ⟨fun _ => ⟨by omega, by omega⟩, fun _ => by omega⟩
  · have h := of_decide_eq_false h
    rw [decide_eq_false (by omega)]
  · rintro b w3 ⟨rfl, rfl⟩
    unfold dg
    refine ⟨fun h => ?_, fun h => ⟨fun h2 => ⟨fun h3 => ?_, fun h3 => ?_⟩, fun h2 => ?_⟩⟩
    · have h := of_decide_eq_true h
      rw [if_pos h, wrap_u8 (by omega) (by omega), wrap_i64 (by omega) (by omega)]
      exact ⟨by congr 1; simp only; omega, rfl⟩
    · have h := of_decide_eq_false h
      have h2 := of_decide_eq_true h2
      have h3 := of_decide_eq_true h3
      rw [if_neg h, if_pos (by omega), wrap_u8 (by omega) (by omega), wrap_i64 (x := (c : Int) - 97) (by omega) (by omega), wrap_i64 (by omega) (by omega)]
      exact ⟨by congr 1; simp only; omega, rfl⟩
    · have h := of_decide_eq_false h
      have h3 := of_decide_eq_false h3
      rw [if_neg h, if_neg (by omega)]
      exact ⟨rfl, rfl⟩
    · have h := of_decide_eq_false h
      have h2 := of_decide_eq_false h2
      rw [if_neg h, if_neg (by omega)]
      exact ⟨rfl, rfl⟩
def unhexS (s : ByteArray) : ByteArray := match unhexL s.data.toList with | some l => ⟨l.toArray⟩ | none => ⟨#[]⟩
/-- 'Unhex'. -/
theorem unhex_spec (s : ByteArray) (hs : s.size ≤ 140737488355328) (w : World) : Calls Tryz.prog F_sums_Unhex #[.string s] w fun e w' => e = .returned (.tuple #[.string (unhexS s), .bool (unhexL s.data.toList).isSome]) ∧ Fr (fun _ => False) w w' := by
  refine vc_sums_Unhex_ok (R := fun v w' => v = .tuple #[.string (unhexS s), .bool (unhexL s.data.toList).isSome] ∧ Fr (fun _ => False) w w') ?_ (fun v w' h => ⟨by rw [h.1], h.2⟩)
  have hbad : ∀ {w' : World} {k : Nat}, k < s.size → dg (byt s k) = none → Fr (fun _ => False) w w' → (Value.tuple #[.string ⟨#[]⟩, .bool false] = .tuple #[.string (unhexS s), .bool (unhexL s.data.toList).isSome] ∧ Fr (fun _ => False) w w') := fun {w' k} hk hd hf => by
    have := unhexL_bad k s.data.toList _ (bs_get hk) (by rw [toNat_of _ (byt_lt _ _)]; exact hd)
    unfold unhexS
    rw [this]
    exact ⟨rfl, hf⟩
  refine ⟨fun l n w' => ∃ k r, n = ((2 * k : Nat) : Int) ∧ 2 * k ≤ s.size ∧ unhexL (s.data.toList.take (2 * k)) = some r ∧ Vc.Own w' w.heap.size T_uint8 l (byteV r) ∧ Fr (fun _ => False) w w', fun _ n _ => s.size - n.toNat, ⟨0, [], rfl, Nat.zero_le _, rfl, .nil _ _ _, .refl _ _⟩, ?_⟩
  rintro l3 n w5 ⟨k, r, rfl, hk, hr, ho, hf⟩
  have e1 : IntKind.i64.wrap (((2 * k : Nat) : Int) + 1) = ((2 * k + 1 : Nat) : Int) := by rw [wrap_i64 (by omega) (by omega)]; omega
  have e2 : IntKind.i64.wrap (((2 * k : Nat) : Int) + 2) = ((2 * (k + 1) : Nat) : Int) := by rw [wrap_i64 (by omega) (by omega)]; omega
  rw [e1, e2]
  have hrl : r.length = k := by
    have := unhexL_len _ _ hr
    rw [List.length_take, bs_len] at this; omega
  refine ⟨fun hlt w6 d6 => ?_, fun hge => ?_⟩
  · have hlt := of_decide_eq_true hlt
    rw [byteAt_nat, byteAt_nat]
    have hf6 : Fr (fun _ => False) w w6 := hf.trans' (.drew _ d6)
    refine ⟨fun _ => True, trivial, ⟨by omega, by omega⟩, ⟨by omega, by omega⟩, (digit_spec _ (byt_lt _ _) w6).mono ?_⟩
    rintro e w9 ⟨rfl, hw⟩
    replace hw := hw.symm
    subst hw
    refine ⟨_, rfl, trivial, (digit_spec _ (byt_lt _ _) w6).mono ?_⟩
    rintro e w12 ⟨rfl, hw⟩
    replace hw := hw.symm
    subst hw
    refine ⟨_, rfl, trivial, fun h => ?_, fun h => ⟨fun h2 => ?_, fun h2 => ⟨by decide, fun w14 h14 => ?_⟩⟩⟩
    · have h := of_decide_eq_true h
      cases hd : dg (byt s (2 * k)) with
      | none => exact hbad (k := 2 * k) (by omega) hd hf6
      | some x => rw [hd] at h; simp only at h; omega
    · have h2 := of_decide_eq_true h2
      cases hd : dg (byt s (2 * k + 1)) with
      | none => exact hbad (k := 2 * k + 1) (by omega) hd hf6
      | some x => rw [hd] at h2; simp only at h2; omega
    · have h := of_decide_eq_false h
      have h2 := of_decide_eq_false h2
      cases hd : dg (byt s (2 * k)) with
      | none => rw [hd] at h; simp at h
      | some x =>
        cases hd2 : dg (byt s (2 * k + 1)) with
        | none => rw [hd2] at h2; simp at h2
        | some y =>
          have hx1 := dg_lt hd
          have hy1 := dg_lt hd2
          have hor : 2 ^ 4 * x ||| y = 2 ^ 4 * x + y := (Nat.two_pow_add_eq_or_of_lt hy1 _).symm
          have ev : IntKind.u8.wrap (IntKind.i64.wrap (((BitVec.ofInt 64 (IntKind.i64.wrap ((x : Int) * 2 ^ min (Int.toNat 4) 64)) ||| BitVec.ofInt 64 (y : Int)).toNat : Nat) : Int)) = ((16 * x + y : Nat) : Int) := by
            rw [show (x : Int) * 2 ^ min (Int.toNat 4) 64 = ((2 ^ 4 * x : Nat) : Int) by rw [show (2 : Int) ^ min (Int.toNat 4) 64 = ((2 ^ 4 : Nat) : Int) from rfl, ← Int.natCast_mul, Nat.mul_comm], wrap_i64 (x := ((2 ^ 4 * x : Nat) : Int)) (by omega) (by omega), or_nat 64 _ _ (by omega) (by omega), hor, wrap_i64 (by omega) (by omega), wrap_u8 (by omega) (by omega)]
          rw [hd, hd2] at h14
          simp only at h14
          rw [ev] at h14
          obtain ⟨w15, l16, hr15, ho15, hf15, _⟩ := append_one' elByteH (ho.drew d6) (v := .int .u8 ((16 * x + y : Nat) : Int)) rfl (by rw [bv_len, hrl]; unfold maxLen; omega) (by rw [bv_len, hrl]; omega) hf6.size h14
          have ht := unhexL_take k s.data.toList r hr (by rw [bs_len]; omega) _ _ (bs_get (by omega)) (bs_get (by omega))
          rw [toNat_of _ (byt_lt _ _), toNat_of _ (byt_lt _ _), hd, hd2] at ht
          refine ⟨w15, l16, hr15, ⟨k + 1, _, rfl, by omega, ht, ?_, ?_⟩, by dsimp only; omega⟩
          · rw [← bv_snoc _ _ (by omega)]; exact ho15
          · exact hf6.trans hf15 fun q hq ⟨y, hy, e⟩ => by
              have := (ho.blk hy).1; omega
  · have hge := of_decide_eq_false hge
    have hm : Int.tmod (s.size : Int) 2 = ((s.size % 2 : Nat) : Int) := by rw [show (2 : Int) = ((2 : Nat) : Int) from rfl, Int.ofNat_tmod]
    rw [hm]
    refine ⟨by decide, fun h => ?_, fun h => ?_⟩
    · have h : ((s.size % 2 : Nat) : Int) ≠ 0 := by simpa using h
      have := unhexL_iff s.data.toList
      rw [bs_len, show (s.size % 2 == 0) = false by rw [beq_eq_false_iff_ne]; omega, Bool.and_false] at this
      have hn : unhexL s.data.toList = none := by simpa using this
      unfold unhexS
      rw [hn]
      exact ⟨rfl, hf⟩
    · have h : ((s.size % 2 : Nat) : Int) = 0 := by simpa using h
      have hks : 2 * k = s.size := by omega
      rw [hks, bs_all] at hr
      refine ⟨_, _, bytes_str (e := T_uint8) (by kernel_rfl) (by kernel_rfl) (by kernel_rfl) l3.cap ho.reads (by rw [ho.len, bv_len]), ?_, hf⟩
      unfold unhexS
      rw [hr]; rfl
/-- 'Id'. -/
theorem id_spec (s : ByteArray) (hs : s.size ≤ 140737488355328) (w : World) : Calls Tryz.prog F_sums_Id #[.string s] w fun e w' => e = .returned (.bool (isId s.data.toList)) ∧ Fr (fun _ => False) w w' := by
  refine vc_sums_Id_ok (R := fun v w' => v = .bool (isId s.data.toList) ∧ Fr (fun _ => False) w w') ?_ (fun v w' h => ⟨by rw [h.1], h.2⟩)
  refine (unhex_spec s hs w).mono ?_
  rintro e w2 ⟨rfl, hf⟩
  refine ⟨_, _, rfl, fun h => ⟨?_, hf⟩, fun h => ⟨?_, hf⟩⟩
  · unfold isId
    rw [h, Bool.true_and, bs_len]
    congr 1
    rw [Bool.eq_iff_iff, beq_iff_eq, beq_iff_eq]; omega
  · unfold isId; rw [h]; rfl
end Go.Proofs.YtllegkmadljmaaaGreatDoor

/- Go's text functions of this seat: Cut at one byte. Condition: the text is no longer than memory. -/
set_option linter.unusedVariables false
namespace Go.Proofs.YtllegkmadljmaaaGreatDoor
open Go Vc Go.Proofs

theorem cutL_spec (s : ByteArray) (hs : s.size ≤ 140737488355328) (c : Nat) (hc : c < 256) (w : World) : Calls Tryz.prog F_stringslite_Cut #[.string s, .string ⟨#[UInt8.ofNat c]⟩] w fun e w' =>
    e = .returned (.tuple #[.string (cutS s (UInt8.ofNat c)).1, .string (cutS s (UInt8.ofNat c)).2.1, .bool (cutS s (UInt8.ofNat c)).2.2]) ∧ Drew w w' := by
  refine vc_stringslite_Cut_ok (R := fun v w' => v = .tuple #[.string (cutS s (UInt8.ofNat c)).1, .string (cutS s (UInt8.ofNat c)).2.1, .bool (cutS s (UInt8.ofNat c)).2.2] ∧ Drew w w') ?_ (fun v w' h => ⟨by rw [h.1], h.2⟩)
  refine (index1_spec s c hc w).mono ?_
  rintro e w2 ⟨rfl, rfl⟩
  have h1 : (ByteArray.mk #[UInt8.ofNat c]).size = 1 := rfl
  unfold cutS
  rcases fnd_cases s (UInt8.ofNat c) with ⟨h, _⟩ | ⟨i, h, hi, _⟩
  · rw [h, if_pos rfl]
    exact ⟨_, rfl, fun h => absurd h (by decide), fun _ => ⟨rfl, .refl _⟩⟩
  · rw [h, if_neg (by omega)]
    refine ⟨_, rfl, ?_⟩
    rw [h1]
    have e1 : IntKind.i64.wrap ((i : Int) + ((1 : Nat) : Int)) = ((i + 1 : Nat) : Int) := by rw [wrap_i64 (by omega) (by omega)]; omega
    rw [e1]
    exact ⟨fun _ => ⟨⟨by omega, by omega⟩, ⟨by omega, by omega⟩, fun w4 hd => ⟨by simp only [Int.toNat_natCast], hd⟩⟩, fun h => absurd (of_decide_eq_false h) (by omega)⟩
theorem cut_spec (s : ByteArray) (hs : s.size ≤ 140737488355328) (c : Nat) (hc : c < 256) (w : World) : Calls Tryz.prog F_strings_Cut #[.string s, .string ⟨#[UInt8.ofNat c]⟩] w fun e w' =>
    e = .returned (.tuple #[.string (cutS s (UInt8.ofNat c)).1, .string (cutS s (UInt8.ofNat c)).2.1, .bool (cutS s (UInt8.ofNat c)).2.2]) ∧ Drew w w' := by
  refine vc_strings_Cut_ok (R := fun v w' => v = .tuple #[.string (cutS s (UInt8.ofNat c)).1, .string (cutS s (UInt8.ofNat c)).2.1, .bool (cutS s (UInt8.ofNat c)).2.2] ∧ Drew w w') ?_ (fun v w' h => ⟨by rw [h.1], h.2⟩)
  refine (cutL_spec s hs c hc w).mono ?_
  rintro e w2 ⟨rfl, hd⟩
  exact ⟨_, _, _, rfl, rfl, hd⟩
end Go.Proofs.YtllegkmadljmaaaGreatDoor

/- References: Open, file, Lookup. Conditions: as named. -/
set_option linter.unusedVariables false
namespace Go.Proofs.YtllegkmadljmaaaGreatDoor
open Go Vc HexM Go.Proofs

abbrev RowE := ByteArray × ByteArray × ByteArray
def encR (r : RowE) : ByteArray × Value := (r.1, .agg #[.string r.2.1, .string r.2.2])
def rlook : List RowE → ByteArray → Option (ByteArray × ByteArray)
  | [], _ => none
  | r :: rs, k => if r.1 = k then some r.2 else rlook rs k
def rupd : List RowE → ByteArray → ByteArray × ByteArray → List RowE
  | [], k, v => [(k, v)]
  | r :: rs, k, v => if r.1 = k then (k, v) :: rs else r :: rupd rs k v
theorem mlook_rows (k : ByteArray) : ∀ rows : List RowE, mlook (rows.map encR) k = (rlook rows k).map fun v => .agg #[.string v.1, .string v.2]
  | [] => rfl
  | (a, v) :: rs => by
    rw [List.map_cons, encR, mlook, rlook]
    by_cases h : a = k
    · rw [if_pos h, if_pos h]; rfl
    · rw [if_neg h, if_neg h, mlook_rows k rs]
theorem mupd_rows (k : ByteArray) (v : ByteArray × ByteArray) : ∀ rows : List RowE, mupd (rows.map encR) k (.agg #[.string v.1, .string v.2]) = (rupd rows k v).map encR
  | [] => rfl
  | (a, u) :: rs => by
    rw [List.map_cons, encR, mupd, rupd]
    by_cases h : a = k
    · rw [if_pos h, if_pos h]; rfl
    · rw [if_neg h, if_neg h, mupd_rows k v rs]; rfl
theorem rupd_len (k : ByteArray) (v : ByteArray × ByteArray) : ∀ rows : List RowE, (rupd rows k v).length = if (rlook rows k).isSome = true then rows.length else rows.length + 1
  | [] => rfl
  | (a, u) :: rs => by
    have ih := rupd_len k v rs
    rw [rupd, rlook]
    by_cases h : a = k
    · rw [if_pos h, if_pos h]; rfl
    · rw [if_neg h, if_neg h, List.length_cons, ih]
      split <;> rfl
theorem map_len {P : Program} {w : World} {mt kt et : TypeId} {r : Nat} {l : List (ByteArray × Value)} (hm : P.underlying mt = some (.map kt et)) (h : MapOf w r l) (ty : TypeId) :
    (Builtin.len_ #[mt] ty #[.map (some r)]).run P w = .ok (.int .i64 (l.length : Int)) w := by
  obtain ⟨es, clock, hb, hs, hl⟩ := h
  have hlen : es.size = l.length := by
    have := congrArg List.length hl
    simpa using this
  simp [Builtin.len_, run_underlying hm, MapKept.run_getObj_map hb, goInt, Result.andThen, hlen]
theorem row_zero (w : World) : (zeroValue T_refs_row).run Tryz.prog w = .ok (.agg #[.string ⟨#[]⟩, .string ⟨#[]⟩]) w := by kernel_rfl
theorem setRow_frR (X : Nat → Prop) (w : World) (g : Nat) (cs : Array Value) (h : X g) : Fr X w (w.setRow g cs) :=
  ⟨rfl, rfl, rfl, by simp [World.setRow], fun k _ hx => by
    simp only [World.setRow, Array.getElem?_modify]
    rw [if_neg (fun e => hx (by rw [← e]; exact h))]⟩
/-- What an index of references says. -/
def openF : Nat → ByteArray → List RowE → ByteArray → Except Int (List RowE)
  | 0, _, rows, _ => .ok rows
  | f + 1, s, rows, last => if s = ⟨#[]⟩ then .ok rows
    else if (cutS s 10).2.2 = false then .error 3
    else if begB (cutS s 10).1 ⟨#[35]⟩ = true then openF f (cutS s 10).2.1 rows last
    else if begB (cutS s 10).1 ⟨#[94]⟩ = true then
      (match rlook rows last with
       | none => .error 3
       | some x => if x.2 ≠ ⟨#[]⟩ then .error 3 else if isId (cutPre (cutS s 10).1 ⟨#[94]⟩).data.toList = false then .error 3 else openF f (cutS s 10).2.1 (rupd rows last (x.1, cutPre (cutS s 10).1 ⟨#[94]⟩)) last)
    else if (cutS (cutS s 10).1 32).2.2 = false then .error 3
    else if isId (cutS (cutS s 10).1 32).1.data.toList = false then .error 3
    else if nameB (cutS (cutS s 10).1 32).2.1 = false then .error 3
    else if (cutS (cutS s 10).1 32).2.1 = sHEAD then .error 3
    else if (rlook rows (cutS (cutS s 10).1 32).2.1).isSome = true then .error 4
    else if 2000 < rows.length + 1 then .error 2
    else openF f (cutS s 10).2.1 (rupd rows (cutS (cutS s 10).1 32).2.1 ((cutS (cutS s 10).1 32).1, ⟨#[]⟩)) (cutS (cutS s 10).1 32).2.1
def sPacked : ByteArray := ⟨#[112, 97, 99, 107, 101, 100, 45, 114, 101, 102, 115]⟩
def openE (ys : List FileE) : Except Int (List RowE) := if (getE ys sPacked).2 ≠ 0 then .ok [] else openF ((getE ys sPacked).1.size + 1) (getE ys sPacked).1 [] ⟨#[]⟩
/-- All references of a folder. -/
structure IsRefs (w : World) (rb b mb : Nat) (rows : List RowE) : Prop where
  blk : w.heap[rb]? = some (.cells #[.pointer (some ⟨b, 0, none⟩), .map (some mb)] T_refs_Refs (0, 0))
  rows : MapOf w mb (rows.map encR)
theorem IsRefs.keep {w w1 : World} {rb b mb : Nat} {rows : List RowE} (h : IsRefs w rb b mb rows) (hf : Fr (fun _ => False) w w1) : IsRefs w1 rb b mb rows := ⟨hf.keep h.blk (by simp), h.rows.keep hf (by simp)⟩
theorem cut_le (s : ByteArray) (c : UInt8) : (cutS s c).1.size ≤ s.size ∧ (cutS s c).2.1.size ≤ s.size ∧ ((cutS s c).2.2 = true → (cutS s c).2.1.size < s.size) := by
  have h := cut_sz s c
  refine ⟨by omega, by omega, fun he => by have := h.2 he; omega⟩
theorem cutPre_le (s t : ByteArray) : (cutPre s t).size ≤ s.size := by
  unfold cutPre
  split
  · rw [ByteArray.size_extract]; omega
  · exact Nat.le_refl _
theorem open_spec {w : World} {b : Nat} {l : Sl} {ys : List FileE} {size : Int} (hml : MaxL w) (h : IsSnap w b l ys size) (hs : Rising ys) (hd : ∀ x ∈ ys, x.data.size ≤ 140737488355328) : Calls Tryz.prog F_refs_Open #[.pointer (some ⟨b, 0, none⟩)] w fun e w' =>
    Fr (fun _ => False) w w' ∧ match openE ys with
      | .error n => e = .returned (.tuple #[.pointer none, .int .i64 n])
      | .ok rows => ∃ rb mb, e = .returned (.tuple #[.pointer (some ⟨rb, 0, none⟩), .int .i64 0]) ∧ w.heap.size ≤ rb ∧ w.heap.size ≤ mb ∧ IsRefs w' rb b mb rows := by
  refine vc_refs_Open_ok (R := fun v w' => Fr (fun _ => False) w w' ∧ match openE ys with
      | .error n => v = .tuple #[.pointer none, .int .i64 n]
      | .ok rows => ∃ rb mb, v = .tuple #[.pointer (some ⟨rb, 0, none⟩), .int .i64 0] ∧ w.heap.size ≤ rb ∧ w.heap.size ≤ mb ∧ IsRefs w' rb b mb rows) ?_ (fun v w' ⟨h1, h2⟩ => ⟨h1, by
        revert h2
        cases openE ys with
        | error n => exact fun h => by rw [h]
        | ok rows => exact fun ⟨rb, mb, h, r⟩ => ⟨rb, mb, by rw [h], r⟩⟩)
  intro w1 h1 w2 h2
  have hf1 : Fr (fun _ => False) w w1 := by rw [h1]; exact .alloc _ _ _
  have hs1 : w1.heap.size = w.heap.size + 1 := by rw [h1]; simp
  have hf2 : Fr (fun _ => False) w1 w2 := by rw [h2]; exact .alloc _ _ _
  have hm2 : MapOf w2 w.heap.size [] := MapOf.keep (by rw [h1]; exact MapOf.new) hf2 (by simp)
  have hr2 : w2.heap[w1.heap.size]? = some (.cells #[.pointer (some ⟨b, 0, none⟩), .map (some w.heap.size)] T_refs_Refs (0, 0)) := by rw [h2]; exact alloc_new _ _
  have hF2 := hf1.trans' hf2
  rw [hs1] at hr2 ⊢
  obtain ⟨n, hn⟩ : ∃ n, w.heap.size = n := ⟨_, rfl⟩
  rw [hn] at hr2 hm2 ⊢
  refine (get_spec (h.keep hF2) hs sPacked).mono ?_
  rintro e w4 ⟨rfl, hf4⟩
  have hF4 := hF2.trans' hf4
  have hdl : (getE ys sPacked).1.size ≤ 140737488355328 := by
    unfold getE
    cases hfnd : ys.find? (fun x => decide (x.path = sPacked)) with
    | none => exact Nat.zero_le _
    | some x => exact hd x (List.mem_of_find?_eq_some hfnd)
  have hopen : openE ys = if (getE ys sPacked).2 ≠ 0 then .ok [] else openF ((getE ys sPacked).1.size + 1) (getE ys sPacked).1 [] ⟨#[]⟩ := rfl
  generalize (getE ys sPacked).1 = text at hdl hopen ⊢
  generalize (getE ys sPacked).2 = er at hopen ⊢
  have res : ∀ {w' : World} {rows : List RowE}, Fr (fun _ => False) w w' → openE ys = .ok rows → w'.heap[n + 1]? = some (.cells #[.pointer (some ⟨b, 0, none⟩), .map (some n)] T_refs_Refs (0, 0)) → MapOf w' n (rows.map encR) →
      Fr (fun _ => False) w w' ∧ match openE ys with
      | .error m => Value.tuple #[.pointer (some ⟨n + 1, 0, none⟩), .int .i64 0] = .tuple #[.pointer none, .int .i64 m]
      | .ok rows => ∃ rb mb, Value.tuple #[.pointer (some ⟨n + 1, 0, none⟩), .int .i64 0] = .tuple #[.pointer (some ⟨rb, 0, none⟩), .int .i64 0] ∧ n ≤ rb ∧ n ≤ mb ∧ IsRefs w' rb b mb rows := fun hf ho hr hm => ⟨hf, by
        rw [ho]
        exact ⟨n + 1, n, rfl, by omega, Nat.le_refl _, hr, hm⟩⟩
  have bad : ∀ {w' : World} {k : Int}, Fr (fun _ => False) w w' → openE ys = .error k →
      Fr (fun _ => False) w w' ∧ match openE ys with
      | .error m => Value.tuple #[.pointer none, .int .i64 k] = .tuple #[.pointer none, .int .i64 m]
      | .ok rows => ∃ rb mb, Value.tuple #[.pointer none, .int .i64 k] = .tuple #[.pointer (some ⟨rb, 0, none⟩), .int .i64 0] ∧ n ≤ rb ∧ n ≤ mb ∧ IsRefs w' rb b mb rows := fun hf ho => ⟨hf, by rw [ho]⟩
  refine ⟨_, _, rfl, fun hne => res (rows := []) hF4 (by rw [hopen, if_pos (by simpa using hne)]) (hf4.keep hr2 (by simp)) (hm2.keep hf4 (by simp)), fun heq => ?_⟩
  have heq : er = 0 := by simpa using heq
  rw [if_neg (fun h => h heq)] at hopen
  refine ⟨fun s last w' => ∃ f rows, openE ys = openF (f + 1) s rows last ∧ s.size ≤ f ∧ s.size ≤ 140737488355328 ∧ Fr (fun _ => False) w w' ∧ w'.heap[n + 1]? = some (.cells #[.pointer (some ⟨b, 0, none⟩), .map (some n)] T_refs_Refs (0, 0)) ∧ MapOf w' n (rows.map encR), fun s _ _ => s.size,
    ⟨text.size, [], hopen, Nat.le_refl _, hdl, hF4, hf4.keep hr2 (by simp), hm2.keep hf4 (by simp)⟩, ?_⟩
  rintro s last w11 ⟨f, rows, ho, hsf, hsz, hF11, hr11, hm11⟩
  rw [openF] at ho
  refine ⟨fun hne => ?_, fun heq => ?_⟩
  rotate_left
  · rw [bs_eq] at heq
    have heq : s = ⟨#[]⟩ := by simpa using heq
    rw [if_pos heq] at ho
    exact res hF11 ho hr11 hm11
  rw [bs_eq] at hne
  have hne : s ≠ ⟨#[]⟩ := by simpa using hne
  have hpos : 0 < s.size := by
    rcases Nat.eq_zero_or_pos s.size with h0 | h0
    · exact absurd (bs_empty.2 h0) hne
    · exact h0
  rw [if_neg hne] at ho
  obtain ⟨f, rfl⟩ : ∃ g, f = g + 1 := ⟨f - 1, by omega⟩
  refine (cut_spec s hsz 10 (by decide) w11).mono ?_
  rintro e w13 ⟨rfl, d13⟩
  have hcl := cut_le s 10
  rw [show UInt8.ofNat 10 = 10 from rfl]
  generalize hc1 : (cutS s 10).1 = line at ho hcl ⊢
  generalize hc2 : (cutS s 10).2.1 = rest at ho hcl ⊢
  generalize hc3 : (cutS s 10).2.2 = ok at ho hcl ⊢
  have hF13 := hF11.trans' (.drew _ d13)
  have hr13 := (Fr.drew (fun _ => False) d13).keep hr11 (by simp)
  have hm13 := hm11.keep (Fr.drew (fun _ => False) d13) (by simp)
  refine ⟨_, _, _, rfl, fun hok => bad hF13 (by rw [ho, if_pos (by simpa using hok)]), fun hok => ?_⟩
  have hok : ok = true := by simpa using hok
  rw [if_neg (by rw [hok]; decide)] at ho
  have hlt := hcl.2.2 hok
  refine (hasPrefix_spec line _ w13).mono ?_
  rintro e w18 ⟨rfl, hw⟩
  replace hw := hw.symm
  subst hw
  refine ⟨_, rfl, fun hb => ⟨⟨f, rows, by rw [ho, if_pos hb], by omega, by omega, hF13, hr13, hm13⟩, hlt⟩, fun hb => ?_⟩
  rw [if_neg (fun e => by rw [e] at hb; cases hb)] at ho
  refine (cutPrefix_spec line _ w13).mono ?_
  rintro e w21 ⟨rfl, hw⟩
  replace hw := hw.symm
  subst hw
  have hpl := cutPre_le line ⟨#[94]⟩
  have hcm : w13.cell? ⟨n + 1, 1, none⟩ = some (.map (some n)) := by rw [cell_blk hr13]; rfl
  refine ⟨_, _, rfl, fun hb => ?_, fun hb => ?_⟩
  · rw [if_pos hb] at ho
    have hlk := map_lookup (P := Tryz.prog) (mt := T_map_string_refs_row) (kt := T_string) (et := T_refs_row) (by kernel_rfl) (by kernel_rfl) (row_zero w13) hm13 last true
    rw [mlook_rows] at hlk
    cases hx : rlook rows last with
    | none =>
      rw [hx] at hlk ho
      refine ⟨_, hcm, w13, _, _, _, hlk, fun w29 h29 => ?_⟩
      have hf29 : Fr (fun _ => False) w13 w29 := by rw [h29]; exact .alloc _ _ _
      have hb29 : w29.heap[w13.heap.size]? = some (.cells #[.string ⟨#[]⟩, .string ⟨#[]⟩] T_refs_row (0, 0)) := by rw [h29]; exact alloc_new _ _
      have hst := run_storeVar_row (P := Tryz.prog) w29 w13.heap.size T_refs_row T_refs_row _ #[.string ⟨#[]⟩, .string ⟨#[]⟩] hb29 (by kernel_rfl) rfl (by simp [Value.oneCell'])
      exact ⟨_, hst, fun _ => bad ((hF13.trans' hf29).trans (setRow_frR (· = w13.heap.size) w29 w13.heap.size _ rfl) fun q hq e => by have := hF13.size; omega) ho, fun h => by cases h⟩
    | some x =>
      rw [hx] at hlk ho
      simp only at ho
      refine ⟨_, hcm, w13, x.1, x.2, _, hlk, fun w29 h29 => ?_⟩
      have hf29 : Fr (fun _ => False) w13 w29 := by rw [h29]; exact .alloc _ _ _
      have hb29 : w29.heap[w13.heap.size]? = some (.cells #[.string ⟨#[]⟩, .string ⟨#[]⟩] T_refs_row (0, 0)) := by rw [h29]; exact alloc_new _ _
      have hst := run_storeVar_row (P := Tryz.prog) w29 w13.heap.size T_refs_row T_refs_row _ #[.string x.1, .string x.2] hb29 (by kernel_rfl) rfl (by simp [Value.oneCell'])
      have hf30 := setRow_frR (· = w13.heap.size) w29 w13.heap.size #[.string x.1, .string x.2] rfl
      have hb30 := setRow_heap w29 w13.heap.size _ #[.string x.1, .string x.2] T_refs_row (0, 0) hb29
      generalize w29.setRow w13.heap.size #[.string x.1, .string x.2] = w30 at hst hf30 hb30
      have hF30 : Fr (fun _ => False) w w30 := (hF13.trans' hf29).trans hf30 fun q hq e => by have := hF13.size; omega
      have hF30' : Fr (fun _ => False) w13 w30 := hf29.trans hf30 fun q hq e => by omega
      refine ⟨w30, hst, fun h => (by cases h), fun _ => ⟨x.2, by rw [cell_blk hb30]; rfl, ?_⟩⟩
      rw [bs_eq]
      refine ⟨fun hp => bad hF30 ?_, fun hp => (id_spec (cutPre line ⟨#[94]⟩) (Nat.le_trans (cutPre_le line ⟨#[94]⟩) (by omega)) w30).mono ?_⟩
      · rw [ho, if_pos (by simpa using hp)]
      rintro e w33 ⟨rfl, hf33⟩
      rw [if_neg (by simpa using hp)] at ho
      refine ⟨_, rfl, fun hi => bad (hF30.trans' hf33) ?_, fun hi w35 d35 => ?_⟩
      · rw [ho, if_pos (by simpa using hi)]
      rw [if_neg (by simpa using hi)] at ho
      have hf35 := (hF30'.trans' hf33).trans' (.drew _ d35)
      have hF35 := hF13.trans' hf35
      obtain ⟨w38, hup, hm38, hf38⟩ := map_update (P := Tryz.prog) (mt := T_map_string_refs_row) (kt := T_string) (et := T_refs_row) (by kernel_rfl) (by kernel_rfl) (hm13.keep hf35 (by simp)) last (.agg #[.string x.1, .string (cutPre line ⟨#[94]⟩)])
      rw [mupd_rows last (x.1, cutPre line ⟨#[94]⟩)] at hm38
      refine ⟨_, hf35.cell hcm (by simp), x.1, (hf33.trans' (.drew _ d35)).cell (by rw [cell_blk hb30]; rfl) (by simp), w38, hup, ⟨f, _, ho, by omega, by omega, hF35.trans hf38 fun q hq e => by omega, hf38.keep (hf35.keep hr13 (by simp)) (by omega), hm38⟩, hlt⟩
  · rw [if_neg (fun e => by rw [e] at hb; cases hb)] at ho
    refine (cut_spec line (by omega) 32 (by decide) w13).mono ?_
    rintro e w40 ⟨rfl, d40⟩
    have hcl2 := cut_le line 32
    rw [show UInt8.ofNat 32 = 32 from rfl]
    generalize hd1 : (cutS line 32).1 = id at ho hcl2 ⊢
    generalize hd2 : (cutS line 32).2.1 = name at ho hcl2 ⊢
    generalize hd3 : (cutS line 32).2.2 = ok2 at ho hcl2 ⊢
    have hF40 := hF13.trans' (.drew _ d40)
    refine ⟨_, _, _, rfl, fun hk => bad hF40 (by rw [ho, if_pos (by simpa using hk)]), fun hk => (id_spec _ (by omega) w40).mono ?_⟩
    rw [if_neg (by simpa using hk)] at ho
    rintro e w45 ⟨rfl, hf45⟩
    have hF45 := hF40.trans' hf45
    refine ⟨_, rfl, fun hk => bad hF45 (by rw [ho, if_pos (by simpa using hk)]), fun hk => (name_spec name (by omega) (hml.keep hF45)).mono ?_⟩
    rw [if_neg (by simpa using hk)] at ho
    rintro e w48 ⟨rfl, hf48⟩
    have hF48 := hF45.trans' hf48
    refine ⟨_, rfl, fun hk => bad hF48 (by rw [ho, if_pos (by simpa using hk)]), fun hk => ?_⟩
    rw [if_neg (by simpa using hk)] at ho
    rw [bs_eq]
    refine ⟨fun hk => bad hF48 (by rw [ho, if_pos (show name = sHEAD from of_decide_eq_true hk)]), fun hk => ?_⟩
    rw [if_neg (show ¬ name = sHEAD from of_decide_eq_false hk)] at ho
    have hf48' : Fr (fun _ => False) w13 w48 := ((Fr.drew _ d40).trans' hf45).trans' hf48
    have hm48 := hm13.keep hf48' (by simp)
    have hcm48 := hf48'.cell hcm (by simp)
    have hlk := map_lookup (P := Tryz.prog) (mt := T_map_string_refs_row) (kt := T_string) (et := T_refs_row) (by kernel_rfl) (by kernel_rfl) (row_zero w48) hm48 name true
    rw [mlook_rows] at hlk
    have key : ∀ (x1 x2 : ByteArray) (w55 : World), w55 = w48.alloc (.cells #[.string ⟨#[]⟩, .string ⟨#[]⟩] T_refs_row) → ∃ w56, (storeVar T_refs_row ⟨w48.heap.size, 0, none⟩ (.agg #[.string x1, .string x2])).run Tryz.prog w55 = .ok PUnit.unit w56 ∧ Fr (fun _ => False) w48 w56 := fun x1 x2 w55 h55 => by
      have hf55 : Fr (fun _ => False) w48 w55 := by rw [h55]; exact .alloc _ _ _
      have hb55 : w55.heap[w48.heap.size]? = some (.cells #[.string ⟨#[]⟩, .string ⟨#[]⟩] T_refs_row (0, 0)) := by rw [h55]; exact alloc_new _ _
      exact ⟨_, run_storeVar_row (P := Tryz.prog) w55 w48.heap.size T_refs_row T_refs_row _ #[.string x1, .string x2] hb55 (by kernel_rfl) rfl (by simp [Value.oneCell']), hf55.trans (setRow_frR (· = w48.heap.size) w55 w48.heap.size _ rfl) fun q hq e => by omega⟩
    cases hx : rlook rows name with
    | some x =>
      rw [hx] at hlk ho
      refine ⟨_, hcm48, w48, x.1, x.2, _, hlk, fun w55 h55 => ?_⟩
      obtain ⟨w56, k1, k2⟩ := key x.1 x.2 w55 h55
      exact ⟨w56, k1, fun _ => bad (hF48.trans' k2) (by rw [ho, if_pos (show (some x).isSome = true from rfl)]), fun h => by cases h⟩
    | none =>
      rw [hx] at hlk ho
      rw [if_neg (by decide)] at ho
      refine ⟨_, hcm48, w48, _, _, _, hlk, fun w55 h55 => ?_⟩
      obtain ⟨w56, k1, k2⟩ := key ⟨#[]⟩ ⟨#[]⟩ w55 h55
      have hf56 := hf48'.trans' k2
      have hF56 := hF48.trans' k2
      obtain ⟨w58, hup, hm58, hf58⟩ := map_update (P := Tryz.prog) (mt := T_map_string_refs_row) (kt := T_string) (et := T_refs_row) (by kernel_rfl) (by kernel_rfl) (hm13.keep hf56 (by simp)) name (.agg #[.string id, .string ⟨#[]⟩])
      rw [mupd_rows name (id, ⟨#[]⟩)] at hm58
      have hF58 : Fr (fun _ => False) w w58 := hF56.trans hf58 fun q hq e => by omega
      have hr58 := hf58.keep (hf56.keep hr13 (by simp)) (by omega)
      have hln := map_len (P := Tryz.prog) (mt := T_map_string_refs_row) (kt := T_string) (et := T_refs_row) (by kernel_rfl) hm58 T_int
      have hrl : ((rupd rows name (id, ⟨#[]⟩)).map encR).length = rows.length + 1 := by rw [List.length_map, rupd_len, hx]; rfl
      rw [hrl] at hln
      refine ⟨w56, k1, fun h => (by cases h), fun _ => ⟨_, hf56.cell hcm (by simp), w58, hup, _, by rw [cell_blk hr58]; rfl, w58, _, hln, fun hb => bad hF58 ?_, fun hb => ⟨⟨f, _, ?_, by omega, by omega, hF58, hr58, hm58⟩, hlt⟩⟩⟩
      · rw [ho, if_pos (by have := of_decide_eq_true hb; omega)]
      · rw [ho, if_neg (by have := of_decide_eq_false hb; omega)]
end Go.Proofs.YtllegkmadljmaaaGreatDoor
namespace Go.Proofs.YtllegkmadljmaaaGreatDoor
open Go Vc HexM Go.Proofs

def sRefSp : ByteArray := ⟨#[114, 101, 102, 58, 32]⟩
/-- What a reference's file says: a name, another reference, an error. -/
def fileE (ys : List FileE) (name : ByteArray) : ByteArray × ByteArray × Int :=
  if (getE ys name).2 ≠ 0 then (⟨#[]⟩, ⟨#[]⟩, (getE ys name).2)
  else if isId (cutSuf (getE ys name).1 ⟨#[10]⟩).data.toList = true ∧ sufL [10] (getE ys name).1.data.toList = true then (cutSuf (getE ys name).1 ⟨#[10]⟩, ⟨#[]⟩, 0)
  else if sufL [10] (getE ys name).1.data.toList = false then (⟨#[]⟩, ⟨#[]⟩, 3)
  else if begB (cutSuf (getE ys name).1 ⟨#[10]⟩) sRefSp = false then (⟨#[]⟩, ⟨#[]⟩, 3)
  else if nameB (cutPre (cutSuf (getE ys name).1 ⟨#[10]⟩) sRefSp) = false then (⟨#[]⟩, ⟨#[]⟩, 3)
  else (⟨#[]⟩, cutPre (cutSuf (getE ys name).1 ⟨#[10]⟩) sRefSp, 0)
theorem cutSuf_le (s t : ByteArray) : (cutSuf s t).size ≤ s.size := by
  unfold cutSuf
  split
  · rw [ByteArray.size_extract]; omega
  · exact Nat.le_refl _
theorem get_le {ys : List FileE} (hd : ∀ x ∈ ys, x.data.size ≤ 140737488355328) (name : ByteArray) : (getE ys name).1.size ≤ 140737488355328 := by
  unfold getE
  cases hfnd : ys.find? (fun x => decide (x.path = name)) with
  | none => exact Nat.zero_le _
  | some x => exact hd x (List.mem_of_find?_eq_some hfnd)
section
variable {w : World} {rb b mb : Nat} {l : Sl} {ys : List FileE} {size : Int} {rows : List RowE}
theorem file_spec (hml : MaxL w) (hr : IsRefs w rb b mb rows) (h : IsSnap w b l ys size) (hs : Rising ys) (hd : ∀ x ∈ ys, x.data.size ≤ 140737488355328) (name : ByteArray) : Calls Tryz.prog F_refs_Refs_file #[.pointer (some ⟨rb, 0, none⟩), .string name] w fun e w' =>
    e = .returned (.tuple #[.string (fileE ys name).1, .string (fileE ys name).2.1, .int .i64 (fileE ys name).2.2]) ∧ Fr (fun _ => False) w w' := by
  refine vc_refs_Refs_file_ok (R := fun v w' => v = .tuple #[.string (fileE ys name).1, .string (fileE ys name).2.1, .int .i64 (fileE ys name).2.2] ∧ Fr (fun _ => False) w w') ?_ (fun v w' h => ⟨by rw [h.1], h.2⟩)
  refine ⟨_, by rw [cell_blk hr.blk]; rfl, (get_spec h hs name).mono ?_⟩
  rintro e w3 ⟨rfl, hf3⟩
  have hle := get_le hd name
  have hE : fileE ys name = (if (getE ys name).2 ≠ 0 then (⟨#[]⟩, ⟨#[]⟩, (getE ys name).2)
    else if isId (cutSuf (getE ys name).1 ⟨#[10]⟩).data.toList = true ∧ sufL [10] (getE ys name).1.data.toList = true then (cutSuf (getE ys name).1 ⟨#[10]⟩, ⟨#[]⟩, 0)
    else if sufL [10] (getE ys name).1.data.toList = false then (⟨#[]⟩, ⟨#[]⟩, 3)
    else if begB (cutSuf (getE ys name).1 ⟨#[10]⟩) sRefSp = false then (⟨#[]⟩, ⟨#[]⟩, 3)
    else if nameB (cutPre (cutSuf (getE ys name).1 ⟨#[10]⟩) sRefSp) = false then (⟨#[]⟩, ⟨#[]⟩, 3)
    else (⟨#[]⟩, cutPre (cutSuf (getE ys name).1 ⟨#[10]⟩) sRefSp, 0)) := rfl
  have fin : ∀ {w' : World} {a c : ByteArray} {n : Int}, Fr (fun _ => False) w w' → fileE ys name = (a, c, n) → Value.tuple #[.string a, .string c, .int .i64 n] = .tuple #[.string (fileE ys name).1, .string (fileE ys name).2.1, .int .i64 (fileE ys name).2.2] ∧ Fr (fun _ => False) w w' := fun hf he => ⟨by rw [he], hf⟩
  generalize (getE ys name).1 = text at hE hle ⊢
  generalize (getE ys name).2 = er at hE ⊢
  refine ⟨_, _, rfl, fun hne => fin hf3 (by rw [hE, if_pos (by simpa using hne)]), fun heq => ?_⟩
  rw [if_neg (by simpa using heq)] at hE
  refine (cutSuffix_spec text ⟨#[10]⟩ hle w3).mono ?_
  rintro e w7 ⟨rfl, hw⟩
  replace hw := hw.symm
  subst hw
  have hll := cutSuf_le text ⟨#[10]⟩
  rw [show (⟨#[10]⟩ : ByteArray).data.toList = [10] from rfl]
  generalize cutSuf text ⟨#[10]⟩ = line at hE hll ⊢
  generalize sufL [10] text.data.toList = ok at hE ⊢
  refine ⟨_, _, rfl, fun w' => Fr (fun _ => False) w3 w' ∧ ¬ (isId line.data.toList = true ∧ ok = true), (id_spec line (by omega) w3).mono ?_, ?_⟩
  · rintro e w12 ⟨rfl, hf12⟩
    refine ⟨_, rfl, fun hi => ⟨fun hk => fin (hf3.trans' hf12) (by rw [hE, if_pos ⟨hi, hk⟩]), fun hk => ⟨hf12, fun hh => ?_⟩⟩, fun hi => ⟨hf12, fun hh => ?_⟩⟩
    · rw [hh.2] at hk; cases hk
    · rw [hh.1] at hi; cases hi
  · rintro w14 ⟨hf14, hno⟩
    rw [if_neg hno] at hE
    have hF14 := hf3.trans' hf14
    refine (cutPrefix_spec line sRefSp w14).mono ?_
    rintro e w16 ⟨rfl, hw⟩
    replace hw := hw.symm
    subst hw
    have hpl := cutPre_le line sRefSp
    refine ⟨_, _, rfl, fun hk => fin hF14 (by rw [hE, if_pos (by simpa using hk)]), fun hk => ⟨fun hb => fin hF14 ?_, fun hb => ?_⟩⟩
    · rw [hE, if_neg (by simpa using hk), if_pos (by simpa using hb)]
    refine (name_spec _ (by omega) (hml.keep hF14)).mono ?_
    rintro e w20 ⟨rfl, hf20⟩
    refine ⟨_, rfl, fun hn => fin (hF14.trans' hf20) ?_, fun hn => fin (hF14.trans' hf20) ?_⟩
    · rw [hE, if_neg (by simpa using hk), if_neg (by simpa using hb), if_pos (by simpa using hn)]
    · rw [hE, if_neg (by simpa using hk), if_neg (by simpa using hb), if_neg (by simpa using hn)]
/-- What is looked up. -/
def lookF (ys : List FileE) (rows : List RowE) : Nat → ByteArray → ByteArray × Int
  | 0, name => if (fileE ys name).2.2 = 7 then (match rlook rows name with | some x => (x.1, 0) | none => (⟨#[]⟩, 7))
    else if (fileE ys name).2.2 ≠ 0 ∨ (fileE ys name).1 ≠ ⟨#[]⟩ then ((fileE ys name).1, (fileE ys name).2.2) else (⟨#[]⟩, 9)
  | f + 1, name => if (fileE ys name).2.2 = 7 then (match rlook rows name with | some x => (x.1, 0) | none => (⟨#[]⟩, 7))
    else if (fileE ys name).2.2 ≠ 0 ∨ (fileE ys name).1 ≠ ⟨#[]⟩ then ((fileE ys name).1, (fileE ys name).2.2) else lookF ys rows f (fileE ys name).2.1
theorem lookF_eq (ys : List FileE) (rows : List RowE) (f : Nat) (name : ByteArray) : lookF ys rows f name = if (fileE ys name).2.2 = 7 then (match rlook rows name with | some x => (x.1, 0) | none => (⟨#[]⟩, 7))
    else if (fileE ys name).2.2 ≠ 0 ∨ (fileE ys name).1 ≠ ⟨#[]⟩ then ((fileE ys name).1, (fileE ys name).2.2)
    else (match f with | 0 => (⟨#[]⟩, 9) | f + 1 => lookF ys rows f (fileE ys name).2.1) := by
  cases f <;> rfl
def lookE (ys : List FileE) (rows : List RowE) (name : ByteArray) : ByteArray × Int := if nameB name = false then (⟨#[]⟩, 4) else lookF ys rows 5 name
theorem lookup_spec (hml : MaxL w) (hr : IsRefs w rb b mb rows) (h : IsSnap w b l ys size) (hs : Rising ys) (hd : ∀ x ∈ ys, x.data.size ≤ 140737488355328) (name : ByteArray) (hn : name.size ≤ 140737488355328) : Calls Tryz.prog F_refs_Refs_Lookup #[.pointer (some ⟨rb, 0, none⟩), .string name] w fun e w' =>
    e = .returned (.tuple #[.string (lookE ys rows name).1, .int .i64 (lookE ys rows name).2]) ∧ Fr (fun _ => False) w w' := by
  refine vc_refs_Refs_Lookup_ok (R := fun v w' => v = .tuple #[.string (lookE ys rows name).1, .int .i64 (lookE ys rows name).2] ∧ Fr (fun _ => False) w w') ?_ (fun v w' h => ⟨by rw [h.1], h.2⟩)
  have fin : ∀ {w' : World} {a : ByteArray} {n : Int}, Fr (fun _ => False) w w' → lookE ys rows name = (a, n) → Value.tuple #[.string a, .int .i64 n] = .tuple #[.string (lookE ys rows name).1, .int .i64 (lookE ys rows name).2] ∧ Fr (fun _ => False) w w' := fun hf he => ⟨by rw [he], hf⟩
  refine (name_spec name hn hml).mono ?_
  rintro e w2 ⟨rfl, hf2⟩
  refine ⟨_, rfl, fun hk => fin hf2 (by unfold lookE; rw [if_pos (by simpa using hk)]), fun hk => ?_⟩
  have hE : lookE ys rows name = lookF ys rows 5 name := by unfold lookE; rw [if_neg (by simpa using hk)]
  refine ⟨fun s z w' => Fr (fun _ => False) w w' ∧ ∃ f : Nat, f ≤ 5 ∧ z = ((5 - f : Nat) : Int) ∧ lookE ys rows name = lookF ys rows f s, fun _ z _ => 5 - z.toNat, ⟨hf2, 5, Nat.le_refl _, rfl, hE⟩, ?_⟩
  clear hE
  rintro s z w8 ⟨hf8, f, hf5, rfl, hE⟩
  refine (file_spec (hml.keep hf8) (hr.keep hf8) (h.keep hf8) hs hd s).mono ?_
  rintro e w10 ⟨rfl, hf10⟩
  have hF10 := hf8.trans' hf10
  rw [lookF_eq] at hE
  generalize (fileE ys s).1 = id at hE ⊢
  generalize (fileE ys s).2.1 = other at hE ⊢
  generalize (fileE ys s).2.2 = er at hE ⊢
  refine ⟨_, _, _, rfl, fun h7 => ?_, fun h7 => ⟨fun hne => fin hF10 ?_, fun hne => ⟨fun hid => fin hF10 ?_, fun hid => ⟨fun h5 => fin hF10 ?_, fun h5 => ?_⟩⟩⟩⟩
  · have h7 : er = 7 := by simpa using h7
    subst h7
    rw [if_pos rfl] at hE
    have hm10 := hr.rows.keep hF10 (by simp)
    have hlk := map_lookup (P := Tryz.prog) (mt := T_map_string_refs_row) (kt := T_string) (et := T_refs_row) (by kernel_rfl) (by kernel_rfl) (row_zero w10) hm10 s true
    rw [mlook_rows] at hlk
    have key : ∀ (x1 x2 : ByteArray) (w19 : World), w19 = w10.alloc (.cells #[.string ⟨#[]⟩, .string ⟨#[]⟩] T_refs_row) → ∃ w20, (storeVar T_refs_row ⟨w10.heap.size, 0, none⟩ (.agg #[.string x1, .string x2])).run Tryz.prog w19 = .ok PUnit.unit w20 ∧ w20.cell? ⟨w10.heap.size, 0, none⟩ = some (.string x1) ∧ Fr (fun _ => False) w10 w20 := fun x1 x2 w19 h19 => by
      have hf19 : Fr (fun _ => False) w10 w19 := by rw [h19]; exact .alloc _ _ _
      have hb19 : w19.heap[w10.heap.size]? = some (.cells #[.string ⟨#[]⟩, .string ⟨#[]⟩] T_refs_row (0, 0)) := by rw [h19]; exact alloc_new _ _
      refine ⟨_, run_storeVar_row (P := Tryz.prog) w19 w10.heap.size T_refs_row T_refs_row _ #[.string x1, .string x2] hb19 (by kernel_rfl) rfl (by simp [Value.oneCell']), ?_, hf19.trans (setRow_frR (· = w10.heap.size) w19 w10.heap.size _ rfl) fun q hq e => by omega⟩
      rw [cell_blk (setRow_heap w19 w10.heap.size _ #[.string x1, .string x2] T_refs_row (0, 0) hb19)]; rfl
    have hcm : w10.cell? ⟨rb, 1, none⟩ = some (.map (some mb)) := by rw [cell_blk (hF10.keep hr.blk (by simp))]; rfl
    cases hx : rlook rows s with
    | some x =>
      rw [hx] at hlk hE
      refine ⟨_, hcm, w10, x.1, x.2, _, hlk, fun w19 h19 => ?_⟩
      obtain ⟨w20, k1, k2, k3⟩ := key x.1 x.2 w19 h19
      exact ⟨w20, k1, fun _ => ⟨_, k2, fin (hF10.trans' k3) hE⟩, fun h => by cases h⟩
    | none =>
      rw [hx] at hlk hE
      refine ⟨_, hcm, w10, _, _, _, hlk, fun w19 h19 => ?_⟩
      obtain ⟨w20, k1, k2, k3⟩ := key ⟨#[]⟩ ⟨#[]⟩ w19 h19
      exact ⟨w20, k1, fun h => (by cases h), fun _ => fin (hF10.trans' k3) hE⟩
  all_goals
    have h7 : er ≠ 7 := by simpa using h7
    rw [if_neg h7] at hE
  · rw [hE, if_pos (.inl (by simpa using hne))]
  all_goals have hne : er = 0 := by simpa using hne
  · rw [bs_eq] at hid
    rw [hE, if_pos (.inr (by simpa using hid))]
  all_goals
    rw [bs_eq] at hid
    have hid : id = ⟨#[]⟩ := by simpa using hid
    rw [if_neg (fun hh => hh.elim (fun hh => hh hne) (fun hh => hh hid))] at hE
  · have hf0 : f = 0 := by have := eq_of_beq h5; omega
    subst hf0
    exact hE
  · obtain ⟨g, rfl⟩ : ∃ g, f = g + 1 := ⟨f - 1, by
      rcases Nat.eq_zero_or_pos f with h0 | h0
      · subst h0; simp at h5
      · omega⟩
    have e1 : IntKind.i64.wrap (((5 - (g + 1) : Nat) : Int) + 1) = ((5 - g : Nat) : Int) := by rw [wrap_i64 (by omega) (by omega)]; omega
    rw [e1]
    exact ⟨⟨hF10, g, by omega, rfl, hE⟩, by dsimp only; omega⟩
end
end Go.Proofs.YtllegkmadljmaaaGreatDoor

/- The place of an object's file: its path is clean, and nothing of a pack. No program in sight. -/
set_option linter.unusedVariables false
namespace Go.Proofs.YtllegkmadljmaaaGreatDoor
open Go Vc HexM Go.Proofs

def objS : ByteArray := ⟨#[111, 98, 106, 101, 99, 116, 115, 47]⟩
/-- Where an object stands. -/
def pathO (id : ByteArray) : ByteArray := objS ++ id.extract 0 2 ++ ⟨#[47]⟩ ++ id.extract 2 id.size
theorem partsF_cons {A B : List UInt8} (h : (47 : UInt8) ∉ A) (g : Nat) : partsF (g + 1) ⟨(A ++ 47 :: B).toArray⟩ = ⟨A.toArray⟩ :: partsF g ⟨B.toArray⟩ := by
  have hs : (⟨(A ++ 47 :: B).toArray⟩ : ByteArray).size = A.length + (B.length + 1) := by rw [bs_mksize, List.length_append, List.length_cons]
  have hget : ∀ k : Nat, (⟨(A ++ 47 :: B).toArray⟩ : ByteArray).data.toList[k]? = (A ++ 47 :: B)[k]? := fun k => by rw [bs_mk]
  have hix : Lib.indexByte (⟨(A ++ 47 :: B).toArray⟩ : ByteArray).data.toList 47 = ((A.length : Nat) : Int) := by
    refine fnd_at (by omega) ?_ fun k hk e => ?_
    · unfold byt
      rw [hget, List.getElem?_append_right (Nat.le_refl _), Nat.sub_self]; rfl
    · unfold byt at e
      rw [hget, List.getElem?_append_left hk, List.getElem?_eq_getElem hk] at e
      exact h (UInt8.toNat_inj.1 e ▸ List.getElem_mem hk)
  rw [partsF_yes hix]
  congr 1
  · exact bs_ext (by rw [bs_head, bs_mk, bs_mk, List.take_left])
  · congr 1
    exact bs_ext (by rw [bs_tail, bs_mk, bs_mk, List.drop_append, List.drop_eq_nil_of_le (by omega), show A.length + 1 - A.length = 1 by omega]; rfl)
theorem partsF_one {A : List UInt8} (h : (47 : UInt8) ∉ A) (g : Nat) : partsF g ⟨A.toArray⟩ = [⟨A.toArray⟩] := by
  refine partsF_no ?_ g
  rcases fnd_cases ⟨A.toArray⟩ 47 with ⟨h1, _⟩ | ⟨i, _, hi, hb, _⟩
  · exact h1
  · have := List.mem_of_getElem? (bs_get hi)
    rw [hb, bs_mk] at this
    exact absurd this h
/-- A name's letters are digits. -/
theorem isId_parts {id : ByteArray} (h : isId id.data.toList = true) : id.size = 40 ∧ ∀ c ∈ id.data.toList, (48 ≤ c.toNat ∧ c.toNat ≤ 57) ∨ (97 ≤ c.toNat ∧ c.toNat ≤ 102) := by
  unfold isId at h
  rw [unhexL_iff, Bool.and_eq_true, Bool.and_eq_true] at h
  obtain ⟨⟨h1, _⟩, h2⟩ := h
  refine ⟨by rw [← bs_len]; exact eq_of_beq h2, fun c hc => ?_⟩
  have := List.all_eq_true.1 h1 c hc
  unfold dg at this
  split at this
  · exact .inl (by assumption)
  · split at this
    · exact .inr (by assumption)
    · cases this
theorem isId_hex {l : List UInt8} (h : l.length = 20) : isId (hexL l) = true := by
  unfold isId
  rw [unhex_hex, hexL_length, h]; rfl
theorem pathO_list (id : ByteArray) : (pathO id).data.toList = [111, 98, 106, 101, 99, 116, 115] ++ 47 :: (id.data.toList.take 2 ++ 47 :: id.data.toList.drop 2) := by
  unfold pathO
  rw [bs_app, bs_app, bs_app, bs_head, bs_tail]
  simp [objS]
theorem pathO_size {id : ByteArray} (h : id.size = 40) : (pathO id).size = 49 := by
  rw [← bs_len, pathO_list]
  simp only [List.length_append, List.length_cons, List.length_nil, List.length_take, List.length_drop, bs_len]
  omega
theorem pathO_clean {id : ByteArray} (h : isId id.data.toList = true) : cleanB (pathO id) = true := by
  obtain ⟨h40, hm⟩ := isId_parts h
  have hl40 : id.data.toList.length = 40 := by rw [bs_len]; exact h40
  have hE : pathO id = ⟨([111, 98, 106, 101, 99, 116, 115] ++ 47 :: (id.data.toList.take 2 ++ 47 :: id.data.toList.drop 2)).toArray⟩ := bs_ext (by rw [pathO_list, bs_mk])
  have n47 : ∀ {l : List UInt8}, (∀ c ∈ l, c ∈ id.data.toList) → (47 : UInt8) ∉ l := fun hl h47 => by
    have := hm _ (hl _ h47)
    exact absurd this (by decide)
  have hparts : partsF 49 (pathO id) = [⟨#[111, 98, 106, 101, 99, 116, 115]⟩, ⟨(id.data.toList.take 2).toArray⟩, ⟨(id.data.toList.drop 2).toArray⟩] := by
    rw [hE, partsF_cons (by decide), partsF_cons (n47 fun c hc => List.mem_of_mem_take hc), partsF_one (n47 fun c hc => List.mem_of_mem_drop hc)]
  unfold cleanB
  rw [pathO_size h40, hparts]
  have hpr : printB (pathO id) = true := by
    unfold printB
    refine decide_eq_true fun q hq => ?_
    have hcm := List.mem_of_getElem? (bs_get hq)
    have hl := byt_lt (pathO id) q
    generalize byt (pathO id) q = c at hcm hl
    rw [pathO_list] at hcm
    have hn : (UInt8.ofNat c).toNat = c := toNat_of c hl
    generalize UInt8.ofNat c = u at hcm hn
    have hcm : u ∈ ([111, 98, 106, 101, 99, 116, 115, 47] : List UInt8) ∨ u ∈ id.data.toList := by
      rcases List.mem_append.1 hcm with h | h
      · exact .inl (List.mem_append_left [47] h)
      · rcases List.mem_cons.1 h with h | h
        · exact .inl (by rw [h]; decide)
        · rcases List.mem_append.1 h with h | h
          · exact .inr (List.mem_of_mem_take h)
          · rcases List.mem_cons.1 h with h | h
            · exact .inl (by rw [h]; decide)
            · exact .inr (List.mem_of_mem_drop h)
    rcases hcm with h | h
    · rw [← hn]
      simp only [List.mem_cons, List.mem_nil_iff, or_false] at h
      rcases h with rfl | rfl | rfl | rfl | rfl | rfl | rfl | rfl <;> decide
    · have := hm _ h
      omega
  rw [hpr]
  have hp : ∀ {l : List UInt8}, 0 < l.length → (∀ c ∈ l, c ∈ id.data.toList) → partOK ⟨l.toArray⟩ = true := fun {l} hl0 hl => by
    have n46 : (46 : UInt8) ∉ l := fun h46 => absurd (hm _ (hl _ h46)) (by decide)
    unfold partOK
    rw [Bool.and_eq_true, Bool.and_eq_true]
    refine ⟨⟨decide_eq_true fun e => ?_, decide_eq_true fun e => ?_⟩, decide_eq_true fun e => ?_⟩
    · have := congrArg ByteArray.size e
      rw [bs_mksize] at this
      have h0 : (⟨#[]⟩ : ByteArray).size = 0 := rfl
      omega
    · have := congrArg (fun s : ByteArray => s.data.toList) e
      simp only at this
      exact n46 (by rw [this]; decide)
    · have := congrArg (fun s : ByteArray => s.data.toList) e
      simp only at this
      exact n46 (by rw [this]; decide)
  rw [List.all_cons, List.all_cons, List.all_cons, hp (by rw [List.length_take]; omega) fun c hc => List.mem_of_mem_take hc, hp (by rw [List.length_drop]; omega) fun c hc => List.mem_of_mem_drop hc]
  decide
theorem pathO_inj {a b : ByteArray} (h : pathO a = pathO b) : a = b := by
  have := congrArg (fun s : ByteArray => s.data.toList) h
  simp only [pathO_list] at this
  refine bs_ext ?_
  have h2 := List.append_cancel_left this
  rw [List.cons.injEq] at h2
  have h3 := h2.2
  have ha := List.take_append_drop 2 a.data.toList
  have hb := List.take_append_drop 2 b.data.toList
  by_cases hl : 2 ≤ a.data.toList.length ∧ 2 ≤ b.data.toList.length
  · have e1 : (a.data.toList.take 2).length = (b.data.toList.take 2).length := by rw [List.length_take, List.length_take]; omega
    obtain ⟨h4, h5⟩ := List.append_inj h3 e1
    rw [List.cons.injEq] at h5
    rw [← ha, ← hb, h4, h5.2]
  · have hl3 := congrArg List.length h3
    simp only [List.length_append, List.length_cons, List.length_take, List.length_drop] at hl3
    have he : a.data.toList.length = b.data.toList.length := by omega
    have hla : a.data.toList.length < 2 := by omega
    rw [List.take_of_length_le (by omega), List.take_of_length_le (by omega), List.drop_eq_nil_of_le (by omega), List.drop_eq_nil_of_le (by omega)] at h3
    exact (List.append_inj h3 he).1
def packS : ByteArray := ⟨#[111, 98, 106, 101, 99, 116, 115, 47, 112, 97, 99, 107, 47, 112, 97, 99, 107, 45]⟩
theorem pack_no {id : ByteArray} (h : isId id.data.toList = true) : begB (pathO id) packS = false := by
  obtain ⟨h40, hm⟩ := isId_parts h
  have hl40 : id.data.toList.length = 40 := by rw [bs_len]; exact h40
  unfold begB
  refine decide_eq_false fun hp => ?_
  obtain ⟨t, ht⟩ := hp
  rw [pathO_list] at ht
  cases hc : id.data.toList with
  | nil => rw [hc] at hl40; simp at hl40
  | cons x r =>
    rw [hc] at ht
    have h8 := congrArg (fun l : List UInt8 => l[8]?) ht
    have hx : x = 112 := by
      have h1 : (packS.data.toList ++ t)[8]? = some 112 := rfl
      rw [h1] at h8
      have h2 : ([111, 98, 106, 101, 99, 116, 115] ++ 47 :: ((x :: r).take 2 ++ 47 :: (x :: r).drop 2))[8]? = some x := rfl
      rw [h2] at h8
      exact (Option.some.inj h8).symm
    have := hm x (by rw [hc]; exact List.mem_cons_self)
    rw [hx] at this
    exact absurd this (by decide)
end Go.Proofs.YtllegkmadljmaaaGreatDoor

/- SHA-1 and SHA-256 on lists. -/
set_option linter.unusedVariables false
namespace ShaM
abbrev W := BitVec 32
def rotl (x : W) (n : Nat) : W := (x <<< n) ||| (x >>> (32 - n))
/-- Four bytes from number i on as a word, the highest first. -/
def be (p : List UInt8) (i : Nat) : W := BitVec.ofNat 32 ((p.getD i 0).toNat * 16777216 + (p.getD (i + 1) 0).toNat * 65536 + (p.getD (i + 2) 0).toNat * 256 + (p.getD (i + 3) 0).toNat)
def words (p : List UInt8) : List W := (List.range 16).map fun i => be p (4 * i)
def ext1 : Nat → List W → List W
  | 0, w => w
  | n + 1, w => ext1 n (w ++ [rotl (w.getD (w.length - 3) 0 ^^^ w.getD (w.length - 8) 0 ^^^ w.getD (w.length - 14) 0 ^^^ w.getD (w.length - 16) 0) 1])
def f1 (i : Nat) (b c d : W) : W := if i < 20 then (b &&& c) ||| (~~~b &&& d) else if i < 40 then b ^^^ c ^^^ d else if i < 60 then (b &&& c) ||| (b &&& d) ||| (c &&& d) else b ^^^ c ^^^ d
def k1 (i : Nat) : W := if i < 20 then 0x5a827999#32 else if i < 40 then 0x6ed9eba1#32 else if i < 60 then 0x8f1bbcdc#32 else 0xca62c1d6#32
/-- One round. -/
def rd1 (i : Nat) (x : W) : List W → List W
  | [a, b, c, d, e] => [rotl a 5 + f1 i b c d + e + k1 i + x, a, rotl b 30, c, d]
  | v => v
def rds1 : Nat → List W → List W → List W
  | _, [], v => v
  | i, x :: r, v => rds1 (i + 1) r (rd1 i x v)
def adds : List W → List W → List W
  | a :: h, b :: v => (a + b) :: adds h v
  | _, _ => []
def block1 (h : List W) (p : List UInt8) : List W := adds h (rds1 0 (ext1 64 (words p)) h)
def blocks (f : List W → List UInt8 → List W) : Nat → List W → List UInt8 → List W
  | 0, h, _ => h
  | n + 1, h, t => blocks f n (f h (t.take 64)) (t.drop 64)
def pad (t : List UInt8) : List UInt8 := t ++ 0x80 :: List.replicate ((119 - t.length % 64) % 64) 0 ++ (List.range 8).map fun i => UInt8.ofNat (t.length * 8 / 2 ^ (56 - 8 * i))
def outw (x : W) : List UInt8 := [UInt8.ofNat (x.toNat / 16777216), UInt8.ofNat (x.toNat / 65536), UInt8.ofNat (x.toNat / 256), UInt8.ofNat x.toNat]
def out (h : List W) : List UInt8 := h.flatMap outw
def start1 : List W := [0x67452301#32, 0xefcdab89#32, 0x98badcfe#32, 0x10325476#32, 0xc3d2e1f0#32]
end ShaM
namespace ShaM
def nxt1 (w : List W) : W := rotl (w.getD (w.length - 3) 0 ^^^ w.getD (w.length - 8) 0 ^^^ w.getD (w.length - 14) 0 ^^^ w.getD (w.length - 16) 0) 1
theorem ext1_snoc : ∀ (n : Nat) (w : List W), ext1 (n + 1) w = ext1 n w ++ [nxt1 (ext1 n w)]
  | 0, w => rfl
  | n + 1, w => by
    show ext1 (n + 1) (w ++ [nxt1 w]) = _
    rw [ext1_snoc n]
    rfl
theorem ext1_length : ∀ (n : Nat) (w : List W), (ext1 n w).length = w.length + n
  | 0, w => rfl
  | n + 1, w => by
    show (ext1 n (w ++ [nxt1 w])).length = _
    rw [ext1_length n, List.length_append, List.length_singleton]; omega
theorem words_length (p : List UInt8) : (words p).length = 16 := by simp [words]
theorem words_take (p : List UInt8) {k : Nat} (h : k < 16) : (words p).take (k + 1) = (words p).take k ++ [be p (4 * k)] := by
  have hl : k < (words p).length := by rw [words_length]; exact h
  rw [List.take_succ_eq_append_getElem hl]
  simp [words]
/-- The first k words of a schedule. -/
def E1 (p : List UInt8) (k : Nat) : List W := if k ≤ 16 then (words p).take k else ext1 (k - 16) (words p)
theorem E1_length (p : List UInt8) (k : Nat) : (E1 p k).length = k := by
  unfold E1
  split
  · rw [List.length_take, words_length]; omega
  · rw [ext1_length, words_length]; omega
theorem E1_low (p : List UInt8) {k : Nat} (h : k < 16) : E1 p (k + 1) = E1 p k ++ [be p (4 * k)] := by
  unfold E1; rw [if_pos (by omega), if_pos (by omega), words_take p h]
theorem E1_ext (p : List UInt8) {k : Nat} (h : 16 ≤ k) : E1 p k = ext1 (k - 16) (words p) := by
  unfold E1
  split
  · have : k = 16 := by omega
    subst this
    rw [List.take_of_length_le (by rw [words_length]; omega)]; rfl
  · rfl
theorem E1_high (p : List UInt8) {k : Nat} (h : 16 ≤ k) : E1 p (k + 1) = E1 p k ++ [nxt1 (E1 p k)] := by
  rw [E1_ext p h, E1_ext p (by omega), show k + 1 - 16 = (k - 16) + 1 by omega, ext1_snoc]
theorem nxt1_at {w : List W} {k : Nat} (h : w.length = k) : nxt1 w = rotl (w.getD (k - 3) 0 ^^^ w.getD (k - 8) 0 ^^^ w.getD (k - 14) 0 ^^^ w.getD (k - 16) 0) 1 := by unfold nxt1; rw [h]
theorem rds1_step {i : Nat} {l v : List W} (h : i < l.length) : rds1 i (l.drop i) v = rds1 (i + 1) (l.drop (i + 1)) (rd1 i (l.getD i 0) v) := by
  rw [List.drop_eq_getElem_cons h]
  simp [rds1, h]
end ShaM

/- Numbers of 32 and 64 bits as bit vectors. No condition. -/
set_option linter.unusedVariables false
namespace Vc
open Go
section
theorem u_of (x : BitVec 32) : BitVec.ofInt 32 (x.toNat : Int) = x := by
  rw [BitVec.ofInt_natCast]; simp
theorem u_wrap (x : BitVec 32) : IntKind.u32.wrap (x.toNat : Int) = (x.toNat : Int) := by
  have := x.isLt
  exact wrap_u32 (by omega) (by omega)
theorem u_add (x y : BitVec 32) : IntKind.u32.wrap ((x.toNat : Int) + (y.toNat : Int)) = ((x + y).toNat : Int) := by
  rw [wrap_u32_mod, BitVec.toNat_add]; omega
theorem u_shl (x : BitVec 32) (k : Nat) (hk : k ≤ 32) : IntKind.u32.wrap ((x.toNat : Int) * 2 ^ (min k 32)) = ((x <<< k).toNat : Int) := by
  have hp : (2 : Int) ^ k = ((2 ^ k : Nat) : Int) := by push_cast; rfl
  rw [Nat.min_eq_left hk, wrap_u32_mod, BitVec.toNat_shiftLeft, Nat.shiftLeft_eq, hp, ← Int.natCast_mul]
  generalize x.toNat * 2 ^ k = z
  show (z : Int) % 4294967296 = ((z % 4294967296 : Nat) : Int)
  omega
theorem u_shr (x : BitVec 32) (k : Nat) (hk : k ≤ 32) : Int.fdiv (x.toNat : Int) (2 ^ (min k 32)) = ((x >>> k).toNat : Int) := by
  have hp : (2 : Int) ^ k = ((2 ^ k : Nat) : Int) := by push_cast; rfl
  rw [Nat.min_eq_left hk, hp, Int.fdiv_eq_ediv_of_nonneg _ (Int.natCast_nonneg _), ← Int.natCast_ediv, BitVec.toNat_ushiftRight, Nat.shiftRight_eq_div_pow]
end
end Vc

/- Plain facts on bits of a text, the lowest of each byte first. -/
set_option linter.unusedVariables false
namespace BitsM
open Vc
/-- The first n bytes as a number, the first the lowest. -/
def V (s : ByteArray) : Nat → Nat
  | 0 => 0
  | n + 1 => V s n + byt s n * 2 ^ (8 * n)
theorem V_lt (s : ByteArray) : ∀ n, V s n < 2 ^ (8 * n)
  | 0 => by simp [V]
  | n + 1 => by
    have h := V_lt s n
    have hb := byt_lt s n
    have e : 2 ^ (8 * (n + 1)) = 256 * 2 ^ (8 * n) := by rw [Nat.mul_succ, Nat.pow_add]; omega
    have : byt s n * 2 ^ (8 * n) ≤ 255 * 2 ^ (8 * n) := Nat.mul_le_mul_right _ (by omega)
    simp only [V]; omega
/-- What is held: the bits from pos on of the first n bytes. -/
def held (s : ByteArray) (n pos : Nat) : Nat := V s n / 2 ^ pos
theorem held_lt (s : ByteArray) (n pos : Nat) (h : pos ≤ 8 * n) : held s n pos < 2 ^ (8 * n - pos) := by
  unfold held
  rw [Nat.div_lt_iff_lt_mul (Nat.two_pow_pos _), ← Nat.pow_add, Nat.sub_add_cancel h]
  exact V_lt s n
theorem held_succ (s : ByteArray) (n pos : Nat) (h : pos ≤ 8 * n) : held s (n + 1) pos = held s n pos + byt s n * 2 ^ (8 * n - pos) := by
  unfold held
  have e : 2 ^ (8 * n) = 2 ^ (8 * n - pos) * 2 ^ pos := by rw [← Nat.pow_add, Nat.sub_add_cancel h]
  simp only [V]
  rw [e, ← Nat.mul_assoc, Nat.add_mul_div_right _ _ (Nat.two_pow_pos _)]
theorem held_or (s : ByteArray) (n pos : Nat) (h : pos ≤ 8 * n) : held s n pos ||| byt s n * 2 ^ (8 * n - pos) = held s (n + 1) pos := by
  rw [held_succ s n pos h, Nat.or_comm, Nat.mul_comm, Nat.add_comm, ← Nat.two_pow_add_eq_or_of_lt (held_lt s n pos h)]
theorem held_skip (s : ByteArray) (n pos k : Nat) : held s n pos / 2 ^ k = held s n (pos + k) := by
  unfold held; rw [Nat.div_div_eq_div_mul, ← Nat.pow_add]
/-- The next k bits of the whole text, from pos on. -/
def nbits (s : ByteArray) (pos k : Nat) : Nat := V s s.size / 2 ^ pos % 2 ^ k
theorem V_split (s : ByteArray) (n : Nat) : ∀ d, ∃ q, V s (n + d) = V s n + q * 2 ^ (8 * n)
  | 0 => ⟨0, by simp⟩
  | d + 1 => by
    obtain ⟨q, hq⟩ := V_split s n d
    refine ⟨q + byt s (n + d) * 2 ^ (8 * d), ?_⟩
    show V s (n + d) + byt s (n + d) * 2 ^ (8 * (n + d)) = _
    rw [hq, Nat.add_mul, Nat.mul_assoc, ← Nat.pow_add]
    have : 8 * d + 8 * n = 8 * (n + d) := by omega
    rw [this]; omega
theorem held_bits (s : ByteArray) (n pos k : Nat) (hn : n ≤ s.size) (h : pos + k ≤ 8 * n ∨ n = s.size) : held s n pos % 2 ^ k = nbits s pos k := by
  rcases h with h | rfl
  · unfold held nbits
    obtain ⟨q, hq⟩ := V_split s n (s.size - n)
    rw [Nat.add_sub_cancel' hn] at hq
    rw [hq]
    have e : 2 ^ (8 * n) = 2 ^ (8 * n - pos - k) * 2 ^ k * 2 ^ pos := by
      rw [← Nat.pow_add, ← Nat.pow_add]; congr 1; omega
    rw [e, ← Nat.mul_assoc, ← Nat.mul_assoc, Nat.add_mul_div_right _ _ (Nat.two_pow_pos _)]
    rw [Nat.add_mul_mod_self_right]
  · rfl
theorem and_mask (x k : Nat) : x &&& (2 ^ k - 1) = x % 2 ^ k := Nat.and_two_pow_sub_one_eq_mod x k
end BitsM

/- Formulas of 9 Go functions of this seat (written by a program of the author's, vcgen.py), and that each is enough for the call. No condition. -/
set_option linter.unusedVariables false
namespace Go.Proofs.YtllegkmadljmaaaGreatDoor
open Go Vc Go.Proofs
set_option maxRecDepth 100000
def vc_sha_word (x0 : ByteArray) (w : World) (R : Value → World → Prop) : Prop :=
 (((0 : Int) ≤ (0 : Int) ∧
 0 < (↑(ByteArray.size x0) : Int)) ∧
 ((0 : Int) ≤ (24 : Int) ∧
 (((0 : Int) ≤ (1 : Int) ∧
 1 < (↑(ByteArray.size x0) : Int)) ∧
 ((0 : Int) ≤ (16 : Int) ∧
 (((0 : Int) ≤ (2 : Int) ∧
 2 < (↑(ByteArray.size x0) : Int)) ∧
 ((0 : Int) ≤ (8 : Int) ∧
 (((0 : Int) ≤ (3 : Int) ∧
 3 < (↑(ByteArray.size x0) : Int)) ∧
 ∀ w1 : World,
 (Drew w w1 →
 R (Value.int .u32 (IntKind.wrap .u32 (↑(BitVec.toNat (BitVec.ofInt 32 (IntKind.wrap .u32 (↑(BitVec.toNat (BitVec.ofInt 32 (IntKind.wrap .u32 (↑(BitVec.toNat (BitVec.ofInt 32 (IntKind.wrap .u32 (IntKind.wrap .u32 (byteAt x0 0) * 2 ^ min (Int.toNat 24) 32)) ||| BitVec.ofInt 32 (IntKind.wrap .u32 (IntKind.wrap .u32 (byteAt x0 1) * 2 ^ min (Int.toNat 16) 32)))) : Int)) ||| BitVec.ofInt 32 (IntKind.wrap .u32 (IntKind.wrap .u32 (byteAt x0 2) * 2 ^ min (Int.toNat 8) 32)))) : Int)) ||| BitVec.ofInt 32 (IntKind.wrap .u32 (byteAt x0 3)))) : Int))) w1))))))))
theorem vc_sha_word_ok {x0 : ByteArray} {w : World} {R : Value → World → Prop} {R' : Ending → World → Prop} (h : vc_sha_word x0 w R) (hR : ∀ v w', R v w' → R' (.returned v) w') :
    Calls Tryz.prog 143 #[.string x0] w R' :=
  calls_of_body (vs := [(.string x0, false)]) (ty := ty) (ann := ⟨[], [], [(1, .quiet)], []⟩) (c := Tryz.f143.body.getD .skip) (by kernel_rfl) Tryz.func143 (by kernel_rfl) (by kernel_rfl) (Eq.mp (by kernel_rfl) h) hR
def vc_bits_RotateLeft32 (x0 : Int) (x1 : Int) (w : World) (R : Value → World → Prop) : Prop :=
 (0 ≤ IntKind.wrap .u64 (↑(BitVec.toNat (BitVec.ofInt 64 (IntKind.wrap .u64 x1) &&& BitVec.ofInt 64 31)) : Int) ∧
 (0 ≤ IntKind.wrap .u64 (32 - IntKind.wrap .u64 (↑(BitVec.toNat (BitVec.ofInt 64 (IntKind.wrap .u64 x1) &&& BitVec.ofInt 64 31)) : Int)) ∧
 R (Value.int .u32 (IntKind.wrap .u32 (↑(BitVec.toNat (BitVec.ofInt 32 (IntKind.wrap .u32 (x0 * 2 ^ min (Int.toNat (IntKind.wrap .u64 (↑(BitVec.toNat (BitVec.ofInt 64 (IntKind.wrap .u64 x1) &&& BitVec.ofInt 64 31)) : Int))) 32)) ||| BitVec.ofInt 32 (Int.fdiv x0 (2 ^ min (Int.toNat (IntKind.wrap .u64 (32 - IntKind.wrap .u64 (↑(BitVec.toNat (BitVec.ofInt 64 (IntKind.wrap .u64 x1) &&& BitVec.ofInt 64 31)) : Int)))) 32)))) : Int))) w))
theorem vc_bits_RotateLeft32_ok {x0 : Int} {x1 : Int} {w : World} {R : Value → World → Prop} {R' : Ending → World → Prop} (h : vc_bits_RotateLeft32 x0 x1 w R) (hR : ∀ v w', R v w' → R' (.returned v) w') :
    Calls Tryz.prog 144 #[.int .u32 x0, .int .i64 x1] w R' :=
  calls_of_body (vs := [(.int .u32 x0, false), (.int .i64 x1, false)]) (ty := ty) (ann := ⟨[], [], [], []⟩) (c := Tryz.f144.body.getD .skip) (by kernel_rfl) Tryz.func144 (by kernel_rfl) (by kernel_rfl) (Eq.mp (by kernel_rfl) h) hR
def vc_sha_start1 (w : World) (R : Value → World → Prop) : Prop :=
 ∀ w1 : World,
 (w1 = World.alloc w (Obj.cells (Array.mk [Value.int .u32 1732584193, Value.int .u32 4023233417, Value.int .u32 2562383102, Value.int .u32 271733878, Value.int .u32 3285377520]) 128) →
 R (Value.slice (some (Addr.mk (Array.size (World.heap w)) 0 none)) 5 5) w1)
theorem vc_sha_start1_ok {w : World} {R : Value → World → Prop} {R' : Ending → World → Prop} (h : vc_sha_start1 w R) (hR : ∀ v w', R v w' → R' (.returned v) w') :
    Calls Tryz.prog 99 #[] w R' :=
  calls_of_body (vs := []) (ty := ty) (ann := ⟨[], [], [], []⟩) (c := Tryz.f99.body.getD .skip) (by kernel_rfl) Tryz.func99 (by kernel_rfl) (by kernel_rfl) (Eq.mp (by kernel_rfl) h) hR
def vc_sha_block1 (x0a : Option Addr) (x0n : Nat) (x0c : Nat) (x1 : ByteArray) (w : World) (R : Value → World → Prop) : Prop :=
 ∀ w1 : World,
 (w1 = World.alloc w (Obj.cells (Array.mk [Value.int .u32 0, Value.int .u32 0, Value.int .u32 0, Value.int .u32 0, Value.int .u32 0, Value.int .u32 0, Value.int .u32 0, Value.int .u32 0, Value.int .u32 0, Value.int .u32 0, Value.int .u32 0, Value.int .u32 0, Value.int .u32 0, Value.int .u32 0, Value.int .u32 0, Value.int .u32 0, Value.int .u32 0, Value.int .u32 0, Value.int .u32 0, Value.int .u32 0, Value.int .u32 0, Value.int .u32 0, Value.int .u32 0, Value.int .u32 0, Value.int .u32 0, Value.int .u32 0, Value.int .u32 0, Value.int .u32 0, Value.int .u32 0, Value.int .u32 0, Value.int .u32 0, Value.int .u32 0, Value.int .u32 0, Value.int .u32 0, Value.int .u32 0, Value.int .u32 0, Value.int .u32 0, Value.int .u32 0, Value.int .u32 0, Value.int .u32 0, Value.int .u32 0, Value.int .u32 0, Value.int .u32 0, Value.int .u32 0, Value.int .u32 0, Value.int .u32 0, Value.int .u32 0, Value.int .u32 0, Value.int .u32 0, Value.int .u32 0, Value.int .u32 0, Value.int .u32 0, Value.int .u32 0, Value.int .u32 0, Value.int .u32 0, Value.int .u32 0, Value.int .u32 0, Value.int .u32 0, Value.int .u32 0, Value.int .u32 0, Value.int .u32 0, Value.int .u32 0, Value.int .u32 0, Value.int .u32 0, Value.int .u32 0, Value.int .u32 0, Value.int .u32 0, Value.int .u32 0, Value.int .u32 0, Value.int .u32 0, Value.int .u32 0, Value.int .u32 0, Value.int .u32 0, Value.int .u32 0, Value.int .u32 0, Value.int .u32 0, Value.int .u32 0, Value.int .u32 0, Value.int .u32 0, Value.int .u32 0]) 204) →
 ∃ I2 : Int → World → Prop, ∃ I3 : Int → World → Nat, (I2 0 w1 ∧
 ∀ n4 : Int,
 ∀ w5 : World,
 (I2 n4 w5 →
 (((decide (n4 < 80) = true →
 (((decide (n4 < 16) = true →
 ((0 ≤ IntKind.wrap .i64 (4 * n4) ∧
 IntKind.wrap .i64 (4 * n4) ≤ (↑(ByteArray.size x1) : Int)) ∧
 Calls Tryz.prog (143 : Nat) (Array.mk [Value.string (ByteArray.extract x1 (Int.toNat (IntKind.wrap .i64 (4 * n4))) (ByteArray.size x1))]) (w5) (fun e6 w7 =>
 ∃ n8 : Int, (e6 = Ending.returned (Value.int .u32 n8) ∧
 ((0 ≤ n4 ∧
 n4 < (↑80 : Int)) ∧
 (Wr w7 (Addr.add (Addr.mk (Array.size (World.heap w)) 0 none) (Int.toNat n4 * 1)) ∧
 ∀ w9 : World,
 (w9 = World.setCell w7 (Addr.add (Addr.mk (Array.size (World.heap w)) 0 none) (Int.toNat n4 * 1)) (Value.int .u32 n8) →
 (I2 (IntKind.wrap .i64 (n4 + 1)) w9 ∧
 I3 (IntKind.wrap .i64 (n4 + 1)) w9 < I3 n4 w5))))))))) ∧
 (decide (n4 < 16) = false →
 ∀ w10 : World,
 (Drew w5 w10 →
 ∃ I11 : World → Prop, (I11 w10 ∧
 ((0 ≤ IntKind.wrap .i64 (n4 - 3) ∧
 IntKind.wrap .i64 (n4 - 3) < (↑80 : Int)) ∧
 ∃ n12 : Int, ((∀ w13 : World,
 (I11 w13 →
 World.cell? w13 (Addr.add (Addr.mk (Array.size (World.heap w)) 0 none) (Int.toNat (IntKind.wrap .i64 (n4 - 3)) * 1)) = some (Value.int .u32 n12))) ∧
 ((0 ≤ IntKind.wrap .i64 (n4 - 8) ∧
 IntKind.wrap .i64 (n4 - 8) < (↑80 : Int)) ∧
 ∃ n14 : Int, ((∀ w15 : World,
 (I11 w15 →
 World.cell? w15 (Addr.add (Addr.mk (Array.size (World.heap w)) 0 none) (Int.toNat (IntKind.wrap .i64 (n4 - 8)) * 1)) = some (Value.int .u32 n14))) ∧
 ((0 ≤ IntKind.wrap .i64 (n4 - 14) ∧
 IntKind.wrap .i64 (n4 - 14) < (↑80 : Int)) ∧
 ∃ n16 : Int, ((∀ w17 : World,
 (I11 w17 →
 World.cell? w17 (Addr.add (Addr.mk (Array.size (World.heap w)) 0 none) (Int.toNat (IntKind.wrap .i64 (n4 - 14)) * 1)) = some (Value.int .u32 n16))) ∧
 ((0 ≤ IntKind.wrap .i64 (n4 - 16) ∧
 IntKind.wrap .i64 (n4 - 16) < (↑80 : Int)) ∧
 ∃ n18 : Int, ((∀ w19 : World,
 (I11 w19 →
 World.cell? w19 (Addr.add (Addr.mk (Array.size (World.heap w)) 0 none) (Int.toNat (IntKind.wrap .i64 (n4 - 16)) * 1)) = some (Value.int .u32 n18))) ∧
 Calls Tryz.prog (144 : Nat) (Array.mk [Value.int .u32 (IntKind.wrap .u32 (↑(BitVec.toNat (BitVec.ofInt 32 (IntKind.wrap .u32 (↑(BitVec.toNat (BitVec.ofInt 32 (IntKind.wrap .u32 (↑(BitVec.toNat (BitVec.ofInt 32 n12 ^^^ BitVec.ofInt 32 n14)) : Int)) ^^^ BitVec.ofInt 32 n16)) : Int)) ^^^ BitVec.ofInt 32 n18)) : Int)), Value.int .i64 1]) (w10) (fun e20 w21 =>
 ∃ n22 : Int, (e20 = Ending.returned (Value.int .u32 n22) ∧
 (I11 w21 ∧
 ((0 ≤ n4 ∧
 n4 < (↑80 : Int)) ∧
 (Wr w21 (Addr.add (Addr.mk (Array.size (World.heap w)) 0 none) (Int.toNat n4 * 1)) ∧
 ∀ w23 : World,
 (w23 = World.setCell w21 (Addr.add (Addr.mk (Array.size (World.heap w)) 0 none) (Int.toNat n4 * 1)) (Value.int .u32 n22) →
 (I2 (IntKind.wrap .i64 (n4 + 1)) w23 ∧
 I3 (IntKind.wrap .i64 (n4 + 1)) w23 < I3 n4 w5))))))))))))))))))))) ∧
 (decide (n4 < 80) = false →
 (((0 : Int) ≤ (0 : Int) ∧
 0 < (↑x0n : Int)) ∧
 ∃ a24 : Addr, (x0a = some a24 ∧
 ∃ n25 : Int, (World.cell? w5 (Addr.add a24 (Int.toNat 0 * 1)) = some (Value.int .u32 n25) ∧
 (((0 : Int) ≤ (1 : Int) ∧
 1 < (↑x0n : Int)) ∧
 ∃ a26 : Addr, (x0a = some a26 ∧
 ∃ n27 : Int, (World.cell? w5 (Addr.add a26 (Int.toNat 1 * 1)) = some (Value.int .u32 n27) ∧
 (((0 : Int) ≤ (2 : Int) ∧
 2 < (↑x0n : Int)) ∧
 ∃ a28 : Addr, (x0a = some a28 ∧
 ∃ n29 : Int, (World.cell? w5 (Addr.add a28 (Int.toNat 2 * 1)) = some (Value.int .u32 n29) ∧
 (((0 : Int) ≤ (3 : Int) ∧
 3 < (↑x0n : Int)) ∧
 ∃ a30 : Addr, (x0a = some a30 ∧
 ∃ n31 : Int, (World.cell? w5 (Addr.add a30 (Int.toNat 3 * 1)) = some (Value.int .u32 n31) ∧
 (((0 : Int) ≤ (4 : Int) ∧
 4 < (↑x0n : Int)) ∧
 ∃ a32 : Addr, (x0a = some a32 ∧
 ∃ n33 : Int, (World.cell? w5 (Addr.add a32 (Int.toNat 4 * 1)) = some (Value.int .u32 n33) ∧
 ∀ w34 : World,
 (Drew w5 w34 →
 ∃ v35 : Value, (Sem.run Tryz.prog (loadVar 204 (Addr.mk (Array.size (World.heap w)) 0 none)) w34 = Result.ok v35 w34 ∧
 ∃ I36 : Int → Int → Int → Int → Int → Int → World → Prop, ∃ I37 : Int → Int → Int → Int → Int → Int → World → Nat, (I36 n25 n27 n29 n31 n33 0 w34 ∧
 ∀ n38 : Int,
 ∀ n39 : Int,
 ∀ n40 : Int,
 ∀ n41 : Int,
 ∀ n42 : Int,
 ∀ n43 : Int,
 ∀ w44 : World,
 (I36 n38 n39 n40 n41 n42 n43 w44 →
 (((decide (n43 < 80) = true →
 ∃ w45 : World, ∃ n46 : Int, (Sem.run Tryz.prog (Instr.index 204 v35 (Value.int .i64 n43)) w44 = Result.ok (Value.int .u32 n46) w45 ∧
 ∃ I47 : Int → Int → World → Prop, (((20 : Int) ≠ (0 : Int) ∧
 ((((IntKind.wrap .i64 (Int.tdiv n43 20) == 0) = true →
 (I47 (IntKind.wrap .u32 (↑(BitVec.toNat (BitVec.ofInt 32 (IntKind.wrap .u32 (↑(BitVec.toNat (BitVec.ofInt 32 n39 &&& BitVec.ofInt 32 n40)) : Int)) ||| BitVec.ofInt 32 (IntKind.wrap .u32 (↑(BitVec.toNat (BitVec.ofInt 32 (IntKind.wrap .u32 (↑(BitVec.toNat (BitVec.ofInt 32 (if IntKind.signed IntKind.u32 = true then -1 else Int.ofNat (2 ^ 32 - Nat.succ 0)) ^^^ BitVec.ofInt 32 n39)) : Int)) &&& BitVec.ofInt 32 n41)) : Int)))) : Int)) 1518500249 w45))) ∧
 ((IntKind.wrap .i64 (Int.tdiv n43 20) == 0) = false →
 ((((IntKind.wrap .i64 (Int.tdiv n43 20) == 1) = true →
 I47 (IntKind.wrap .u32 (↑(BitVec.toNat (BitVec.ofInt 32 (IntKind.wrap .u32 (↑(BitVec.toNat (BitVec.ofInt 32 n39 ^^^ BitVec.ofInt 32 n40)) : Int)) ^^^ BitVec.ofInt 32 n41)) : Int)) 1859775393 w45)) ∧
 ((IntKind.wrap .i64 (Int.tdiv n43 20) == 1) = false →
 ((((IntKind.wrap .i64 (Int.tdiv n43 20) == 2) = true →
 I47 (IntKind.wrap .u32 (↑(BitVec.toNat (BitVec.ofInt 32 (IntKind.wrap .u32 (↑(BitVec.toNat (BitVec.ofInt 32 (IntKind.wrap .u32 (↑(BitVec.toNat (BitVec.ofInt 32 n39 &&& BitVec.ofInt 32 n40)) : Int)) ||| BitVec.ofInt 32 (IntKind.wrap .u32 (↑(BitVec.toNat (BitVec.ofInt 32 n39 &&& BitVec.ofInt 32 n41)) : Int)))) : Int)) ||| BitVec.ofInt 32 (IntKind.wrap .u32 (↑(BitVec.toNat (BitVec.ofInt 32 n40 &&& BitVec.ofInt 32 n41)) : Int)))) : Int)) 2400959708 w45)) ∧
 ((IntKind.wrap .i64 (Int.tdiv n43 20) == 2) = false →
 I47 (IntKind.wrap .u32 (↑(BitVec.toNat (BitVec.ofInt 32 (IntKind.wrap .u32 (↑(BitVec.toNat (BitVec.ofInt 32 n39 ^^^ BitVec.ofInt 32 n40)) : Int)) ^^^ BitVec.ofInt 32 n41)) : Int)) 3395469782 w45))))))) ∧
 ∀ n48 : Int,
 ∀ n49 : Int,
 ∀ w50 : World,
 (I47 n48 n49 w50 →
 Calls Tryz.prog (144 : Nat) (Array.mk [Value.int .u32 n38, Value.int .i64 5]) (w50) (fun e51 w52 =>
 ∃ n53 : Int, (e51 = Ending.returned (Value.int .u32 n53) ∧
 Calls Tryz.prog (144 : Nat) (Array.mk [Value.int .u32 n39, Value.int .i64 30]) (w52) (fun e54 w55 =>
 ∃ n56 : Int, (e54 = Ending.returned (Value.int .u32 n56) ∧
 (I36 (IntKind.wrap .u32 (IntKind.wrap .u32 (IntKind.wrap .u32 (IntKind.wrap .u32 (n53 + n48) + n42) + n49) + n46)) n38 n56 n40 n41 (IntKind.wrap .i64 (n43 + 1)) w55 ∧
 I37 (IntKind.wrap .u32 (IntKind.wrap .u32 (IntKind.wrap .u32 (IntKind.wrap .u32 (n53 + n48) + n42) + n49) + n46)) n38 n56 n40 n41 (IntKind.wrap .i64 (n43 + 1)) w55 < I37 n38 n39 n40 n41 n42 n43 w44)))))))))) ∧
 (decide (n43 < 80) = false →
 (((0 : Int) ≤ (0 : Int) ∧
 0 < (↑x0n : Int)) ∧
 ∃ a57 : Addr, (x0a = some a57 ∧
 ∃ n58 : Int, (World.cell? w44 (Addr.add a57 (Int.toNat 0 * 1)) = some (Value.int .u32 n58) ∧
 (((0 : Int) ≤ (0 : Int) ∧
 0 < (↑x0n : Int)) ∧
 ∃ a59 : Addr, (x0a = some a59 ∧
 (Wr w44 (Addr.add a59 (Int.toNat 0 * 1)) ∧
 ∀ w60 : World,
 (w60 = World.setCell w44 (Addr.add a59 (Int.toNat 0 * 1)) (Value.int .u32 (IntKind.wrap .u32 (n58 + n38))) →
 (((0 : Int) ≤ (1 : Int) ∧
 1 < (↑x0n : Int)) ∧
 ∃ a61 : Addr, (x0a = some a61 ∧
 ∃ n62 : Int, (World.cell? w60 (Addr.add a61 (Int.toNat 1 * 1)) = some (Value.int .u32 n62) ∧
 (((0 : Int) ≤ (1 : Int) ∧
 1 < (↑x0n : Int)) ∧
 ∃ a63 : Addr, (x0a = some a63 ∧
 (Wr w60 (Addr.add a63 (Int.toNat 1 * 1)) ∧
 ∀ w64 : World,
 (w64 = World.setCell w60 (Addr.add a63 (Int.toNat 1 * 1)) (Value.int .u32 (IntKind.wrap .u32 (n62 + n39))) →
 (((0 : Int) ≤ (2 : Int) ∧
 2 < (↑x0n : Int)) ∧
 ∃ a65 : Addr, (x0a = some a65 ∧
 ∃ n66 : Int, (World.cell? w64 (Addr.add a65 (Int.toNat 2 * 1)) = some (Value.int .u32 n66) ∧
 (((0 : Int) ≤ (2 : Int) ∧
 2 < (↑x0n : Int)) ∧
 ∃ a67 : Addr, (x0a = some a67 ∧
 (Wr w64 (Addr.add a67 (Int.toNat 2 * 1)) ∧
 ∀ w68 : World,
 (w68 = World.setCell w64 (Addr.add a67 (Int.toNat 2 * 1)) (Value.int .u32 (IntKind.wrap .u32 (n66 + n40))) →
 (((0 : Int) ≤ (3 : Int) ∧
 3 < (↑x0n : Int)) ∧
 ∃ a69 : Addr, (x0a = some a69 ∧
 ∃ n70 : Int, (World.cell? w68 (Addr.add a69 (Int.toNat 3 * 1)) = some (Value.int .u32 n70) ∧
 (((0 : Int) ≤ (3 : Int) ∧
 3 < (↑x0n : Int)) ∧
 ∃ a71 : Addr, (x0a = some a71 ∧
 (Wr w68 (Addr.add a71 (Int.toNat 3 * 1)) ∧
 ∀ w72 : World,
 (w72 = World.setCell w68 (Addr.add a71 (Int.toNat 3 * 1)) (Value.int .u32 (IntKind.wrap .u32 (n70 + n41))) →
 (((0 : Int) ≤ (4 : Int) ∧
 4 < (↑x0n : Int)) ∧
 ∃ a73 : Addr, (x0a = some a73 ∧
 ∃ n74 : Int, (World.cell? w72 (Addr.add a73 (Int.toNat 4 * 1)) = some (Value.int .u32 n74) ∧
 (((0 : Int) ≤ (4 : Int) ∧
 4 < (↑x0n : Int)) ∧
 ∃ a75 : Addr, (x0a = some a75 ∧
 (Wr w72 (Addr.add a75 (Int.toNat 4 * 1)) ∧
 ∀ w76 : World,
 (w76 = World.setCell w72 (Addr.add a75 (Int.toNat 4 * 1)) (Value.int .u32 (IntKind.wrap .u32 (n74 + n42))) →
 R (Value.tuple (Array.mk [])) w76)))))))))))))))))))))))))))))))))))))))))))))))))))))))))))))
theorem vc_sha_block1_ok {x0a : Option Addr} {x0n : Nat} {x0c : Nat} {x1 : ByteArray} {w : World} {R : Value → World → Prop} {R' : Ending → World → Prop} (h : vc_sha_block1 x0a x0n x0c x1 w R) (hR : ∀ v w', R v w' → R' (.returned v) w') :
    Calls Tryz.prog 100 #[.slice x0a x0n x0c, .string x1] w R' :=
  calls_of_body (vs := [(.slice x0a x0n x0c, false), (.string x1, false)]) (ty := ty) (ann := ⟨[(20, [(13, .int .u32), (14, .int .u32)])], [(2, [(15, .int .i64)]), (10, [(6, .int .u32), (7, .int .u32), (8, .int .u32), (9, .int .u32), (10, .int .u32), (66, .int .i64)])], [(6, .held [(0, true), (1, true), (2, true), (3, true), (4, true), (5, true), (6, true), (7, true), (8, true), (9, true), (10, true), (11, true), (12, true), (13, true), (14, true), (15, true), (16, true), (17, true), (18, true), (19, true), (20, false), (21, true), (22, false)]), (8, .quiet)], []⟩) (c := Tryz.f100.body.getD .skip) (by kernel_rfl) Tryz.func100 (by kernel_rfl) (by kernel_rfl) (Eq.mp (by kernel_rfl) h) hR
def vc_sha_hash_write_1 (x0 : Nat) (x1 : ByteArray) (x2a : Option Addr) (x2n : Nat) (x2c : Nat) (w : World) (R : Value → World → Prop) : Prop :=
 ∃ I1 : World → Prop, ((∃ l2 : Sl, (World.cell? w (Addr.mk x0 0 none) = some (Value.slice l2.1 l2.2 l2.3) ∧
 (((Option.isNone l2.1 = true →
 ∃ w3 : World, ∃ l4 : Sl, (Sem.run Tryz.prog (Builtin.append_ (Array.mk [110, 110]) 110 (Array.mk [Value.slice none 0 0, Value.slice x2a x2n x2c])) w = Result.ok (Value.slice l4.1 l4.2 l4.3) w3 ∧
 (Wr w3 (Addr.mk x0 0 none) ∧
 ∀ w5 : World,
 (w5 = World.setCell w3 (Addr.mk x0 0 none) (Value.slice l4.1 l4.2 l4.3) →
 I1 w5))))) ∧
 (Option.isNone l2.1 = false →
 I1 w)))) ∧
 ∀ w6 : World,
 (I1 w6 →
 ∃ n7 : Int, (World.cell? w6 (Addr.mk x0 2 none) = some (Value.int .u64 n7) ∧
 (Wr w6 (Addr.mk x0 2 none) ∧
 ∀ w8 : World,
 (w8 = World.setCell w6 (Addr.mk x0 2 none) (Value.int .u64 (IntKind.wrap .u64 (n7 + IntKind.wrap .u64 (↑(ByteArray.size x1) : Int)))) →
 ∃ s9 : ByteArray, (World.cell? w8 (Addr.mk x0 1 none) = some (Value.string s9) ∧
 (ByteArray.size s9 + ByteArray.size x1 ≤ 9223372036854775807 ∧
 ∃ I10 : ByteArray → World → Prop, ∃ I11 : ByteArray → World → Nat, (I10 (s9 ++ x1) w8 ∧
 ∀ s12 : ByteArray,
 ∀ w13 : World,
 (I10 s12 w13 →
 (((decide ((↑(ByteArray.size s12) : Int) ≥ 64) = true →
 ∀ w14 : World,
 (Drew w13 w14 →
 ∃ I15 : World → Prop, (I15 w14 ∧
 ∃ l16 : Sl, ((∀ w17 : World,
 (I15 w17 →
 World.cell? w17 (Addr.mk x0 0 none) = some (Value.slice l16.1 l16.2 l16.3))) ∧
 (((0 : Int) ≤ (64 : Int) ∧
 64 ≤ (↑(ByteArray.size s12) : Int)) ∧
 Calls Tryz.prog (100 : FuncId) (Array.mk [Value.slice l16.1 l16.2 l16.3, Value.string (ByteArray.extract s12 0 (Int.toNat 64))]) (w14) (fun e18 w19 =>
 (e18 = Ending.returned (Value.tuple (Array.mk [])) ∧
 (((0 : Int) ≤ (64 : Int) ∧
 64 ≤ (↑(ByteArray.size s12) : Int)) ∧
 (I10 (ByteArray.extract s12 (Int.toNat 64) (ByteArray.size s12)) w19 ∧
 I11 (ByteArray.extract s12 (Int.toNat 64) (ByteArray.size s12)) w19 < I11 s12 w13)))))))))) ∧
 (decide ((↑(ByteArray.size s12) : Int) ≥ 64) = false →
 (Wr w13 (Addr.mk x0 1 none) ∧
 ∀ w20 : World,
 (w20 = World.setCell w13 (Addr.mk x0 1 none) (Value.string s12) →
 R (Value.tuple (Array.mk [])) w20)))))))))))))
theorem vc_sha_hash_write_1_ok {x0 : Nat} {x1 : ByteArray} {x2a : Option Addr} {x2n : Nat} {x2c : Nat} {w : World} {R : Value → World → Prop} {R' : Ending → World → Prop} (h : vc_sha_hash_write_1 x0 x1 x2a x2n x2c w R) (hR : ∀ v w', R v w' → R' (.returned v) w') :
    Calls Tryz.prog 98 #[.pointer (some ⟨x0, 0, none⟩), .string x1, .slice x2a x2n x2c, .func (.func 100) #[] #[]] w R' :=
  calls_of_body (vs := [(.pointer (some ⟨x0, 0, none⟩), true), (.string x1, false), (.slice x2a x2n x2c, false), (.func (.func 100) #[] #[], false)]) (ty := ty) (ann := ⟨[(2, [])], [(4, [(1, .str)])], [(5, .held [(0, true), (1, true), (2, true), (3, true), (4, true), (5, true), (6, true), (7, false)])], []⟩) (c := Tryz.f98.body.getD .skip) (by kernel_rfl) Tryz.func98 (by kernel_rfl) (by kernel_rfl) (Eq.mp (by kernel_rfl) h) hR
def vc_sha_hash_sum_1 (x0 : Nat) (x1a : Option Addr) (x1n : Nat) (x1c : Nat) (w : World) (R : Value → World → Prop) : Prop :=
 ∃ I1 : Addr → World → Prop, ((∀ w2 : World,
 (Drew w w2 →
 ∃ I3 : World → Prop, (I3 w2 ∧
 ∃ l4 : Sl, ((∀ w5 : World,
 (I3 w5 →
 World.cell? w5 (Addr.mk x0 0 none) = some (Value.slice l4.1 l4.2 l4.3))) ∧
 ∃ s6 : ByteArray, ((∀ w7 : World,
 (I3 w7 →
 World.cell? w7 (Addr.mk x0 1 none) = some (Value.string s6))) ∧
 ∃ n8 : Int, ((∀ w9 : World,
 (I3 w9 →
 World.cell? w9 (Addr.mk x0 2 none) = some (Value.int .u64 n8))) ∧
 ((∃ w10 : World, ∃ l11 : Sl, (Sem.run Tryz.prog (Builtin.append_ (Array.mk [110, 110]) 110 (Array.mk [Value.slice none 0 0, Value.slice l4.1 l4.2 l4.3])) w2 = Result.ok (Value.slice l11.1 l11.2 l11.3) w10 ∧
 (I3 w10 ∧
 ∀ w12 : World,
 (w12 = World.alloc w10 (Obj.cells (Array.mk [Value.slice none 0 0, Value.string (ByteArray.mk (Array.mk [])), Value.int .u64 0]) 113) →
 (I3 w12 ∧
 ∃ w13 : World, (Sem.run Tryz.prog (storeVar 113 (Addr.mk (Array.size (World.heap w10)) 0 none) (Value.agg (Array.mk [Value.slice l11.1 l11.2 l11.3, Value.string s6, Value.int .u64 n8]))) w12 = Result.ok PUnit.unit w13 ∧
 I1 (Addr.mk (Array.size (World.heap w10)) 0 none) w13)))))) ∧
 ∀ w14 : World,
 (w14 = World.alloc w2 (Obj.cells (Array.mk [Value.slice none 0 0, Value.string (ByteArray.mk (Array.mk [])), Value.int .u64 0]) 113) →
 (I3 w14 ∧
 ∃ w15 : World, ∃ l16 : Sl, (Sem.run Tryz.prog (Builtin.append_ (Array.mk [110, 110]) 110 (Array.mk [Value.slice none 0 0, Value.slice l4.1 l4.2 l4.3])) w14 = Result.ok (Value.slice l16.1 l16.2 l16.3) w15 ∧
 (I3 w15 ∧
 ∃ w17 : World, (Sem.run Tryz.prog (storeVar 113 (Addr.mk (Array.size (World.heap w2)) 0 none) (Value.agg (Array.mk [Value.slice l16.1 l16.2 l16.3, Value.string s6, Value.int .u64 n8]))) w15 = Result.ok PUnit.unit w17 ∧
 I1 (Addr.mk (Array.size (World.heap w2)) 0 none) w17)))))))))))) ∧
 ∀ a18 : Addr,
 ∀ w19 : World,
 (I1 a18 w19 →
 ∃ I20 : World → Prop, ((∃ l21 : Sl, (World.cell? w19 (Addr.mk x0 0 none) = some (Value.slice l21.1 l21.2 l21.3) ∧
 (((Option.isNone l21.1 = true →
 (Wr w19 a18 ∧
 ∀ w22 : World,
 (w22 = World.setCell w19 a18 (Value.slice none 0 0) →
 I20 w22)))) ∧
 (Option.isNone l21.1 = false →
 I20 w19)))) ∧
 ∀ w23 : World,
 (I20 w23 →
 ∃ I24 : ByteArray → World → Prop, ∃ I25 : ByteArray → World → Nat, (I24 (ByteArray.mk (Array.mk [128])) w23 ∧
 ∀ s26 : ByteArray,
 ∀ w27 : World,
 (I24 s26 w27 →
 ∃ s28 : ByteArray, (World.cell? w27 (Addr.mk x0 1 none) = some (Value.string s28) ∧
 ((64 : Int) ≠ (0 : Int) ∧
 ((((Int.tmod (IntKind.wrap .i64 ((↑(ByteArray.size s28) : Int) + (↑(ByteArray.size s26) : Int))) 64 != 56) = true →
 (ByteArray.size s26 + ByteArray.size (ByteArray.mk (Array.mk [0])) ≤ 9223372036854775807 ∧
 (I24 (s26 ++ ByteArray.mk (Array.mk [0])) w27 ∧
 I25 (s26 ++ ByteArray.mk (Array.mk [0])) w27 < I25 s26 w27)))) ∧
 ((Int.tmod (IntKind.wrap .i64 ((↑(ByteArray.size s28) : Int) + (↑(ByteArray.size s26) : Int))) 64 != 56) = false →
 ∃ I29 : Sl → Int → World → Prop, ∃ I30 : Sl → Int → World → Nat, (I29 (Sl.mk none 0 0) 56 w27 ∧
 ∀ l31 : Sl,
 ∀ n32 : Int,
 ∀ w33 : World,
 (I29 l31 n32 w33 →
 (((decide (n32 ≥ 0) = true →
 ∃ n34 : Int, (World.cell? w33 (Addr.mk x0 2 none) = some (Value.int .u64 n34) ∧
 (0 ≤ n32 ∧
 ∀ w35 : World,
 (w35 = World.alloc w33 (Obj.cells (Array.mk [Value.int .u8 (IntKind.wrap .u8 (Int.fdiv (IntKind.wrap .u64 (n34 * 8)) (2 ^ min (Int.toNat n32) 64)))]) 5) →
 ∃ w36 : World, ∃ l37 : Sl, (Sem.run Tryz.prog (Builtin.append_ (Array.mk [108, 108]) 108 (Array.mk [Value.slice l31.1 l31.2 l31.3, Value.slice (some (Addr.mk (Array.size (World.heap w33)) 0 none)) 1 1])) w35 = Result.ok (Value.slice l37.1 l37.2 l37.3) w36 ∧
 (I29 (Sl.mk l37.1 l37.2 l37.3) (IntKind.wrap .i64 (n32 - 8)) w36 ∧
 I30 (Sl.mk l37.1 l37.2 l37.3) (IntKind.wrap .i64 (n32 - 8)) w36 < I30 l31 n32 w33))))))) ∧
 (decide (n32 ≥ 0) = false →
 ∃ w38 : World, ∃ s39 : ByteArray, (Sem.run Tryz.prog (convert 108 9 (Value.slice l31.1 l31.2 l31.3)) w33 = Result.ok (Value.string s39) w38 ∧
 (ByteArray.size s26 + ByteArray.size s39 ≤ 9223372036854775807 ∧
 Calls Tryz.prog (98 : Nat) (Array.mk [Value.pointer (some a18), Value.string (s26 ++ s39), Value.slice x1a x1n x1c, Value.func (Fn.func 100) (Array.mk []) (Array.mk [])]) (w38) (fun e40 w41 =>
 (e40 = Ending.returned (Value.tuple (Array.mk [])) ∧
 ∃ l42 : Sl, (World.cell? w41 a18 = some (Value.slice l42.1 l42.2 l42.3) ∧
 ∃ I43 : Sl → Int → World → Prop, ∃ I44 : Sl → Int → World → Nat, (I43 (Sl.mk none 0 0) 0 w41 ∧
 ∀ l45 : Sl,
 ∀ n46 : Int,
 ∀ w47 : World,
 (I43 l45 n46 w47 →
 (((decide (n46 < (↑l42.2 : Int)) = true →
 ((0 ≤ n46 ∧
 n46 < (↑l42.2 : Int)) ∧
 ∃ a48 : Addr, (l42.1 = some a48 ∧
 ∃ n49 : Int, (World.cell? w47 (Addr.add a48 (Int.toNat n46 * 1)) = some (Value.int .u32 n49) ∧
 ((0 : Int) ≤ (24 : Int) ∧
 ((0 : Int) ≤ (16 : Int) ∧
 ((0 : Int) ≤ (8 : Int) ∧
 ∀ w50 : World,
 (w50 = World.alloc w47 (Obj.cells (Array.mk [Value.int .u8 (IntKind.wrap .u8 (Int.fdiv n49 (2 ^ min (Int.toNat 24) 32))), Value.int .u8 (IntKind.wrap .u8 (Int.fdiv n49 (2 ^ min (Int.toNat 16) 32))), Value.int .u8 (IntKind.wrap .u8 (Int.fdiv n49 (2 ^ min (Int.toNat 8) 32))), Value.int .u8 (IntKind.wrap .u8 n49)]) 5) →
 ∃ w51 : World, ∃ l52 : Sl, (Sem.run Tryz.prog (Builtin.append_ (Array.mk [108, 108]) 108 (Array.mk [Value.slice l45.1 l45.2 l45.3, Value.slice (some (Addr.mk (Array.size (World.heap w47)) 0 none)) 4 4])) w50 = Result.ok (Value.slice l52.1 l52.2 l52.3) w51 ∧
 (I43 (Sl.mk l52.1 l52.2 l52.3) (IntKind.wrap .i64 (n46 + 1)) w51 ∧
 I44 (Sl.mk l52.1 l52.2 l52.3) (IntKind.wrap .i64 (n46 + 1)) w51 < I44 l45 n46 w47))))))))))) ∧
 (decide (n46 < (↑l42.2 : Int)) = false →
 ∃ w53 : World, ∃ s54 : ByteArray, (Sem.run Tryz.prog (convert 108 9 (Value.slice l45.1 l45.2 l45.3)) w47 = Result.ok (Value.string s54) w53 ∧
 R (Value.string s54) w53))))))))))))))))))))))))
theorem vc_sha_hash_sum_1_ok {x0 : Nat} {x1a : Option Addr} {x1n : Nat} {x1c : Nat} {w : World} {R : Value → World → Prop} {R' : Ending → World → Prop} (h : vc_sha_hash_sum_1 x0 x1a x1n x1c w R) (hR : ∀ v w', R v w' → R' (.returned v) w') :
    Calls Tryz.prog 101 #[.pointer (some ⟨x0, 0, none⟩), .slice x1a x1n x1c, .func (.func 100) #[] #[]] w R' :=
  calls_of_body (vs := [(.pointer (some ⟨x0, 0, none⟩), true), (.slice x1a x1n x1c, false), (.func (.func 100) #[] #[], false)]) (ty := ty) (ann := ⟨[(2, [(7, .addr)]), (4, [])], [(5, [(8, .str)]), (9, [(9, .slice), (10, .int .i64)]), (15, [(11, .slice), (71, .int .i64)])], [(1, .tree (.rd 0 (.rd 1 (.rd 2 (.rd 3 (.rd 5 (.rd 6 (.rd 7 (.rd 8 (.rd 9 (.rd 10 (.rd 11 (.rd 12 (.ef 4 (.rd 13 (.ef 14 (.ef 15 .done .done) .done)) (.ef 14 (.ef 4 (.rd 13 (.ef 15 .done .done)) .done) .done)))))))))))))))], []⟩) (c := Tryz.f101.body.getD .skip) (by kernel_rfl) Tryz.func101 (by kernel_rfl) (by kernel_rfl) (Eq.mp (by kernel_rfl) h) hR
def vc_sha_Hash1_Write (x0 : Nat) (x1 : ByteArray) (w : World) (R : Value → World → Prop) : Prop :=
 ∀ w1 : World,
 (Drew w w1 →
 ∃ I2 : World → Prop, (I2 w1 ∧
 Calls Tryz.prog (99 : Nat) (Array.mk []) (w1) (fun e3 w4 =>
 ∃ l5 : Sl, (e3 = Ending.returned (Value.slice l5.1 l5.2 l5.3) ∧
 (I2 w4 ∧
 Calls Tryz.prog (98 : Nat) (Array.mk [Value.pointer (some (Addr.mk x0 0 none)), Value.string x1, Value.slice l5.1 l5.2 l5.3, Value.func (Fn.func 100) (Array.mk []) (Array.mk [])]) (w4) (fun e6 w7 =>
 (e6 = Ending.returned (Value.tuple (Array.mk [])) ∧
 R (Value.tuple (Array.mk [])) w7)))))))
theorem vc_sha_Hash1_Write_ok {x0 : Nat} {x1 : ByteArray} {w : World} {R : Value → World → Prop} {R' : Ending → World → Prop} (h : vc_sha_Hash1_Write x0 x1 w R) (hR : ∀ v w', R v w' → R' (.returned v) w') :
    Calls Tryz.prog 66 #[.pointer (some ⟨x0, 0, none⟩), .string x1] w R' :=
  calls_of_body (vs := [(.pointer (some ⟨x0, 0, none⟩), true), (.string x1, false)]) (ty := ty) (ann := ⟨[], [], [(0, .held [(0, true), (1, true), (2, true), (3, true), (4, false), (5, false)])], []⟩) (c := Tryz.f66.body.getD .skip) (by kernel_rfl) Tryz.func66 (by kernel_rfl) (by kernel_rfl) (Eq.mp (by kernel_rfl) h) hR
def vc_sha_Hash1_Sum (x0 : Nat) (w : World) (R : Value → World → Prop) : Prop :=
 ∀ w1 : World,
 (Drew w w1 →
 ∃ I2 : World → Prop, (I2 w1 ∧
 Calls Tryz.prog (99 : Nat) (Array.mk []) (w1) (fun e3 w4 =>
 ∃ l5 : Sl, (e3 = Ending.returned (Value.slice l5.1 l5.2 l5.3) ∧
 (I2 w4 ∧
 Calls Tryz.prog (101 : Nat) (Array.mk [Value.pointer (some (Addr.mk x0 0 none)), Value.slice l5.1 l5.2 l5.3, Value.func (Fn.func 100) (Array.mk []) (Array.mk [])]) (w4) (fun e6 w7 =>
 ∃ s8 : ByteArray, (e6 = Ending.returned (Value.string s8) ∧
 (I2 w7 ∧
 R (Value.string s8) w7))))))))
theorem vc_sha_Hash1_Sum_ok {x0 : Nat} {w : World} {R : Value → World → Prop} {R' : Ending → World → Prop} (h : vc_sha_Hash1_Sum x0 w R) (hR : ∀ v w', R v w' → R' (.returned v) w') :
    Calls Tryz.prog 67 #[.pointer (some ⟨x0, 0, none⟩)] w R' :=
  calls_of_body (vs := [(.pointer (some ⟨x0, 0, none⟩), true)]) (ty := ty) (ann := ⟨[], [], [(1, .held [(0, true), (1, true), (2, true), (3, false), (4, false), (5, true)])], []⟩) (c := Tryz.f67.body.getD .skip) (by kernel_rfl) Tryz.func67 (by kernel_rfl) (by kernel_rfl) (Eq.mp (by kernel_rfl) h) hR
def vc_sha_Sum1 (x0 : ByteArray) (w : World) (R : Value → World → Prop) : Prop :=
 ∀ w1 : World,
 (w1 = World.alloc w (Obj.cells (Array.mk [Value.slice none 0 0, Value.string (ByteArray.mk (Array.mk [])), Value.int .u64 0]) 115) →
 Calls Tryz.prog (66 : Nat) (Array.mk [Value.pointer (some (Addr.mk (Array.size (World.heap w)) 0 none)), Value.string x0]) (w1) (fun e2 w3 =>
 (e2 = Ending.returned (Value.tuple (Array.mk [])) ∧
 Calls Tryz.prog (67 : Nat) (Array.mk [Value.pointer (some (Addr.mk (Array.size (World.heap w)) 0 none))]) (w3) (fun e4 w5 =>
 ∃ s6 : ByteArray, (e4 = Ending.returned (Value.string s6) ∧
 R (Value.string s6) w5)))))
theorem vc_sha_Sum1_ok {x0 : ByteArray} {w : World} {R : Value → World → Prop} {R' : Ending → World → Prop} (h : vc_sha_Sum1 x0 w R) (hR : ∀ v w', R v w' → R' (.returned v) w') :
    Calls Tryz.prog 30 #[.string x0] w R' :=
  calls_of_body (vs := [(.string x0, false)]) (ty := ty) (ann := ⟨[], [], [], []⟩) (c := Tryz.f30.body.getD .skip) (by kernel_rfl) Tryz.func30 (by kernel_rfl) (by kernel_rfl) (Eq.mp (by kernel_rfl) h) hR
end Go.Proofs.YtllegkmadljmaaaGreatDoor

/- What the small functions of the package sha and of its reference do. Conditions: a word's text has four bytes; a turn is by less than 32. -/
set_option linter.unusedVariables false
namespace Go.Proofs.YtllegkmadljmaaaGreatDoor
open Go Vc ShaM Go.Proofs

theorem elU32 : El Tryz.prog T_S_uint32 T_uint32 (.int .u32 0) 4 := ⟨by kernel_rfl, by kernel_rfl, rfl⟩
abbrev uv (l : List W) : List Value := l.map (fun x : W => Value.int .u32 (x.toNat : Int))
theorem uv_get {l : List W} {i : Nat} (h : i < l.length) : (uv l)[i]? = some (.int .u32 ((l.getD i 0).toNat : Int)) := by
  simp only [uv, List.getElem?_map, List.getElem?_eq_getElem h, Option.map_some, List.getD_eq_getElem?_getD, Option.getD_some]
theorem uv_len (l : List W) : (uv l).length = l.length := List.length_map ..
/-- An element of an array by value. -/
theorem index_agg {P : Program} {w : World} (t e : TypeId) (n : Nat) (cs : List Value) (k : IntKind) (i : Nat) (h : P.underlying t = some (.array n e)) (hs : (P.info? e).map (·.size) = some 1) (hl : cs.length = n) (hin : i < n) (ho : Vc.one P e = true) :
    (Instr.index t (.agg cs.toArray) (.int k (i : Int))).run P w = .ok (cs.getD i undef) w := by
  obtain ⟨ie, hie, hsz⟩ := Option.map_eq_some_iff.1 hs
  have hn : 0 ≤ (i : Int) ∧ (i : Int) < (n : Int) := by omega
  have hsize : ∀ w, (Go.sizeOf e).run P w = .ok 1 w := fun w => by simp [Go.sizeOf, typeInfo, hie, hsz]
  have hi : i < cs.length := by omega
  simp [Instr.index, run_underlying h, asIntOf, hin, go_sem, hsize, run_isAgg ho, Result.andThen, hi]

theorem word_spec (s : ByteArray) (h : 4 ≤ s.size) (w : World) : Calls Tryz.prog F_sha_word #[.string s] w fun e w' => e = .returned (.int .u32 ((be s.data.toList 0).toNat : Int)) ∧ Drew w w' := by
  refine vc_sha_word_ok (R := fun v w' => v = .int .u32 ((be s.data.toList 0).toNat : Int) ∧ Drew w w') ?_ (fun v w' h => ⟨by rw [h.1], h.2⟩)
  refine ⟨⟨by decide, by omega⟩, by decide, ⟨by decide, by omega⟩, by decide, ⟨by decide, by omega⟩, by decide, ⟨by decide, by omega⟩, fun w1 d => ⟨?_, d⟩⟩
  have b0 := byteAt_nat s 0
  have b1 := byteAt_nat s 1
  have b2 := byteAt_nat s 2
  have b3 := byteAt_nat s 3
  have l0 := byt_lt s 0
  have l1 := byt_lt s 1
  have l2 := byt_lt s 2
  have l3 := byt_lt s 3
  have e : (be s.data.toList 0).toNat = byt s 0 * 16777216 + byt s 1 * 65536 + byt s 2 * 256 + byt s 3 := by
    unfold be byt
    rw [BitVec.toNat_ofNat]
    simp only [List.getD_eq_getElem?_getD, Nat.zero_add]
    unfold byt at l0 l1 l2 l3
    exact Nat.mod_eq_of_lt (by omega)
  rw [show byteAt s 0 = (byt s 0 : Int) from b0, show byteAt s 1 = (byt s 1 : Int) from b1, show byteAt s 2 = (byt s 2 : Int) from b2, show byteAt s 3 = (byt s 3 : Int) from b3, e]
  revert l0 l1 l2 l3
  generalize byt s 0 = a0
  generalize byt s 1 = a1
  generalize byt s 2 = a2
  generalize byt s 3 = a3
  intro l0 l1 l2 l3
  have p24 : (2 : Int) ^ min (Int.toNat 24) 32 = 16777216 := rfl
  have p16 : (2 : Int) ^ min (Int.toNat 16) 32 = 65536 := rfl
  have p8 : (2 : Int) ^ min (Int.toNat 8) 32 = 256 := rfl
  have m0 : IntKind.u32.wrap (IntKind.u32.wrap (a0 : Int) * 16777216) = ((a0 * 16777216 : Nat) : Int) := by rw [wrap_u32 (x := (a0 : Int)) (by omega) (by omega), wrap_u32 (by omega) (by omega)]; omega
  have m1 : IntKind.u32.wrap (IntKind.u32.wrap (a1 : Int) * 65536) = ((a1 * 65536 : Nat) : Int) := by rw [wrap_u32 (x := (a1 : Int)) (by omega) (by omega), wrap_u32 (by omega) (by omega)]; omega
  have m2 : IntKind.u32.wrap (IntKind.u32.wrap (a2 : Int) * 256) = ((a2 * 256 : Nat) : Int) := by rw [wrap_u32 (x := (a2 : Int)) (by omega) (by omega), wrap_u32 (by omega) (by omega)]; omega
  have o1 : (a0 * 16777216) ||| (a1 * 65536) = a0 * 16777216 + a1 * 65536 := by
    have := Nat.two_pow_add_eq_or_of_lt (i := 24) (b := a1 * 65536) (by omega) a0
    rw [Nat.mul_comm] at this; exact this.symm
  have o2 : (a0 * 16777216 + a1 * 65536) ||| (a2 * 256) = a0 * 16777216 + a1 * 65536 + a2 * 256 := by
    have := Nat.two_pow_add_eq_or_of_lt (i := 16) (b := a2 * 256) (by omega) (a0 * 256 + a1)
    rw [show 2 ^ 16 * (a0 * 256 + a1) = a0 * 16777216 + a1 * 65536 by omega] at this; exact this.symm
  have o3 : (a0 * 16777216 + a1 * 65536 + a2 * 256) ||| a3 = a0 * 16777216 + a1 * 65536 + a2 * 256 + a3 := by
    have := Nat.two_pow_add_eq_or_of_lt (i := 8) (b := a3) (by omega) (a0 * 65536 + a1 * 256 + a2)
    rw [show 2 ^ 8 * (a0 * 65536 + a1 * 256 + a2) = a0 * 16777216 + a1 * 65536 + a2 * 256 by omega] at this; exact this.symm
  rw [p24, p16, p8, m0, m1, m2, wrap_u32 (x := (a3 : Int)) (by omega) (by omega), or_nat 32 _ _ (by omega) (by omega), o1, wrap_u32 (x := ((a0 * 16777216 + a1 * 65536 : Nat) : Int)) (by omega) (by omega),
    or_nat 32 _ _ (by omega) (by omega), o2, wrap_u32 (x := ((a0 * 16777216 + a1 * 65536 + a2 * 256 : Nat) : Int)) (by omega) (by omega), or_nat 32 _ _ (by omega) (by omega), o3, wrap_u32 (by omega) (by omega)]

theorem rot_eq (x : W) {s : Nat} (h : s < 32) : IntKind.u32.wrap (↑((BitVec.ofInt 32 (IntKind.u32.wrap ((x.toNat : Int) * 2 ^ min s 32)) ||| BitVec.ofInt 32 (Int.fdiv (x.toNat : Int) (2 ^ min (32 - s) 32))).toNat) : Int) = ((rotl x s).toNat : Int) := by
  rw [u_shl x s (by omega), u_shr x (32 - s) (by omega), u_of, u_of, u_wrap]; rfl

theorem rot_spec (x : W) (k : Int) (s : Nat) (hs : s < 32) (hk : k % 18446744073709551616 % 32 = (s : Int)) (w : World) :
    Calls Tryz.prog F_bits_RotateLeft32 #[.int .u32 (x.toNat : Int), .int .i64 k] w fun e w' => e = .returned (.int .u32 ((rotl x s).toNat : Int)) ∧ w' = w := by
  refine vc_bits_RotateLeft32_ok (R := fun v w' => v = .int .u32 ((rotl x s).toNat : Int) ∧ w' = w) ?_ (fun v w' h => ⟨by rw [h.1], h.2⟩)
  rw [vc_bits_RotateLeft32, wrap_u64_mod k]
  obtain ⟨n, hn⟩ := Int.eq_ofNat_of_zero_le (Int.emod_nonneg k (show (18446744073709551616 : Int) ≠ 0 by decide))
  have hlt : k % 18446744073709551616 < 18446744073709551616 := Int.emod_lt_of_pos _ (by decide)
  rw [hn] at hk hlt ⊢
  have e1 : (BitVec.ofInt 64 31) = BitVec.ofInt 64 ((31 : Nat) : Int) := rfl
  have e2 : n &&& 31 = s := by
    have := Nat.and_two_pow_sub_one_eq_mod n 5
    rw [show 2 ^ 5 - 1 = 31 from rfl] at this
    rw [this]; omega
  rw [e1, and_nat 64 _ _ (by omega) (by omega), e2, wrap_u64 (x := (s : Int)) (by omega) (by omega), wrap_u64 (x := 32 - (s : Int)) (by omega) (by omega)]
  refine ⟨by omega, by omega, ?_, rfl⟩
  rw [Int.toNat_natCast, show (32 - (s : Int)).toNat = 32 - s by omega, rot_eq x hs]
end Go.Proofs.YtllegkmadljmaaaGreatDoor

/- Arrays of words, in plain and in memory. No condition. -/
set_option linter.unusedVariables false
namespace Go.Proofs.YtllegkmadljmaaaGreatDoor
open Go Vc ShaM Go.Proofs

theorem ext_toList (s : ByteArray) (a b : Nat) : (s.extract a b).data.toList = (s.data.toList.drop a).take (b - a) := by
  rw [ByteArray.data_extract, Array.toList_extract]
theorem be_drop (l : List UInt8) (a : Nat) : be (l.drop a) 0 = be l a := by
  unfold be; simp [List.getD_eq_getElem?_getD, List.getElem?_drop]
theorem neg32 : BitVec.ofInt 32 (if IntKind.signed IntKind.u32 = true then -1 else Int.ofNat (2 ^ 32 - Nat.succ 0)) = BitVec.allOnes 32 := by decide
/-- The array of a schedule while it is made. -/
def arr (E : Nat → List W) (n k : Nat) : List W := E k ++ List.replicate (n - k) 0
theorem arr_set {E : Nat → List W} {n k : Nat} {x : W} (hE : (E k).length = k) (hk : k < n) (h : E (k + 1) = E k ++ [x]) : (arr E n k).set k x = arr E n (k + 1) := by
  unfold arr
  rw [List.set_append_right _ _ (by omega), hE, Nat.sub_self, h, List.append_assoc, show n - k = (n - (k + 1)) + 1 by omega, List.replicate_succ]
  rfl
theorem arr_length {E : Nat → List W} {n k : Nat} (hE : (E k).length = k) (hk : k ≤ n) : (arr E n k).length = n := by
  unfold arr; rw [List.length_append, List.length_replicate]; omega
theorem arr_getD {E : Nat → List W} {n k j : Nat} (hE : (E k).length = k) (hj : j < k) : (arr E n k).getD j 0 = (E k).getD j 0 := by
  unfold arr
  rw [List.getD_eq_getElem?_getD, List.getElem?_append_left (by omega), List.getD_eq_getElem?_getD]
theorem own_get {w : World} {base : Nat} {e : TypeId} {l : Sl} {xs : List W} (h : Vc.Own w base e l (uv xs)) {i : Nat} (hi : i < xs.length) : ∃ x, l.a = some x ∧ w.cell? (x.add i) = some (.int .u32 ((xs.getD i 0).toNat : Int)) :=
  h.reads i _ (uv_get hi)
theorem own_put {w : World} {base : Nat} {e : TypeId} {l : Sl} {xs : List W} (h : Vc.Own w base e l (uv xs)) {i : Nat} (hi : i < xs.length) (x : W) :
    ∃ y, l.a = some y ∧ Wr w (y.add i) ∧ ∀ w2, w2 = w.setCell (y.add i) (.int .u32 (x.toNat : Int)) → Vc.Own w2 base e l (uv (xs.set i x)) ∧ Fr (Vc.At l) w w2 := by
  obtain ⟨y, hy, hc, hw, hs⟩ := h.set (i := i) (by rw [uv_len]; exact hi)
  refine ⟨y, hy, hw, fun w2 hw2 => ?_⟩
  obtain ⟨h1, h2⟩ := hs (.int .u32 (x.toNat : Int))
  rw [hw2]
  exact ⟨by rw [uv, List.map_set]; exact h1, h2⟩

theorem f1_eq (i : Nat) (b c d : W) : (i < 20 → f1 i b c d = (b &&& c) ||| (~~~b &&& d) ∧ k1 i = 0x5a827999#32) ∧ (20 ≤ i → i < 40 → f1 i b c d = b ^^^ c ^^^ d ∧ k1 i = 0x6ed9eba1#32) ∧
    (40 ≤ i → i < 60 → f1 i b c d = (b &&& c) ||| (b &&& d) ||| (c &&& d) ∧ k1 i = 0x8f1bbcdc#32) ∧ (60 ≤ i → f1 i b c d = b ^^^ c ^^^ d ∧ k1 i = 0xca62c1d6#32) := by
  unfold f1 k1
  refine ⟨fun h => ?_, fun h h2 => ?_, fun h h2 => ?_, fun h => ?_⟩
  · rw [if_pos h, if_pos h]; exact ⟨rfl, rfl⟩
  · rw [if_neg (by omega), if_pos h2, if_neg (by omega), if_pos h2]; exact ⟨rfl, rfl⟩
  · rw [if_neg (by omega), if_neg (by omega), if_pos h2, if_neg (by omega), if_neg (by omega), if_pos h2]; exact ⟨rfl, rfl⟩
  · rw [if_neg (by omega), if_neg (by omega), if_neg (by omega), if_neg (by omega), if_neg (by omega), if_neg (by omega)]; exact ⟨rfl, rfl⟩

end Go.Proofs.YtllegkmadljmaaaGreatDoor

/- What block1 of the package sha does. Conditions: the words are five, in a slice of the call's own; the text has 64 bytes. -/
set_option linter.unusedVariables false
namespace Go.Proofs.YtllegkmadljmaaaGreatDoor
open Go Vc ShaM Go.Proofs

theorem block1_spec {w : World} {base : Nat} {l : Sl} {h : List W} (ho : Vc.Own w base T_uint32 l (uv h)) (hl : h.length = 5) (p : ByteArray) (hp : p.size = 64) :
    Calls Tryz.prog F_sha_block1 #[.slice l.a l.len l.cap, .string p] w fun e w' => e = .returned (.tuple #[]) ∧ Vc.Own w' base T_uint32 l (uv (block1 h p.data.toList)) ∧ Fr (Vc.At l) w w' := by
  refine vc_sha_block1_ok (R := fun v w' => v = .tuple #[] ∧ Vc.Own w' base T_uint32 l (uv (block1 h p.data.toList)) ∧ Fr (Vc.At l) w w') ?_ (fun v w' h => ⟨by rw [h.1], h.2⟩)
  intro w1 hw1
  have f1' : Fr (fun _ => False) w w1 := hw1 ▸ Fr.alloc _ _ _
  generalize hB : w.heap.size = wb at hw1
  obtain ⟨P, hPd⟩ : ∃ P, p.data.toList = P := ⟨_, rfl⟩
  rw [hPd]
  have hE : ∀ k, (E1 P k).length = k := E1_length P
  have o1 : Vc.Own w1 wb T_80_uint32 ⟨some ⟨wb, 0, none⟩, 80, 80⟩ (uv (arr (E1 P) 80 0)) := by
    refine ⟨rfl, .inr ⟨wb, _, rfl, Nat.le_refl _, by rw [hw1, ← hB]; exact alloc_new _ _, Nat.le_refl _, by simp [maxLen], rfl, rfl⟩⟩
  have hlen : l.len = 5 := by rw [ho.len, uv_len, hl]
  refine ⟨fun i w' => ∃ k : Nat, k ≤ 80 ∧ i = (k : Int) ∧ Vc.Own w' wb T_80_uint32 ⟨some ⟨wb, 0, none⟩, 80, 80⟩ (uv (arr (E1 P) 80 k)) ∧ Fr (fun _ => False) w w', fun i _ => (80 - i).toNat, ⟨0, by decide, rfl, o1, f1'⟩, ?_⟩
  rintro i w5 ⟨k, hk, rfl, o5, f5⟩
  have hAl := arr_length (n := 80) (hE k) hk
  have e1 : IntKind.i64.wrap ((k : Int) + 1) = ((k + 1 : Nat) : Int) := by rw [wrap_i64 (by omega) (by omega)]; omega
  have hX : ∀ {w' : World}, Fr (fun _ => False) w w' → ∀ {w2 : World}, Fr (Vc.At ⟨some ⟨wb, 0, none⟩, 80, 80⟩) w' w2 → Fr (fun _ => False) w w2 := fun {w'} hf {w2} h2 => hf.trans h2 fun q hq ⟨y, hy, e⟩ => by cases hy; simp only at e; omega
  refine ⟨fun hlt => ?_, fun hge => ?_⟩
  · have hlt := of_decide_eq_true hlt
    have hk80 : k < 80 := by omega
    refine ⟨fun h16 => ?_, fun h16 => ?_⟩
    · have h16 := of_decide_eq_true h16
      have e4 : IntKind.i64.wrap (4 * (k : Int)) = ((4 * k : Nat) : Int) := by rw [wrap_i64 (by omega) (by omega)]; omega
      rw [e4, Int.toNat_natCast]
      refine ⟨⟨by omega, by omega⟩, ?_⟩
      refine (word_spec _ (by rw [ByteArray.size_extract]; omega) w5).mono ?_
      rintro e w7 ⟨rfl, d7⟩
      refine ⟨_, rfl, ⟨by omega, by omega⟩, ?_⟩
      have hx : be (p.extract (4 * k) p.size).data.toList 0 = be P (4 * k) := by
        rw [ext_toList, hPd, List.take_of_length_le (by rw [List.length_drop, ← hPd]; simp), be_drop]
      rw [hx, Int.toNat_natCast, Nat.mul_one, e1]
      obtain ⟨y, hy, hwr, hset⟩ := own_put (o5.drew d7) (i := k) (by omega) (be P (4 * k))
      cases hy
      refine ⟨hwr, fun w9 hw9 => ?_⟩
      obtain ⟨o9, f9⟩ := hset w9 hw9
      rw [arr_set (hE k) hk80 (E1_low P (by omega))] at o9
      exact ⟨⟨k + 1, by omega, rfl, o9, hX (f5.trans' (.drew _ d7)) f9⟩, by dsimp only; omega⟩
    · have h16 := of_decide_eq_false h16
      intro w10 d10
      have o10 := o5.drew d10
      have g : ∀ j, j < k → w10.cell? (Addr.add ⟨wb, 0, none⟩ j) = some (.int .u32 (((E1 P k).getD j 0).toNat : Int)) := fun j hj => by
        obtain ⟨y, hy, hc⟩ := own_get o10 (i := j) (by omega)
        cases hy
        rw [arr_getD (hE k) hj] at hc; exact hc
      have s3 : (IntKind.i64.wrap ((k : Int) - 3)).toNat = k - 3 := by rw [wrap_i64 (by omega) (by omega)]; omega
      have s8 : (IntKind.i64.wrap ((k : Int) - 8)).toNat = k - 8 := by rw [wrap_i64 (by omega) (by omega)]; omega
      have s14 : (IntKind.i64.wrap ((k : Int) - 14)).toNat = k - 14 := by rw [wrap_i64 (by omega) (by omega)]; omega
      have s16 : (IntKind.i64.wrap ((k : Int) - 16)).toNat = k - 16 := by rw [wrap_i64 (by omega) (by omega)]; omega
      have r3 : IntKind.i64.wrap ((k : Int) - 3) = ((k - 3 : Nat) : Int) := by rw [wrap_i64 (by omega) (by omega)]; omega
      have r8 : IntKind.i64.wrap ((k : Int) - 8) = ((k - 8 : Nat) : Int) := by rw [wrap_i64 (by omega) (by omega)]; omega
      have r14 : IntKind.i64.wrap ((k : Int) - 14) = ((k - 14 : Nat) : Int) := by rw [wrap_i64 (by omega) (by omega)]; omega
      have r16 : IntKind.i64.wrap ((k : Int) - 16) = ((k - 16 : Nat) : Int) := by rw [wrap_i64 (by omega) (by omega)]; omega
      refine ⟨fun w => w = w10, rfl, by rw [r3]; exact ⟨by omega, by omega⟩, _, fun w hw => by rw [hw, s3, Nat.mul_one]; exact g _ (by omega), by rw [r8]; exact ⟨by omega, by omega⟩, _, fun w hw => by rw [hw, s8, Nat.mul_one]; exact g _ (by omega),
        by rw [r14]; exact ⟨by omega, by omega⟩, _, fun w hw => by rw [hw, s14, Nat.mul_one]; exact g _ (by omega), by rw [r16]; exact ⟨by omega, by omega⟩, _, fun w hw => by rw [hw, s16, Nat.mul_one]; exact g _ (by omega), ?_⟩
      simp only [u_of, u_wrap]
      refine (rot_spec _ 1 1 (by decide) (by decide) w10).mono ?_
      rintro e w21 ⟨rfl, rfl⟩
      refine ⟨_, rfl, rfl, ⟨by omega, by omega⟩, ?_⟩
      rw [← nxt1_at (hE k), Int.toNat_natCast, Nat.mul_one, e1]
      obtain ⟨y, hy, hwr, hset⟩ := own_put o10 (i := k) (by omega) (nxt1 (E1 P k))
      cases hy
      refine ⟨hwr, fun w9 hw9 => ?_⟩
      obtain ⟨o9, f9⟩ := hset w9 hw9
      rw [arr_set (hE k) hk80 (E1_high P (by omega))] at o9
      exact ⟨⟨k + 1, by omega, rfl, o9, hX (f5.trans' (.drew _ d10)) f9⟩, by omega⟩
  have hge := of_decide_eq_false hge
  have : k = 80 := by omega
  subst this
  have hfull : arr (E1 P) 80 80 = ext1 64 (words P) := by unfold arr; rw [Nat.sub_self, List.replicate_zero, List.append_nil, E1_ext P (by decide)]
  rw [hfull] at o5 hAl
  obtain ⟨h0, h1, h2, h3, h4, rfl⟩ : ∃ a b c d e, h = [a, b, c, d, e] := by
    match h, hl with
    | [a, b, c, d, e], _ => exact ⟨_, _, _, _, _, rfl⟩
  have oh := ho.keep f5 (by simp)
  have rd : ∀ {w' : World}, Vc.Own w' base T_uint32 l (uv [h0, h1, h2, h3, h4]) → ∃ x, l.a = some x ∧ w'.cell? (x.add 0) = some (.int .u32 (h0.toNat : Int)) ∧ w'.cell? (x.add 1) = some (.int .u32 (h1.toNat : Int)) ∧ w'.cell? (x.add 2) = some (.int .u32 (h2.toNat : Int)) ∧
      w'.cell? (x.add 3) = some (.int .u32 (h3.toNat : Int)) ∧ w'.cell? (x.add 4) = some (.int .u32 (h4.toNat : Int)) := fun {w'} o => by
    obtain ⟨x, hx, c0⟩ := own_get o (i := 0) (by simp)
    obtain ⟨x1, hx1, c1⟩ := own_get o (i := 1) (by simp)
    obtain ⟨x2, hx2, c2⟩ := own_get o (i := 2) (by simp)
    obtain ⟨x3, hx3, c3⟩ := own_get o (i := 3) (by simp)
    obtain ⟨x4, hx4, c4⟩ := own_get o (i := 4) (by simp)
    rw [hx] at hx1 hx2 hx3 hx4
    cases hx1; cases hx2; cases hx3; cases hx4
    exact ⟨x, hx, c0, c1, c2, c3, c4⟩
  obtain ⟨x, hx, c0, c1, c2, c3, c4⟩ := rd oh
  rw [hlen]
  refine ⟨⟨by decide, by decide⟩, x, hx, _, c0, ⟨by decide, by decide⟩, x, hx, _, c1, ⟨by decide, by decide⟩, x, hx, _, c2, ⟨by decide, by decide⟩, x, hx, _, c3, ⟨by decide, by decide⟩, x, hx, _, c4, fun w34 d34 => ?_⟩
  have o34 := o5.drew d34
  have oh34 := oh.drew d34
  have hload := load_agg (P := Tryz.prog) (t := T_80_uint32) (w := w34) (a := ⟨wb, 0, none⟩) (vs := uv (ext1 64 (words P))) (agg_of (by kernel_rfl)) (by rw [uv_len, hAl]; kernel_rfl) (fun j v hv => by
    obtain ⟨y, hy, hc⟩ := o34.reads j v hv
    cases hy; exact hc)
  refine ⟨_, hload, ?_⟩
  obtain ⟨S, hS⟩ : ∃ S, ext1 64 (words P) = S := ⟨_, rfl⟩
  rw [hS] at hAl ⊢
  have hbl : block1 [h0, h1, h2, h3, h4] P = adds [h0, h1, h2, h3, h4] (rds1 0 S [h0, h1, h2, h3, h4]) := by unfold block1; rw [hS]
  rw [hbl]
  refine ⟨fun a b c d e i w' => w' = w34 ∧ ∃ (A B C D E : W) (k : Nat), k ≤ 80 ∧ i = (k : Int) ∧ a = (A.toNat : Int) ∧ b = (B.toNat : Int) ∧ c = (C.toNat : Int) ∧ d = (D.toNat : Int) ∧ e = (E.toNat : Int) ∧ rds1 0 S [h0, h1, h2, h3, h4] = rds1 k (S.drop k) [A, B, C, D, E],
    fun _ _ _ _ _ i _ => (80 - i).toNat, ⟨rfl, h0, h1, h2, h3, h4, 0, by decide, rfl, rfl, rfl, rfl, rfl, rfl, rfl⟩, ?_⟩
  rintro a b c d e i w44 ⟨rfl, A, B, C, D, E, k, hk, rfl, rfl, rfl, rfl, rfl, rfl, hv⟩
  have e1 : IntKind.i64.wrap ((k : Int) + 1) = ((k + 1 : Nat) : Int) := by rw [wrap_i64 (by omega) (by omega)]; omega
  refine ⟨fun hlt => ?_, fun hge => ?_⟩
  · have hlt := of_decide_eq_true hlt
    have hk80 : k < 80 := by omega
    have hidx := index_agg (P := Tryz.prog) (w := w44) T_80_uint32 T_uint32 80 (uv S) .i64 k (by kernel_rfl) (by kernel_rfl) (by rw [uv_len]; omega) hk80 (by kernel_rfl)
    have hget : (uv S).getD k undef = .int .u32 ((S.getD k 0).toNat : Int) := by rw [List.getD_eq_getElem?_getD, uv_get (by omega)]; rfl
    rw [hget] at hidx
    refine ⟨w44, _, hidx, ?_⟩
    rw [rds1_step (by omega)] at hv
    have etd : IntKind.i64.wrap (Int.tdiv (k : Int) 20) = ((k / 20 : Nat) : Int) := by rw [Int.tdiv_eq_ediv_of_nonneg (by omega), wrap_i64 (by omega) (by omega)]; omega
    rw [etd]
    obtain ⟨q1, q2, q3, q4⟩ := f1_eq k B C D
    refine ⟨fun f q w' => f = ((f1 k B C D).toNat : Int) ∧ q = ((k1 k).toNat : Int) ∧ w' = w44, ⟨by decide, fun h => ?_, fun h => ⟨fun h => ?_, fun h' => ⟨fun h => ?_, fun h'' => ?_⟩⟩⟩, ?_⟩
    · have h : ((k / 20 : Nat) : Int) = 0 := by simpa using h
      obtain ⟨g1, g2⟩ := q1 (by omega)
      rw [g1, g2, neg32]
      exact ⟨by simp only [u_of, u_wrap, BitVec.allOnes_xor], rfl, rfl⟩
    · have h : ((k / 20 : Nat) : Int) = 1 := by simpa using h
      obtain ⟨g1, g2⟩ := q2 (by omega) (by omega)
      rw [g1, g2]
      exact ⟨by simp only [u_of, u_wrap], rfl, rfl⟩
    · have h : ((k / 20 : Nat) : Int) = 2 := by simpa using h
      obtain ⟨g1, g2⟩ := q3 (by omega) (by omega)
      rw [g1, g2]
      exact ⟨by simp only [u_of, u_wrap], rfl, rfl⟩
    · have h : ¬ ((k / 20 : Nat) : Int) = 0 := by simpa using h
      have h' : ¬ ((k / 20 : Nat) : Int) = 1 := by simpa using h'
      have h'' : ¬ ((k / 20 : Nat) : Int) = 2 := by simpa using h''
      obtain ⟨g1, g2⟩ := q4 (by omega)
      rw [g1, g2]
      exact ⟨by simp only [u_of, u_wrap], rfl, rfl⟩
    rintro f q w50 ⟨rfl, rfl, rfl⟩
    refine (rot_spec A 5 5 (by decide) (by decide) w50).mono ?_
    rintro e w52 ⟨rfl, rfl⟩
    refine ⟨_, rfl, ?_⟩
    refine (rot_spec B 30 30 (by decide) (by decide) w52).mono ?_
    rintro e w55 ⟨rfl, rfl⟩
    refine ⟨_, rfl, ?_⟩
    rw [e1, u_add, u_add, u_add, u_add]
    exact ⟨⟨rfl, _, _, _, _, _, k + 1, by omega, rfl, rfl, rfl, rfl, rfl, rfl, hv⟩, by dsimp only; omega⟩
  · have hge := of_decide_eq_false hge
    have : k = 80 := by omega
    subst this
    rw [List.drop_eq_nil_of_le (by omega)] at hv
    have hv : rds1 0 S [h0, h1, h2, h3, h4] = [A, B, C, D, E] := hv
    rw [hv]
    have fin : adds [h0, h1, h2, h3, h4] [A, B, C, D, E] = [h0 + A, h1 + B, h2 + C, h3 + D, h4 + E] := rfl
    rw [fin]
    obtain ⟨x, hx, c0, c1, c2, c3, c4⟩ := rd oh34
    have P0 := own_put oh34 (i := 0) (by simp) (h0 + A)
    obtain ⟨y, hy, hwr, hset⟩ := P0
    rw [hx] at hy; cases hy
    refine ⟨⟨by decide, by decide⟩, x, hx, _, c0, ⟨by decide, by decide⟩, x, hx, hwr, ?_⟩
    rw [u_add]
    intro w60 hw60
    obtain ⟨o60, f60⟩ := hset w60 hw60
    obtain ⟨y, hy, c1⟩ := own_get o60 (i := 1) (by simp)
    rw [hx] at hy; cases hy
    obtain ⟨y, hy, hwr, hset⟩ := own_put o60 (i := 1) (by simp) (h1 + B)
    rw [hx] at hy; cases hy
    refine ⟨⟨by decide, by decide⟩, x, hx, _, c1, ⟨by decide, by decide⟩, x, hx, hwr, ?_⟩
    rw [show ([h0, h1, h2, h3, h4].set 0 (h0 + A)).getD 1 0 = h1 from rfl, u_add]
    intro w64 hw64
    obtain ⟨o64, f64⟩ := hset w64 hw64
    obtain ⟨y, hy, c2⟩ := own_get o64 (i := 2) (by simp)
    rw [hx] at hy; cases hy
    obtain ⟨y, hy, hwr, hset⟩ := own_put o64 (i := 2) (by simp) (h2 + C)
    rw [hx] at hy; cases hy
    refine ⟨⟨by decide, by decide⟩, x, hx, _, c2, ⟨by decide, by decide⟩, x, hx, hwr, ?_⟩
    rw [show (([h0, h1, h2, h3, h4].set 0 (h0 + A)).set 1 (h1 + B)).getD 2 0 = h2 from rfl, u_add]
    intro w68 hw68
    obtain ⟨o68, f68⟩ := hset w68 hw68
    obtain ⟨y, hy, c3⟩ := own_get o68 (i := 3) (by simp)
    rw [hx] at hy; cases hy
    obtain ⟨y, hy, hwr, hset⟩ := own_put o68 (i := 3) (by simp) (h3 + D)
    rw [hx] at hy; cases hy
    refine ⟨⟨by decide, by decide⟩, x, hx, _, c3, ⟨by decide, by decide⟩, x, hx, hwr, ?_⟩
    rw [show ((([h0, h1, h2, h3, h4].set 0 (h0 + A)).set 1 (h1 + B)).set 2 (h2 + C)).getD 3 0 = h3 from rfl, u_add]
    intro w72 hw72
    obtain ⟨o72, f72⟩ := hset w72 hw72
    obtain ⟨y, hy, c4⟩ := own_get o72 (i := 4) (by simp)
    rw [hx] at hy; cases hy
    obtain ⟨y, hy, hwr, hset⟩ := own_put o72 (i := 4) (by simp) (h4 + E)
    rw [hx] at hy; cases hy
    refine ⟨⟨by decide, by decide⟩, x, hx, _, c4, ⟨by decide, by decide⟩, x, hx, hwr, ?_⟩
    rw [show (((([h0, h1, h2, h3, h4].set 0 (h0 + A)).set 1 (h1 + B)).set 2 (h2 + C)).set 3 (h3 + D)).getD 4 0 = h4 from rfl, u_add]
    intro w76 hw76
    obtain ⟨o76, f76⟩ := hset w76 hw76
    exact ⟨rfl, o76, ((((((f5.mono (by simp)).trans' (.drew _ d34)).trans' f60).trans' f64).trans' f68).trans' f72).trans' f76⟩
end Go.Proofs.YtllegkmadljmaaaGreatDoor

/- Words in a row, stored; sums of words. No condition. -/
set_option linter.unusedVariables false
namespace Go.Proofs.YtllegkmadljmaaaGreatDoor
open Go Vc ShaM Go.Proofs

theorem one_uv (l : List W) : ∀ u ∈ uv l, u.oneCell' = true := fun u h => by
  obtain ⟨b, _, rfl⟩ := List.mem_map.1 h; rfl
theorem setRow_fr (X : Nat → Prop) (w : World) (g : Nat) (cs : Array Value) (h : X g) : Fr X w (w.setRow g cs) :=
  ⟨rfl, rfl, rfl, by simp [World.setRow], fun k _ hx => by
    simp only [World.setRow, Array.getElem?_modify]
    rw [if_neg (fun e => hx (by rw [← e]; exact h))]⟩
end Go.Proofs.YtllegkmadljmaaaGreatDoor

/- Plain facts: a sum is added up text by text. -/
set_option linter.unusedVariables false
namespace ShaM
/-- What waits for a whole block. -/
def rest (t : List UInt8) : List UInt8 := t.drop (64 * (t.length / 64))
/-- The words behind the whole blocks. -/
def stt (f : List W → List UInt8 → List W) (st : List W) (t : List UInt8) : List W := blocks f (t.length / 64) st t
theorem rest_length (t : List UInt8) : (rest t).length = t.length % 64 := by unfold rest; rw [List.length_drop]; omega
theorem blocks_add (f : List W → List UInt8 → List W) : ∀ (a b : Nat) (h : List W) (t : List UInt8), blocks f (a + b) h t = blocks f b (blocks f a h t) (t.drop (64 * a))
  | 0, b, h, t => by simp [blocks]
  | a + 1, b, h, t => by
    rw [show a + 1 + b = (a + b) + 1 by omega]
    simp only [blocks]
    rw [blocks_add f a b, List.drop_drop]
    congr 2; omega
theorem blocks_app (f : List W → List UInt8 → List W) : ∀ (n : Nat) (h : List W) (t u : List UInt8), 64 * n ≤ t.length → blocks f n h (t ++ u) = blocks f n h t
  | 0, h, t, u, _ => rfl
  | n + 1, h, t, u, hl => by
    simp only [blocks]
    rw [List.take_append_of_le_length (by omega), List.drop_append_of_le_length (by omega), blocks_app f n _ _ u (by rw [List.length_drop]; omega)]
theorem step_all (f : List W → List UInt8 → List W) (st : List W) (t x : List UInt8) :
    blocks f ((rest t ++ x).length / 64) (stt f st t) (rest t ++ x) = stt f st (t ++ x) ∧ (rest t ++ x).drop (64 * ((rest t ++ x).length / 64)) = rest (t ++ x) := by
  have h1 : rest t ++ x = (t ++ x).drop (64 * (t.length / 64)) := by unfold rest; rw [List.drop_append_of_le_length (by omega)]
  have h2 : (t ++ x).length / 64 = t.length / 64 + (rest t ++ x).length / 64 := by rw [List.length_append, List.length_append, rest_length]; omega
  constructor
  · unfold stt
    rw [h2, blocks_add, blocks_app f _ _ t x (by omega), h1]
  · show _ = (t ++ x).drop (64 * ((t ++ x).length / 64))
    rw [h2]
    generalize (rest t ++ x).length / 64 = q
    rw [h1, List.drop_drop, Nat.mul_add]
theorem blocks_step (f : List W → List UInt8 → List W) (q : Nat) (h : List W) (t : List UInt8) : blocks f (q + 1) h t = f (blocks f q h t) ((t.drop (64 * q)).take 64) := by
  rw [blocks_add f q 1]; rfl
theorem blocks_length {f : List W → List UInt8 → List W} {k : Nat} (hf : ∀ h p, h.length = k → (f h p).length = k) : ∀ (n : Nat) (h : List W) (t : List UInt8), h.length = k → (blocks f n h t).length = k
  | 0, h, t, hl => hl
  | n + 1, h, t, hl => blocks_length hf n _ _ (hf _ _ hl)
theorem adds_length : ∀ {h v : List W}, h.length = v.length → (adds h v).length = h.length
  | [], [], _ => rfl
  | a :: h, b :: v, hl => by simp only [adds, List.length_cons]; rw [adds_length (by simpa using hl)]
theorem rd1_length (i : Nat) (x : W) (v : List W) : (rd1 i x v).length = v.length := by
  unfold rd1; split <;> rfl
theorem rds1_length : ∀ (i : Nat) (l v : List W), (rds1 i l v).length = v.length
  | _, [], v => rfl
  | i, x :: r, v => by rw [rds1, rds1_length (i + 1) r, rd1_length]
theorem block1_length (h : List W) (p : List UInt8) : (block1 h p).length = h.length := by
  unfold block1; rw [adds_length (by rw [rds1_length])]
/-- The digest of a text by f. -/
def digest (f : List W → List UInt8 → List W) (st : List W) (t : List UInt8) : List UInt8 := out (stt f st (pad t))
theorem dig1_len (t : List UInt8) : (digest block1 start1 t).length = 20 := by
  have hl : (stt block1 start1 (pad t)).length = 5 := blocks_length (f := block1) (fun h p hl => by rw [block1_length]; exact hl) _ _ _ rfl
  unfold digest
  match stt block1 start1 (pad t), hl with
  | [a, b, c, d, e], _ => rfl
end ShaM

/- A sum that is added up, in memory. No condition. -/
set_option linter.unusedVariables false
namespace Go.Proofs.YtllegkmadljmaaaGreatDoor
open Go Vc ShaM Go.Proofs

/-- A sum that is added up: t has been written. -/
structure HashAt (w : World) (b lo : Nat) (sl : Sl) (T : TypeId) (f : List ShaM.W → List UInt8 → List ShaM.W) (st : List ShaM.W) (t : List UInt8) : Prop where
  lob : lo ≤ b
  blk : ∃ r : ByteArray, r.data.toList = rest t ∧ w.heap[b]? = some (.cells #[.slice sl.a sl.len sl.cap, .string r, .int .u64 (t.length : Int)] T)
  len : t.length ≤ 72057594037927936
  ne : ∀ y, sl.a = some y → y.block ≠ b
  own : (sl = ⟨none, 0, 0⟩ ∧ t = []) ∨ (Vc.Own w lo T_uint32 sl (uv (stt f st t)) ∧ sl.a ≠ none)
theorem HashAt.keep {w w2 : World} {b lo : Nat} {sl : Sl} {T : TypeId} {f : List ShaM.W → List UInt8 → List ShaM.W} {st : List ShaM.W} {t : List UInt8} (h : HashAt w b lo sl T f st t) {X : Nat → Prop} (hf : Fr X w w2) (hb : ¬ X b) (hs : ∀ y, sl.a = some y → ¬ X y.block) : HashAt w2 b lo sl T f st t := by
  obtain ⟨r, h1, h2⟩ := h.blk
  refine ⟨h.lob, ⟨r, h1, hf.keep h2 hb⟩, h.len, h.ne, ?_⟩
  rcases h.own with h3 | ⟨h3, h4⟩
  · exact .inl h3
  · exact .inr ⟨h3.keep hf hs, h4⟩
theorem HashAt.zero {w w' : World} {T : TypeId} (f : List ShaM.W → List UInt8 → List ShaM.W) (st : List ShaM.W) (h : w' = w.alloc (.cells #[.slice none 0 0, .string ⟨#[]⟩, .int .u64 0] T)) : HashAt w' w.heap.size w.heap.size ⟨none, 0, 0⟩ T f st [] :=
  ⟨Nat.le_refl _, ⟨⟨#[]⟩, rfl, by rw [h]; exact alloc_new _ _⟩, Nat.zero_le _, (fun y hy => by cases hy), .inl ⟨rfl, rfl⟩⟩
theorem since_back {w w1 : World} {sl sl' : Sl} (f : Fr (fun _ => False) w w1) (h : Since w1 sl sl') : Since w sl sl' := fun y hy => by
  rcases h y hy with h | h
  · exact .inl h
  · exact .inr (by have := f.size; omega)
end Go.Proofs.YtllegkmadljmaaaGreatDoor

/- What write and sum of the package sha do, by block1. Conditions: the texts are short enough for a slice to hold (2 to the 56th). -/
set_option linter.unusedVariables false
namespace Go.Proofs.YtllegkmadljmaaaGreatDoor
open Go Vc ShaM Go.Proofs

theorem hw1_spec {w : World} {b lo : Nat} {sl : Sl} {T : TypeId} {t : List UInt8} (hh : HashAt w b lo sl T block1 start1 t) {a : Option Addr} (c : Nat) (hst : Reads w a (uv start1)) (x : ByteArray) (hx : t.length + x.size ≤ 72057594037927936) :
    Calls Tryz.prog F_sha_hash_write #[.pointer (some ⟨b, 0, none⟩), .string x, .slice a 5 c, .func (.func F_sha_block1) #[] #[]] w fun e w' =>
      e = .returned (.tuple #[]) ∧ ∃ sl', HashAt w' b lo sl' T block1 start1 (t ++ x.data.toList) ∧ sl'.a ≠ none ∧ Fr (fun k => k = b ∨ Vc.At sl k) w w' ∧ Since w sl sl' := by
  refine vc_sha_hash_write_1_ok (R := fun v w' => v = .tuple #[] ∧ ∃ sl', HashAt w' b lo sl' T block1 start1 (t ++ x.data.toList) ∧ sl'.a ≠ none ∧ Fr (fun k => k = b ∨ Vc.At sl k) w w' ∧ Since w sl sl') ?_ (fun v w' h => ⟨by rw [h.1], h.2⟩)
  obtain ⟨r, hr, hblk⟩ := hh.blk
  have hbw := lt_blk hblk
  have hlo := hh.lob
  have hxl : x.data.toList.length = x.size := by simp
  have hstl : (stt block1 start1 t).length = 5 := blocks_length (f := block1) (fun h p hl => by rw [block1_length]; exact hl) _ _ _ rfl
  have hrs : r.size = t.length % 64 := by rw [← rest_length, ← hr]; simp
  refine ⟨fun w6 => ∃ sl1, w6.heap[b]? = some (.cells #[.slice sl1.a sl1.len sl1.cap, .string r, .int .u64 (t.length : Int)] T) ∧ Vc.Own w6 lo T_uint32 sl1 (uv (stt block1 start1 t)) ∧ (∀ y, sl1.a = some y → y.block ≠ b) ∧ Fr (fun k => k = b ∨ Vc.At sl k) w w6 ∧ Since w sl sl1, ⟨sl, by rw [cell_blk hblk]; rfl, fun hnone => ?_, fun hsome => ?_⟩, ?_⟩
  · rcases hh.own with ⟨rfl, rfl⟩ | ⟨_, hne⟩
    · obtain ⟨w3, l4, hr3, o3, f3, s3⟩ := append_all' elU32 (Vc.Own.nil w lo T_uint32) c hst (one_uv _) (by simp only [List.length_nil, uv_len]; decide) (by simp only [List.length_nil, uv_len]; decide) (by omega) (m := 5) rfl
      rw [List.nil_append] at o3
      have f3' : Fr (fun _ => False) w w3 := f3.mono fun k hk ⟨y, hy, _⟩ => by cases hy
      have hb3 := f3'.keep hblk (by simp)
      refine ⟨w3, l4, hr3, wr_blk hb3 (by simp), ?_⟩
      intro w5 hw5
      have hb5 := set_blk hb3 0 (.slice l4.a l4.len l4.cap)
      rw [← hw5] at hb5
      have f5 : Fr (· = b) w3 w5 := hw5 ▸ Fr.set (· = b) _ (a := ⟨b, 0, none⟩) _ rfl
      have hne4 : ∀ y, l4.a = some y → y.block ≠ b := fun y hy => by
        rcases s3 y hy with ⟨z, hz, _⟩ | hn
        · cases hz
        · omega
      exact ⟨l4, hb5, o3.keep f5 (fun y hy => hne4 y hy), hne4, (f3'.mono (by simp)).trans f5 (fun k hk h => .inl h), s3⟩
    · exfalso
      cases hsa : sl.a with
      | none => exact hne hsa
      | some y => rw [hsa] at hnone; cases hnone
  · rcases hh.own with ⟨rfl, rfl⟩ | ⟨ho, hne⟩
    · cases hsome
    · exact ⟨sl, hblk, ho, hh.ne, .refl _ _, .refl _ _⟩
  rintro w6 ⟨sl1, hb6, o6, hne1, f6, s6⟩
  refine ⟨_, by rw [cell_blk hb6]; rfl, wr_blk hb6 (by simp), ?_⟩
  intro w8 hw8
  have en : IntKind.u64.wrap ((t.length : Int) + IntKind.u64.wrap (x.size : Int)) = (((t ++ x.data.toList).length : Nat) : Int) := by
    rw [List.length_append, hxl, wrap_u64 (x := (x.size : Int)) (by omega) (by omega), wrap_u64 (by omega) (by omega)]; omega
  rw [en] at hw8
  have hb8 := set_blk hb6 2 (.int .u64 (((t ++ x.data.toList).length : Nat) : Int))
  rw [← hw8] at hb8
  have f8 : Fr (· = b) w6 w8 := hw8 ▸ Fr.set (· = b) _ (a := ⟨b, 2, none⟩) _ rfl
  refine ⟨r, by rw [cell_blk hb8]; rfl, by omega, ?_⟩
  have hX : ∀ k, k < w.heap.size → Vc.At sl1 k → (k = b ∨ Vc.At sl k) := fun k hk ⟨y, hy, e⟩ => by
    rcases s6 y hy with ⟨z, hz, hzb⟩ | hn
    · exact .inr ⟨z, hz, by omega⟩
    · omega
  obtain ⟨TT, hTT⟩ : ∃ TT, rest t ++ x.data.toList = TT := ⟨_, rfl⟩
  have hTl : TT.length = t.length % 64 + x.size := by rw [← hTT, List.length_append, rest_length, hxl]
  obtain ⟨q1, q2⟩ := step_all block1 start1 t x.data.toList
  rw [hTT] at q1 q2
  refine ⟨fun s w' => ∃ q : Nat, 64 * q ≤ TT.length ∧ s.data.toList = TT.drop (64 * q) ∧ w'.heap[b]? = some (.cells #[.slice sl1.a sl1.len sl1.cap, .string r, .int .u64 (((t ++ x.data.toList).length : Nat) : Int)] T) ∧ Vc.Own w' lo T_uint32 sl1 (uv (blocks block1 q (stt block1 start1 t) TT)) ∧ Fr (Vc.At sl1) w8 w',
    fun s _ => s.size, ⟨0, by omega, by rw [← hTT, ← hr]; simp, hb8, o6.keep f8 (fun y hy => hne1 y hy), .refl _ _⟩, ?_⟩
  rintro s w13 ⟨q, hq, hs, hb13, o13, f13⟩
  have hsz : s.size = TT.length - 64 * q := by
    have : s.data.toList.length = s.size := by simp
    rw [← this, hs, List.length_drop]
  refine ⟨fun hge => ?_, fun hlt => ?_⟩
  · have hge := of_decide_eq_true hge
    intro w14 d14
    refine ⟨fun w => w = w14, rfl, sl1, fun w hw => by rw [hw, d14.cell, cell_blk hb13]; rfl, ⟨by decide, by omega⟩, ?_⟩
    have hbl := blocks_length (f := block1) (fun h p hl => by rw [block1_length]; exact hl) q (stt block1 start1 t) TT hstl
    have hex : (s.extract 0 (Int.toNat 64)).data.toList = (TT.drop (64 * q)).take 64 := by
      rw [ext_toList, hs]; rfl
    refine (block1_spec (o13.drew d14) hbl (s.extract 0 (Int.toNat 64)) (by rw [ByteArray.size_extract]; show min 64 s.size - 0 = 64; omega)).mono ?_
    rintro e w19 ⟨rfl, o19, f19⟩
    rw [hex, ← blocks_step block1] at o19
    have hb19 : w19.heap[b]? = _ := f19.keep ((Fr.drew (fun _ => False) d14).keep hb13 (by simp)) (fun ⟨y, hy, e⟩ => hne1 y hy e.symm)
    refine ⟨rfl, ⟨by decide, by omega⟩, ⟨q + 1, by omega, ?_, hb19, o19, (f13.trans' (.drew _ d14)).trans' f19⟩, ?_⟩
    · rw [ext_toList, hs, List.take_of_length_le (by rw [List.length_drop, List.length_drop]; show _ ≤ s.size - 64; omega), List.drop_drop]
      congr 1
    · dsimp only
      rw [ByteArray.size_extract]
      show min s.size s.size - 64 < s.size
      omega
  · have hlt := of_decide_eq_false hlt
    have hq2 : q = TT.length / 64 := by omega
    subst hq2
    rw [q1] at o13
    rw [q2] at hs
    refine ⟨wr_blk hb13 (by simp), ?_⟩
    intro w20 hw20
    have hb20 := set_blk hb13 1 (.string s)
    rw [← hw20] at hb20
    have f20 : Fr (· = b) w13 w20 := hw20 ▸ Fr.set (· = b) _ (a := ⟨b, 1, none⟩) _ rfl
    have o20 := o13.keep f20 (fun y hy => hne1 y hy)
    have hstl2 : (stt block1 start1 (t ++ x.data.toList)).length = 5 := blocks_length (f := block1) (fun h p hl => by rw [block1_length]; exact hl) _ _ _ rfl
    refine ⟨rfl, sl1, ⟨hlo, ⟨s, hs, hb20⟩, by rw [List.length_append, hxl]; omega, hne1, .inr ⟨o20, fun hn => ?_⟩⟩, fun hn => ?_, ((f6.trans f8 (fun k hk h => .inl h)).trans f13 hX).trans f20 (fun k hk h => .inl h), s6⟩
    all_goals
      obtain ⟨y, hy, _⟩ := own_get o20 (i := 0) (by omega)
      rw [hn] at hy; cases hy
end Go.Proofs.YtllegkmadljmaaaGreatDoor

/- What is put behind a text, and a word as bytes, in plain. No condition. -/
set_option linter.unusedVariables false
namespace Go.Proofs.YtllegkmadljmaaaGreatDoor
open Go Vc ShaM Go.Proofs

/-- What is put behind the text, block1. -/
def tail1 (n : Nat) : List UInt8 := 0x80 :: List.replicate ((119 - n % 64) % 64) 0 ++ (List.range 8).map fun i => UInt8.ofNat (n * 8 / 2 ^ (56 - 8 * i))
theorem pad1_eq (t : List UInt8) : pad t = t ++ tail1 t.length := by simp [pad, tail1]
theorem outw1_eq (x : ShaM.W) : (Array.mk [Value.int .u8 (IntKind.u8.wrap (Int.fdiv (x.toNat : Int) (2 ^ min (Int.toNat 24) 32))), .int .u8 (IntKind.u8.wrap (Int.fdiv (x.toNat : Int) (2 ^ min (Int.toNat 16) 32))), .int .u8 (IntKind.u8.wrap (Int.fdiv (x.toNat : Int) (2 ^ min (Int.toNat 8) 32))), .int .u8 (IntKind.u8.wrap (x.toNat : Int))] : Array Value) = (byteV (outw x)).toArray := by
  have h : ∀ (n k : Nat), IntKind.u8.wrap (Int.fdiv (n : Int) ((k + 1 : Nat) : Int)) = (((UInt8.ofNat (n / (k + 1))).toNat : Nat) : Int) := fun n k => by
    rw [Int.fdiv_eq_ediv_of_nonneg _ (Int.natCast_nonneg _), ← Int.natCast_ediv, wrap_u8_mod, UInt8.toNat_ofNat']
    omega
  have h0 : IntKind.u8.wrap (x.toNat : Int) = (((UInt8.ofNat x.toNat).toNat : Nat) : Int) := by rw [wrap_u8_mod, UInt8.toNat_ofNat']; omega
  have p24 : (2 : Int) ^ min (Int.toNat 24) 32 = ((16777215 + 1 : Nat) : Int) := rfl
  have p16 : (2 : Int) ^ min (Int.toNat 16) 32 = ((65535 + 1 : Nat) : Int) := rfl
  have p8 : (2 : Int) ^ min (Int.toNat 8) 32 = ((255 + 1 : Nat) : Int) := rfl
  rw [p24, p16, p8, h, h, h, h0]
  rfl
end Go.Proofs.YtllegkmadljmaaaGreatDoor

/- What sum of the package sha does, by block1. Conditions: the texts are short enough for a slice to hold (2 to the 56th). -/
set_option linter.unusedVariables false
namespace Go.Proofs.YtllegkmadljmaaaGreatDoor
open Go Vc ShaM Go.Proofs

theorem hs1_spec {w : World} {b lo : Nat} {sl : Sl} {T : TypeId} {t : List UInt8} (hh : HashAt w b lo sl T block1 start1 t) {a : Option Addr} (c : Nat) (hst : Reads w a (uv start1)) (hx : t.length + 200 ≤ 72057594037927936) :
    Calls Tryz.prog F_sha_hash_sum #[.pointer (some ⟨b, 0, none⟩), .slice a 5 c, .func (.func F_sha_block1) #[] #[]] w fun e w' => e = .returned (.string ⟨(digest block1 start1 t).toArray⟩) ∧ Fr (fun _ => False) w w' := by
  refine vc_sha_hash_sum_1_ok (R := fun v w' => v = .string ⟨(digest block1 start1 t).toArray⟩ ∧ Fr (fun _ => False) w w') ?_ (fun v w' h => ⟨by rw [h.1], h.2⟩)
  obtain ⟨r, hr, hblk⟩ := hh.blk
  have hbw := lt_blk hblk
  have hrs : r.size = t.length % 64 := by rw [← rest_length, ← hr]; simp
  -- the copy's words
  have copy_ : ∀ w2, Fr (fun _ => False) w w2 → ∃ w3 l3, (Builtin.append_ #[T_S_uint32, T_S_uint32] T_S_uint32 #[.slice none 0 0, .slice sl.a sl.len sl.cap]).run Tryz.prog w2 = .ok (.slice l3.a l3.len l3.cap) w3 ∧ Fr (fun _ => False) w2 w3 ∧
      (∀ y, l3.a = some y → w2.heap.size ≤ y.block ∧ y.block < w3.heap.size) ∧ ((sl = ⟨none, 0, 0⟩ ∧ t = [] ∧ l3 = ⟨none, 0, 0⟩) ∨ (Vc.Own w3 w.heap.size T_uint32 l3 (uv (stt block1 start1 t)) ∧ sl.a ≠ none)) := fun w2 f2 => by
    have hsz := f2.size
    rcases hh.own with ⟨h1, h2⟩ | ⟨ho, hne⟩
    · obtain ⟨w3, l3, hr3, o3, f3, s3⟩ := append_all' (w := w2) elU32 (Vc.Own.nil w2 w.heap.size T_uint32) sl.cap (Reads.nil w2 sl.a) (by simp) (by decide) (by decide) hsz (m := sl.len) (by rw [h1]; rfl)
      have f3' : Fr (fun _ => False) w2 w3 := f3.mono fun k hk ⟨y, hy, _⟩ => by cases hy
      have hl3 : l3.a = none := by
        cases h : l3.a with
        | none => rfl
        | some y =>
          exfalso
          subst h1
          have hr4 := append_all' (w := w2) elU32 (Vc.Own.nil w2 w.heap.size T_uint32) 0 (Reads.nil w2 none) (by simp) (by decide) (by decide) hsz (m := 0) rfl
          have : (Builtin.append_ #[T_S_uint32, T_S_uint32] T_S_uint32 #[.slice none 0 0, .slice none 0 0]).run Tryz.prog w2 = .ok (.slice none 0 0) w2 := by
            obtain ⟨i, hi, hi2⟩ := Option.map_eq_some_iff.1 elU32.info
            simp [Builtin.append_, run_underlying elU32.sl, Go.sizeOf, typeInfo, hi, Builtin.lenOf, Builtin.firstCells]
          rw [this] at hr3
          simp only [Result.ok.injEq, Value.slice.injEq] at hr3
          rw [← hr3.1.1] at h; cases h
      have hl3' : l3 = ⟨none, 0, 0⟩ := by
        rcases o3.2 with ⟨_, q1, q2⟩ | ⟨g, cur, hg, _⟩
        · cases l3; simp_all
        · rw [hl3] at hg; cases hg
      exact ⟨w3, l3, hr3, f3', (fun y hy => by rw [hl3] at hy; cases hy), .inl ⟨h1, h2, hl3'⟩⟩
    · obtain ⟨w3, l3, hr3, o3, f3, s3⟩ := append_all' (w := w2) elU32 (Vc.Own.nil w2 w.heap.size T_uint32) sl.cap ((ho.keep f2 (by simp)).reads) (one_uv _) (by simp only [List.length_nil, uv_len, stt, blocks_length (f := block1) (fun h p hl => by rw [block1_length]; exact hl) _ _ _ (rfl : start1.length = 5)]; decide)
        (by simp only [List.length_nil, uv_len, stt, blocks_length (f := block1) (fun h p hl => by rw [block1_length]; exact hl) _ _ _ (rfl : start1.length = 5)]; decide) hsz (m := sl.len) ho.len.symm
      rw [List.nil_append] at o3
      have f3' : Fr (fun _ => False) w2 w3 := f3.mono fun k hk ⟨y, hy, _⟩ => by cases hy
      refine ⟨w3, l3, hr3, f3', fun y hy => ?_, .inr ⟨o3, hne⟩⟩
      rcases s3 y hy with ⟨z, hz, _⟩ | hn
      · cases hz
      · exact ⟨hn, (o3.blk hy).2⟩
  refine ⟨fun q w' => ∃ eb slE, q = ⟨eb, 0, none⟩ ∧ w.heap.size ≤ eb ∧ HashAt w' eb w.heap.size slE T_sha_hash block1 start1 t ∧ Fr (fun _ => False) w w', ?_, ?_⟩
  · intro w2 d2
    have f2 : Fr (fun _ => False) w w2 := .drew _ d2
    refine ⟨Fr (fun _ => False) w, f2, sl, fun w5 h5 => by rw [cell_blk (h5.keep hblk (by simp))]; rfl, r, fun w5 h5 => by rw [cell_blk (h5.keep hblk (by simp))]; rfl, _, fun w5 h5 => by rw [cell_blk (h5.keep hblk (by simp))]; rfl, ?_, ?_⟩
    · obtain ⟨w10, l11, hr10, f10, hb10, hc⟩ := copy_ w2 f2
      refine ⟨w10, l11, hr10, f2.trans' f10, ?_⟩
      intro w12 hw12
      have f12 : Fr (fun _ => False) w10 w12 := hw12 ▸ Fr.alloc _ _ _
      have hz12 := alloc_new w10 (.cells #[.slice none 0 0, .string ⟨#[]⟩, .int .u64 0] T_sha_hash)
      rw [← hw12] at hz12
      have h12 := (f2.trans' f10).trans' f12
      have hs := run_storeVar_row (P := Tryz.prog) w12 w10.heap.size T_sha_hash T_sha_hash _ #[.slice l11.a l11.len l11.cap, .string r, .int .u64 (t.length : Int)] hz12 (by kernel_rfl) rfl (by simp [Value.oneCell'])
      refine ⟨h12, _, hs, w10.heap.size, l11, rfl, (f2.trans' f10).size, ?_, ?_⟩
      · have hrow := setRow_heap w12 w10.heap.size _ #[.slice l11.a l11.len l11.cap, .string r, .int .u64 (t.length : Int)] T_sha_hash (0, 0) hz12
        have frow : Fr (· = w10.heap.size) w12 (w12.setRow w10.heap.size #[.slice l11.a l11.len l11.cap, .string r, .int .u64 (t.length : Int)]) := setRow_fr _ _ _ _ rfl
        refine ⟨(f2.trans' f10).size, ⟨r, hr, hrow⟩, hh.len, fun y hy => by have := (hb10 y hy).2; omega, ?_⟩
        rcases hc with ⟨_, h2, h3⟩ | ⟨h1, h2⟩
        · exact .inl ⟨h3, h2⟩
        · refine .inr ⟨(h1.keep f12 (by simp)).keep frow (fun y hy => by have := (hb10 y hy).2; omega), fun hn => ?_⟩
          obtain ⟨y, hy, _⟩ := own_get h1 (i := 0) (by rw [stt, blocks_length (f := block1) (fun h p hl => by rw [block1_length]; exact hl) _ _ _ (rfl : start1.length = 5)]; decide)
          rw [hn] at hy; cases hy
      · exact h12.trans (setRow_fr (· = w10.heap.size) _ _ _ rfl) (fun q hq h => by have := (f2.trans' f10).size; omega)
    · intro w14 hw14
      have f14 : Fr (fun _ => False) w2 w14 := hw14 ▸ Fr.alloc _ _ _
      have hz14 := alloc_new w2 (.cells #[.slice none 0 0, .string ⟨#[]⟩, .int .u64 0] T_sha_hash)
      rw [← hw14] at hz14
      have h14 := f2.trans' f14
      obtain ⟨w15, l16, hr15, f15, hb15, hc⟩ := copy_ w14 h14
      have hz15 := f15.keep hz14 (by simp)
      have hs := run_storeVar_row (P := Tryz.prog) w15 w2.heap.size T_sha_hash T_sha_hash _ #[.slice l16.a l16.len l16.cap, .string r, .int .u64 (t.length : Int)] hz15 (by kernel_rfl) rfl (by simp [Value.oneCell'])
      have h15 := h14.trans' f15
      have hlt14 := lt_blk hz14
      refine ⟨h14, w15, l16, hr15, h15, _, hs, w2.heap.size, l16, rfl, f2.size, ?_, ?_⟩
      · have hrow := setRow_heap w15 w2.heap.size _ #[.slice l16.a l16.len l16.cap, .string r, .int .u64 (t.length : Int)] T_sha_hash (0, 0) hz15
        have frow : Fr (· = w2.heap.size) w15 (w15.setRow w2.heap.size #[.slice l16.a l16.len l16.cap, .string r, .int .u64 (t.length : Int)]) := setRow_fr _ _ _ _ rfl
        refine ⟨f2.size, ⟨r, hr, hrow⟩, hh.len, fun y hy => by have := (hb15 y hy).1; omega, ?_⟩
        rcases hc with ⟨_, h2, h3⟩ | ⟨h1, h2⟩
        · exact .inl ⟨h3, h2⟩
        · refine .inr ⟨h1.keep frow (fun y hy => by have := (hb15 y hy).1; omega), fun hn => ?_⟩
          obtain ⟨y, hy, _⟩ := own_get h1 (i := 0) (by rw [stt, blocks_length (f := block1) (fun h p hl => by rw [block1_length]; exact hl) _ _ _ (rfl : start1.length = 5)]; decide)
          rw [hn] at hy; cases hy
      · exact h15.trans (setRow_fr (· = w2.heap.size) _ _ _ rfl) (fun q hq h => by have := f2.size; omega)
  rintro q w19 ⟨eb, slE, rfl, heb, hE, f19⟩
  have hb19 := f19.keep hblk (by simp)
  refine ⟨fun w' => ∃ slE, HashAt w' eb w.heap.size slE T_sha_hash block1 start1 t ∧ Fr (fun _ => False) w w', ⟨sl, by rw [cell_blk hb19]; rfl, fun hnone => ?_, fun _ => ⟨slE, hE, f19⟩⟩, ?_⟩
  · rcases hh.own with ⟨h1, h2⟩ | ⟨_, hne⟩
    · obtain ⟨r2, hr2, hblk2⟩ := hE.blk
      refine ⟨wr_blk hblk2 (by simp), ?_⟩
      intro w22 hw22
      have hb22 := set_blk hblk2 0 (.slice none 0 0)
      rw [← hw22] at hb22
      have f22 : Fr (· = eb) w19 w22 := hw22 ▸ Fr.set (· = eb) _ (a := ⟨eb, 0, none⟩) _ rfl
      exact ⟨⟨none, 0, 0⟩, ⟨heb, ⟨r2, hr2, hb22⟩, hh.len, (fun y hy => by cases hy), .inl ⟨rfl, h2⟩⟩, f19.trans f22 (fun q hq h => by omega)⟩
    · exfalso
      cases hsa : sl.a with
      | none => exact hne hsa
      | some y => rw [hsa] at hnone; cases hnone
  clear hE f19 hb19 slE
  rintro w23 ⟨slE, hE, f23⟩
  refine ⟨fun s w' => w' = w23 ∧ ∃ j : Nat, j ≤ (119 - t.length % 64) % 64 ∧ s.data.toList = 0x80 :: List.replicate j 0, fun s _ => 200 - s.size, ⟨rfl, 0, Nat.zero_le _, rfl⟩, ?_⟩
  rintro s26 w27 ⟨rfl, j, hj, hs26⟩
  have hb27 := f23.keep hblk (by simp)
  have hs26l : s26.size = j + 1 := by
    have : s26.data.toList.length = s26.size := by simp
    rw [← this, hs26]; simp
  have htl := hh.len
  have e0 : Int.tmod (IntKind.i64.wrap ((r.size : Int) + (s26.size : Int))) 64 = ((((t.length % 64) + j + 1) % 64 : Nat) : Int) := by
    rw [wrap_i64 (by omega) (by omega), Int.tmod_eq_emod_of_nonneg (by omega)]; omega
  have e00 : ((ByteArray.mk (Array.mk [0])).size : Nat) = 1 := rfl
  refine ⟨r, by rw [cell_blk hb27]; rfl, by decide, ?_⟩
  rw [e0]
  refine ⟨fun hne => ?_, fun heq => ?_⟩
  · have hne : ¬ ((t.length % 64) + j + 1) % 64 = 56 := fun h => by rw [h] at hne; exact absurd hne (by decide)
    have hsz : (s26 ++ ByteArray.mk (Array.mk [0])).size = j + 2 := by rw [ByteArray.size_append, hs26l]; rfl
    refine ⟨by omega, ⟨rfl, j + 1, by omega, ?_⟩, ?_⟩
    · rw [ByteArray.data_append, Array.toList_append, hs26, List.replicate_succ']; rfl
    · dsimp only; omega
  have heq : ((t.length % 64) + j + 1) % 64 = 56 := by
    by_cases h : ((t.length % 64) + j + 1) % 64 = 56
    · exact h
    · exfalso
      have : ((((t.length % 64 + j + 1) % 64 : Nat) : Int) != 56) = true := by simp; omega
      rw [this] at heq; cases heq
  have hjz : j = (119 - t.length % 64) % 64 := by omega
  obtain ⟨bs, hbs⟩ : ∃ bs : List UInt8, (List.range 8).map (fun i => UInt8.ofNat (t.length * 8 / 2 ^ (56 - 8 * i))) = bs := ⟨_, rfl⟩
  have hbl : bs.length = 8 := by rw [← hbs]; simp
  refine ⟨fun l i w' => ∃ m : Nat, m ≤ 8 ∧ i = 56 - 8 * (m : Int) ∧ Vc.Own w' w27.heap.size T_uint8 l (byteV (bs.take m)) ∧ Fr (fun _ => False) w27 w', fun _ i _ => (i + 8).toNat, ⟨0, by decide, rfl, Vc.Own.nil _ _ _, .refl _ _⟩, ?_⟩
  rintro l31 i w33 ⟨m, hm, rfl, o33, f33⟩
  refine ⟨fun hge => ?_, fun hlt => ?_⟩
  · have hge := of_decide_eq_true hge
    have hb33 := f33.keep hb27 (by simp)
    refine ⟨_, by rw [cell_blk hb33]; rfl, hge, ?_⟩
    have hm8 : m < 8 := by omega
    have hg : bs[m]'(by omega) = UInt8.ofNat (t.length * 8 / 2 ^ (56 - 8 * m)) := by
      have h1 : bs[m]? = some (UInt8.ofNat (t.length * 8 / 2 ^ (56 - 8 * m))) := by
        rw [← hbs, List.getElem?_map, List.getElem?_range hm8]; rfl
      exact (List.getElem?_eq_some_iff.1 h1).2
    have htk : bs.take (m + 1) = bs.take m ++ [UInt8.ofNat (t.length * 8 / 2 ^ (56 - 8 * m))] := by rw [List.take_succ_eq_append_getElem (by omega), hg]
    have ev : IntKind.u8.wrap (Int.fdiv (IntKind.u64.wrap ((t.length : Int) * 8)) (2 ^ min (Int.toNat (56 - 8 * (m : Int))) 64)) = (((UInt8.ofNat (t.length * 8 / 2 ^ (56 - 8 * m))).toNat : Nat) : Int) := by
      have h1 : min (Int.toNat (56 - 8 * (m : Int))) 64 = 56 - 8 * m := by omega
      have hp : (2 : Int) ^ (56 - 8 * m) = ((2 ^ (56 - 8 * m) : Nat) : Int) := by push_cast; rfl
      have h2 : IntKind.u64.wrap ((t.length : Int) * 8) = ((t.length * 8 : Nat) : Int) := by rw [wrap_u64 (by omega) (by omega)]; omega
      rw [h1, hp, h2, Int.fdiv_eq_ediv_of_nonneg _ (Int.natCast_nonneg _), ← Int.natCast_ediv, wrap_u8_mod, UInt8.toNat_ofNat']
      omega
    rw [ev]
    intro w35 hw35
    have hl : (byteV (bs.take m)).length = m := by rw [List.length_map, List.length_take, hbl]; omega
    obtain ⟨w36, l37, hr36, o36, f36⟩ := append_one elByte o33 (v := .int .u8 (((UInt8.ofNat (t.length * 8 / 2 ^ (56 - 8 * m))).toNat : Nat) : Int)) rfl (by rw [hl]; unfold maxLen; omega) (by rw [hl]; omega) f33.size hw35
    have e8 : IntKind.i64.wrap (56 - 8 * (m : Int) - 8) = 56 - 8 * ((m + 1 : Nat) : Int) := by rw [wrap_i64 (by omega) (by omega)]; omega
    rw [e8]
    refine ⟨w36, l37, hr36, ⟨m + 1, by omega, rfl, ?_, f33.trans f36 (fun q hq ⟨y, hy, e⟩ => by have := (o33.blk hy).1; omega)⟩, by dsimp only; omega⟩
    rw [htk, byteV, List.map_append]; exact o36
  have hlt := of_decide_eq_false hlt
  have : m = 8 := by omega
  subst this
  rw [List.take_of_length_le (by omega)] at o33
  have hlb : bs.length = l31.len := by rw [o33.len, List.length_map]
  refine ⟨w33, _, bytes_str elByte.sl (by kernel_rfl) (by kernel_rfl) _ o33.reads hlb, ?_⟩
  have hbsz : (ByteArray.mk bs.toArray).size = 8 := by show bs.toArray.size = 8; rw [List.size_toArray, hbl]
  refine ⟨by omega, ?_⟩
  have hE33 := hE.keep f33 (by simp) (by simp)
  have hX : (s26 ++ ByteArray.mk bs.toArray).data.toList = tail1 t.length := by
    rw [ByteArray.data_append, Array.toList_append, hs26, hjz, tail1, hbs]
  have hXs : (s26 ++ ByteArray.mk bs.toArray).size ≤ 80 := by rw [ByteArray.size_append]; omega
  refine (hw1_spec hE33 c ((hst.keep f23 (by simp)).keep f33 (by simp)) (s26 ++ ByteArray.mk bs.toArray) (by omega)).mono ?_
  rintro e w41 ⟨rfl, sl', hE41, hne41, f41, s41⟩
  rw [hX, ← pad1_eq] at hE41
  have hebl : w.heap.size ≤ eb := heb
  have fE : Fr (fun _ => False) w w41 := (f23.trans' f33).trans f41 (fun q hq h => by
    rcases h with h | ⟨y, hy, h⟩
    · omega
    · rcases hE33.own with ⟨h1, _⟩ | ⟨h1, _⟩
      · rw [h1] at hy; cases hy
      · have := (h1.blk hy).1; omega)
  obtain ⟨r41, hr41, hblk41⟩ := hE41.blk
  have o41 : Vc.Own w41 w.heap.size T_uint32 sl' (uv (stt block1 start1 (pad t))) := by
    rcases hE41.own with ⟨h1, h2⟩ | ⟨h1, _⟩
    · rw [h1] at hne41; exact absurd rfl hne41
    · exact h1
  have hWl : (stt block1 start1 (pad t)).length = 5 := blocks_length (f := block1) (fun h p hl => by rw [block1_length]; exact hl) _ _ _ rfl
  refine ⟨rfl, sl', by rw [cell_blk hblk41]; rfl, ?_⟩
  have hsl' : sl'.len = 5 := by rw [o41.len, uv_len, hWl]
  have hdg : digest block1 start1 t = out (stt block1 start1 (pad t)) := rfl
  rw [hdg]
  generalize stt block1 start1 (pad t) = WS at o41 hWl
  refine ⟨fun l i w' => ∃ m : Nat, m ≤ 5 ∧ i = (m : Int) ∧ Vc.Own w' w41.heap.size T_uint8 l (byteV (out (WS.take m))) ∧ Fr (fun _ => False) w41 w', fun _ i _ => ((5 : Int) - i).toNat, ⟨0, by decide, rfl, Vc.Own.nil _ _ _, .refl _ _⟩, ?_⟩
  rintro l45 i w47 ⟨m, hm, rfl, o47, f47⟩
  have houtl : ∀ l : List ShaM.W, (out l).length = 4 * l.length := fun l => by
    induction l with
    | nil => rfl
    | cons x l ih => 
      show (outw x ++ out l).length = _
      rw [List.length_append, ih, List.length_cons]; simp only [outw, List.length_cons, List.length_nil]; omega
  refine ⟨fun hlt => ?_, fun hge => ?_⟩
  · have hlt := of_decide_eq_true hlt
    have hml : m < WS.length := by omega
    obtain ⟨y, hy, hc⟩ := own_get (o41.keep f47 (by simp)) (i := m) hml
    have e1 : IntKind.i64.wrap ((m : Int) + 1) = ((m + 1 : Nat) : Int) := by rw [wrap_i64 (by omega) (by omega)]; omega
    refine ⟨⟨by omega, by omega⟩, y, hy, _, by rw [Int.toNat_natCast, Nat.mul_one]; exact hc, by decide, by decide, by decide, ?_⟩
    rw [outw1_eq, e1]
    have hg : WS.getD m 0 = WS[m] := by rw [List.getD_eq_getElem?_getD, List.getElem?_eq_getElem hml]; rfl
    rw [hg]
    have htk : out (WS.take (m + 1)) = out (WS.take m) ++ outw WS[m] := by
      rw [List.take_succ_eq_append_getElem hml, out, List.flatMap_append]; simp [out]
    generalize WS[m] = x at htk
    intro w50 hw50
    have f50 : Fr (fun _ => False) w47 w50 := hw50 ▸ Fr.alloc _ _ _
    have hz50 := alloc_new w47 (.cells (byteV (outw x)).toArray T_uint8)
    rw [← hw50] at hz50
    have hrd : Reads w50 (some ⟨w47.heap.size, 0, none⟩) (byteV (outw x)) := fun i v hv => by
      refine ⟨_, rfl, ?_⟩
      rw [add_lit, cell_blk hz50, Nat.zero_add, ← hv]; simp
    have hl : (byteV (out (WS.take m))).length = 4 * m := by rw [List.length_map, houtl, List.length_take]; omega
    obtain ⟨w51, l52, hr51, o51, f51⟩ := append_all elByte (o47.keep f50 (by simp)) 4 hrd (byteV_one _) (by rw [hl]; simp [outw, maxLen]; omega) (by rw [hl]; simp [outw]; omega) (f47.trans' f50).size (m := 4) (by simp [outw])
    refine ⟨w51, l52, hr51, ⟨m + 1, by omega, rfl, ?_, (f47.trans' f50).trans f51 (fun q hq ⟨y, hy, e⟩ => by have := (o47.blk hy).1; omega)⟩, by dsimp only; omega⟩
    rw [htk, byteV, List.map_append]; exact o51
  · have hge := of_decide_eq_false hge
    have : m = 5 := by omega
    subst this
    rw [List.take_of_length_le (by omega)] at o47
    exact ⟨w47, _, bytes_str elByte.sl (by kernel_rfl) (by kernel_rfl) _ o47.reads (by rw [o47.len, List.length_map]), rfl, fE.trans' f47⟩
end Go.Proofs.YtllegkmadljmaaaGreatDoor

/- Hash1 and Sum1 of the package sha. Conditions: the texts are short enough for a slice to hold (2 to the 56th). -/
set_option linter.unusedVariables false
namespace Go.Proofs.YtllegkmadljmaaaGreatDoor
open Go Vc ShaM Go.Proofs

theorem start1_spec (w : World) : Calls Tryz.prog F_sha_start1 #[] w fun e w' => e = .returned (.slice (some ⟨w.heap.size, 0, none⟩) 5 5) ∧ Vc.Own w' w.heap.size T_uint32 ⟨some ⟨w.heap.size, 0, none⟩, 5, 5⟩ (uv start1) ∧ Fr (fun _ => False) w w' := by
  refine vc_sha_start1_ok (R := fun v w' => v = .slice (some ⟨w.heap.size, 0, none⟩) 5 5 ∧ Vc.Own w' w.heap.size T_uint32 ⟨some ⟨w.heap.size, 0, none⟩, 5, 5⟩ (uv start1) ∧ Fr (fun _ => False) w w') ?_ (fun v w' h => ⟨by rw [h.1], h.2⟩)
  intro w1 hw1
  exact ⟨rfl, ⟨rfl, .inr ⟨w.heap.size, _, rfl, Nat.le_refl _, hw1 ▸ alloc_new _ _, Nat.le_refl _, by simp [maxLen], rfl, rfl⟩⟩, hw1 ▸ Fr.alloc _ _ _⟩
section
variable {w : World} {b lo : Nat} {sl : Sl} {T : TypeId} {t : List UInt8}
theorem h1write_spec (hh : HashAt w b lo sl T block1 start1 t) (x : ByteArray) (hx : t.length + x.size ≤ 72057594037927936) :
    Calls Tryz.prog F_sha_Hash1_Write #[.pointer (some ⟨b, 0, none⟩), .string x] w fun e w' =>
      e = .returned (.tuple #[]) ∧ ∃ sl', HashAt w' b lo sl' T block1 start1 (t ++ x.data.toList) ∧ Fr (fun k => k = b ∨ Vc.At sl k) w w' ∧ Since w sl sl' := by
  refine vc_sha_Hash1_Write_ok (R := fun v w' => v = .tuple #[] ∧ ∃ sl', HashAt w' b lo sl' T block1 start1 (t ++ x.data.toList) ∧ Fr (fun k => k = b ∨ Vc.At sl k) w w' ∧ Since w sl sl') ?_ (fun v w' h => ⟨by rw [h.1], h.2⟩)
  intro w1 d1
  refine ⟨fun _ => True, trivial, (start1_spec w1).mono ?_⟩
  rintro e w4 ⟨rfl, o4, f4⟩
  have f14 : Fr (fun _ => False) w w4 := (Fr.drew _ d1).trans' f4
  refine ⟨⟨_, 5, 5⟩, rfl, trivial, ?_⟩
  refine (hw1_spec (hh.keep f14 (by simp) (by simp)) 5 o4.reads x hx).mono ?_
  rintro e w7 ⟨rfl, sl', h7, _, f7, s7⟩
  exact ⟨rfl, rfl, sl', h7, (f14.mono (by simp)).trans f7 (fun k _ h => h), since_back f14 s7⟩
theorem h1sum_spec (hh : HashAt w b lo sl T block1 start1 t) (hx : t.length + 200 ≤ 72057594037927936) :
    Calls Tryz.prog F_sha_Hash1_Sum #[.pointer (some ⟨b, 0, none⟩)] w fun e w' => e = .returned (.string ⟨(digest block1 start1 t).toArray⟩) ∧ Fr (fun _ => False) w w' := by
  refine vc_sha_Hash1_Sum_ok (R := fun v w' => v = .string ⟨(digest block1 start1 t).toArray⟩ ∧ Fr (fun _ => False) w w') ?_ (fun v w' h => ⟨by rw [h.1], h.2⟩)
  intro w1 d1
  refine ⟨fun _ => True, trivial, (start1_spec w1).mono ?_⟩
  rintro e w4 ⟨rfl, o4, f4⟩
  have f14 : Fr (fun _ => False) w w4 := (Fr.drew _ d1).trans' f4
  refine ⟨⟨_, 5, 5⟩, rfl, trivial, ?_⟩
  refine (hs1_spec (hh.keep f14 (by simp) (by simp)) 5 o4.reads hx).mono ?_
  rintro e w7 ⟨rfl, f7⟩
  exact ⟨_, rfl, trivial, rfl, f14.trans' f7⟩
end
theorem sum1_spec (x : ByteArray) (hx : x.size + 200 ≤ 72057594037927936) (w : World) : Calls Tryz.prog F_sha_Sum1 #[.string x] w fun e w' => e = .returned (.string ⟨(digest block1 start1 x.data.toList).toArray⟩) ∧ Fr (fun _ => False) w w' := by
  refine vc_sha_Sum1_ok (R := fun v w' => v = .string ⟨(digest block1 start1 x.data.toList).toArray⟩ ∧ Fr (fun _ => False) w w') ?_ (fun v w' h => ⟨by rw [h.1], h.2⟩)
  intro w1 hw1
  have f1 : Fr (fun _ => False) w w1 := hw1 ▸ Fr.alloc _ _ _
  have h1 := HashAt.zero (T := T_sha_Hash1) block1 start1 hw1
  refine (h1write_spec h1 x (by simp; omega)).mono ?_
  rintro e w3 ⟨rfl, sl', h3, f3, _⟩
  refine ⟨rfl, (h1sum_spec h3 (by simp; omega)).mono ?_⟩
  rintro e w5 ⟨rfl, f5⟩
  refine ⟨_, rfl, rfl, (f1.trans f3 (fun k hk h => ?_)).trans' f5⟩
  rcases h with h | ⟨y, hy, _⟩
  · omega
  · cases hy
end Go.Proofs.YtllegkmadljmaaaGreatDoor

/- A digit of a byte. No condition. -/
set_option linter.unusedVariables false
namespace Go.Proofs.YtllegkmadljmaaaGreatDoor
open Go Vc HexM Go.Proofs

theorem hexdig_at (n : Nat) (h : n < 16) : byteAt ⟨#[48, 49, 50, 51, 52, 53, 54, 55, 56, 57, 97, 98, 99, 100, 101, 102]⟩ (n : Int) = (hx n : Nat) := by
  rw [byteAt_nat]
  have ha : ((List.range 16).all fun n => byt ⟨#[48, 49, 50, 51, 52, 53, 54, 55, 56, 57, 97, 98, 99, 100, 101, 102]⟩ n == hx n) = true := by decide +kernel
  have := List.all_eq_true.1 ha n (List.mem_range.2 h)
  rw [eq_of_beq this]
theorem and15 (n : Nat) (h : n < 256) : n &&& 15 = n % 16 := Nat.and_two_pow_sub_one_eq_mod n 4
end Go.Proofs.YtllegkmadljmaaaGreatDoor

/- Formulas of 1 Go functions of this seat (written by a program of the author's, vcgen.py), and that each is enough for the call. No condition. -/
set_option linter.unusedVariables false
namespace Go.Proofs.YtllegkmadljmaaaGreatDoor
open Go Vc Go.Proofs
set_option maxRecDepth 100000
def vc_sums_Hex (x0 : ByteArray) (w : World) (R : Value → World → Prop) : Prop :=
 ∃ I1 : Sl → Int → World → Prop, ∃ I2 : Sl → Int → World → Nat, (I1 (Sl.mk none 0 0) 0 w ∧
 ∀ l3 : Sl,
 ∀ n4 : Int,
 ∀ w5 : World,
 (I1 l3 n4 w5 →
 (((decide (n4 < (↑(ByteArray.size x0) : Int)) = true →
 ∀ w6 : World,
 (Drew w5 w6 →
 ∃ I7 : World → Prop, (I7 w6 ∧
 ((0 ≤ n4 ∧
 n4 < (↑(ByteArray.size x0) : Int)) ∧
 ((0 : Int) ≤ (4 : Int) ∧
 ((0 ≤ Int.fdiv (byteAt x0 n4) (2 ^ min (Int.toNat 4) 8) ∧
 Int.fdiv (byteAt x0 n4) (2 ^ min (Int.toNat 4) 8) < (↑(ByteArray.size (ByteArray.mk (Array.mk [48, 49, 50, 51, 52, 53, 54, 55, 56, 57, 97, 98, 99, 100, 101, 102]))) : Int)) ∧
 ((0 ≤ n4 ∧
 n4 < (↑(ByteArray.size x0) : Int)) ∧
 ((0 ≤ IntKind.wrap .u8 (↑(BitVec.toNat (BitVec.ofInt 8 (byteAt x0 n4) &&& BitVec.ofInt 8 15)) : Int) ∧
 IntKind.wrap .u8 (↑(BitVec.toNat (BitVec.ofInt 8 (byteAt x0 n4) &&& BitVec.ofInt 8 15)) : Int) < (↑(ByteArray.size (ByteArray.mk (Array.mk [48, 49, 50, 51, 52, 53, 54, 55, 56, 57, 97, 98, 99, 100, 101, 102]))) : Int)) ∧
 ∀ w8 : World,
 (w8 = World.alloc w6 (Obj.cells (Array.mk [Value.int .u8 (byteAt (ByteArray.mk (Array.mk [48, 49, 50, 51, 52, 53, 54, 55, 56, 57, 97, 98, 99, 100, 101, 102])) (Int.fdiv (byteAt x0 n4) (2 ^ min (Int.toNat 4) 8))), Value.int .u8 (byteAt (ByteArray.mk (Array.mk [48, 49, 50, 51, 52, 53, 54, 55, 56, 57, 97, 98, 99, 100, 101, 102])) (IntKind.wrap .u8 (↑(BitVec.toNat (BitVec.ofInt 8 (byteAt x0 n4) &&& BitVec.ofInt 8 15)) : Int)))]) 5) →
 (I7 w8 ∧
 ∃ w9 : World, ∃ l10 : Sl, (Sem.run Tryz.prog (Builtin.append_ (Array.mk [108, 108]) 108 (Array.mk [Value.slice l3.1 l3.2 l3.3, Value.slice (some (Addr.mk (Array.size (World.heap w6)) 0 none)) 2 2])) w8 = Result.ok (Value.slice l10.1 l10.2 l10.3) w9 ∧
 (I7 w9 ∧
 (I1 (Sl.mk l10.1 l10.2 l10.3) (IntKind.wrap .i64 (n4 + 1)) w9 ∧
 I2 (Sl.mk l10.1 l10.2 l10.3) (IntKind.wrap .i64 (n4 + 1)) w9 < I2 l3 n4 w5)))))))))))))) ∧
 (decide (n4 < (↑(ByteArray.size x0) : Int)) = false →
 ∃ w11 : World, ∃ s12 : ByteArray, (Sem.run Tryz.prog (convert 108 9 (Value.slice l3.1 l3.2 l3.3)) w5 = Result.ok (Value.string s12) w11 ∧
 R (Value.string s12) w11)))))
theorem vc_sums_Hex_ok {x0 : ByteArray} {w : World} {R : Value → World → Prop} {R' : Ending → World → Prop} (h : vc_sums_Hex x0 w R) (hR : ∀ v w', R v w' → R' (.returned v) w') :
    Calls Tryz.prog 29 #[.string x0] w R' :=
  calls_of_body (vs := [(.string x0, false)]) (ty := ty) (ann := ⟨[], [(3, [(3, .slice), (7, .int .i64)])], [(5, .held [(0, true), (1, true), (2, true), (3, true), (4, true), (5, true), (6, true), (7, true), (8, true), (9, true), (10, true), (11, false), (12, false), (13, true)])], []⟩) (c := Tryz.f29.body.getD .skip) (by kernel_rfl) Tryz.func29 (by kernel_rfl) (by kernel_rfl) (Eq.mp (by kernel_rfl) h) hR
end Go.Proofs.YtllegkmadljmaaaGreatDoor

/- Hex. Conditions: as named. -/
set_option linter.unusedVariables false
namespace Go.Proofs.YtllegkmadljmaaaGreatDoor
open Go Vc HexM Go.Proofs

/-- 'Hex'. -/
theorem hex_spec (s : ByteArray) (hs : s.size ≤ 1000000000) (w : World) : Calls Tryz.prog F_sums_Hex #[.string s] w fun e w' => e = .returned (.string ⟨(hexL s.data.toList).toArray⟩) ∧ Fr (fun _ => False) w w' := by
  refine vc_sums_Hex_ok (R := fun v w' => v = .string ⟨(hexL s.data.toList).toArray⟩ ∧ Fr (fun _ => False) w w') ?_ (fun v w' h => ⟨by rw [h.1], h.2⟩)
  refine ⟨fun l n w' => ∃ k : Nat, n = k ∧ k ≤ s.size ∧ Vc.Own w' w.heap.size T_uint8 l (byteV (hexL (s.data.toList.take k))) ∧ Fr (fun _ => False) w w', fun _ n _ => s.size - n.toNat, ⟨0, rfl, Nat.zero_le _, .nil _ _ _, .refl _ _⟩, ?_⟩
  rintro l3 n w5 ⟨k, rfl, hk, ho, hf⟩
  have e1 : IntKind.i64.wrap ((k : Int) + 1) = ((k + 1 : Nat) : Int) := by rw [wrap_i64 (by omega) (by omega)]; omega
  rw [e1]
  have hln : (byteV (hexL (s.data.toList.take k))).length = 2 * k := by rw [bv_len, hexL_length, List.length_take, bs_len]; omega
  refine ⟨fun hlt w6 d6 => ?_, fun hge => ?_⟩
  · have hlt := of_decide_eq_true hlt
    have hb := byt_lt s k
    rw [byteAt_nat]
    have e2 : Int.fdiv ((byt s k : Nat) : Int) (2 ^ min (Int.toNat 4) 8) = ((byt s k / 16 : Nat) : Int) := by
      rw [show (2 : Int) ^ min (Int.toNat 4) 8 = ((16 : Nat) : Int) from rfl, Int.fdiv_eq_ediv_of_nonneg _ (Int.natCast_nonneg _), ← Int.natCast_ediv]
    have e3 : IntKind.u8.wrap (((BitVec.ofInt 8 ((byt s k : Nat) : Int) &&& BitVec.ofInt 8 15).toNat : Nat) : Int) = ((byt s k % 16 : Nat) : Int) := by
      rw [show (15 : Int) = ((15 : Nat) : Int) from rfl, and_nat 8 _ _ (by omega) (by decide), and15 _ hb, wrap_u8 (by omega) (by omega)]
    rw [e2, e3, hexdig_at _ (by omega), hexdig_at _ (by omega)]
    refine ⟨fun _ => True, trivial, ⟨by omega, by omega⟩, by decide, ⟨by omega, ?_⟩, ⟨by omega, by omega⟩, ⟨by omega, ?_⟩, fun w8 h8 => ⟨trivial, ?_⟩⟩
    · rw [show ByteArray.size ⟨#[48, 49, 50, 51, 52, 53, 54, 55, 56, 57, 97, 98, 99, 100, 101, 102]⟩ = 16 from rfl]; omega
    · rw [show ByteArray.size ⟨#[48, 49, 50, 51, 52, 53, 54, 55, 56, 57, 97, 98, 99, 100, 101, 102]⟩ = 16 from rfl]; omega
    obtain ⟨w9, l10, hr, ho9, hf9, _⟩ := append_new elByteH (ho.drew d6) (news := [.int .u8 (hx (byt s k / 16) : Nat), .int .u8 (hx (byt s k % 16) : Nat)]) (by simp [Value.oneCell']) (by rw [hln]; simp only [List.length_cons, List.length_nil]; unfold maxLen; omega) (by rw [hln]; simp only [List.length_cons, List.length_nil]; omega) (Nat.le_trans hf.size (by rw [d6.heap]; exact Nat.le_refl _)) h8 rfl
    refine ⟨w9, l10, hr, trivial, ⟨k + 1, rfl, by omega, ?_, ?_⟩, by dsimp only; omega⟩
    · rw [bs_take (by omega), hexL_snoc, toNat_of _ hb]
      have h1 := hx_lt (n := byt s k / 16) (by omega)
      have h2 := hx_lt (n := byt s k % 16) (by omega)
      have : byteV (hexL (s.data.toList.take k)) ++ [.int .u8 (hx (byt s k / 16) : Nat), .int .u8 (hx (byt s k % 16) : Nat)] = byteV (hexL (s.data.toList.take k) ++ [UInt8.ofNat (hx (byt s k / 16)), UInt8.ofNat (hx (byt s k % 16))]) := by
        simp [byteV]; omega
      rw [← this]; exact ho9
    · exact (hf.trans' (.drew _ d6)).trans hf9 fun q hq ⟨y, hy, e⟩ => by
        have := (ho.blk hy).1; omega
  · have hge := of_decide_eq_false hge
    have : k = s.size := by omega
    subst this
    rw [bs_all] at ho
    exact ⟨_, _, bytes_str (e := T_uint8) (by kernel_rfl) (by kernel_rfl) (by kernel_rfl) l3.cap ho.reads (by rw [ho.len, bv_len]), rfl, hf⟩
end Go.Proofs.YtllegkmadljmaaaGreatDoor

/- Structures of the kit over its shelf, at this seat (written by a program of the author's, laysn.py). No condition. -/
namespace Go.Proofs.YtllegkmadljmaaaGreatDoor
open Go Go.Shelf Go.Proofs
def lays171_ren : Go.Shelf.Ren := ⟨fun | 129 => 122 | 171 => 54 | 243 => 88 | 246 => 134 | 283 => 170 | 284 => 171 | 285 => 172 | 286 => 173 | 317 => 191 | 318 => 192 | 319 => 193 | 320 => 194 | 337 => 201 | 338 => 202 | n => n, fun | 0 => 0 | 171 => 240 | 173 => 242 | 2 => 2 | 20 => 20 | 212 => 264 | 213 => 265 | 232 => 292 | 233 => 293 | 3 => 3 | 37 => 108 | 4 => 4 | 46 => 109 | 5 => 5 | 51 => 128 | 53 => 111 | 9 => 9 | n => n, fun | 17 => 3 | 18 => 6 | 19 => 7 | n => n⟩
theorem lays171 : Go.Proofs.Lays.n171 Tryz.prog lays171_ren := {
  mixed := by kernel_rfl,
  f129 := Tryz.func122.trans (congrArg some (by kernel_rfl)),
  f171 := Tryz.func54.trans (congrArg some (by kernel_rfl)),
  f243 := Tryz.func88.trans (congrArg some (by kernel_rfl)),
  f246 := Tryz.func134.trans (congrArg some (by kernel_rfl)),
  f283 := Tryz.func170.trans (congrArg some (by kernel_rfl)),
  f284 := Tryz.func171.trans (congrArg some (by kernel_rfl)),
  f285 := Tryz.func172.trans (congrArg some (by kernel_rfl)),
  f286 := Tryz.func173.trans (congrArg some (by kernel_rfl)),
  f317 := Tryz.func191.trans (congrArg some (by kernel_rfl)),
  f318 := Tryz.func192.trans (congrArg some (by kernel_rfl)),
  f319 := Tryz.func193.trans (congrArg some (by kernel_rfl)),
  f320 := Tryz.func194.trans (congrArg some (by kernel_rfl)),
  f337 := Tryz.func201.trans (congrArg some (by kernel_rfl)),
  f338 := Tryz.func202.trans (congrArg some (by kernel_rfl)),
  t0 := Tryz.underlying0,
  a0 := Tryz.isAgg0,
  z0 := Tryz.sizeOf0,
  v0 := Tryz.zeroValue0,
  t2 := Tryz.underlying2,
  a2 := Tryz.isAgg2,
  z2 := Tryz.sizeOf2,
  v2 := Tryz.zeroValue2,
  t3 := Tryz.underlying3,
  a3 := Tryz.isAgg3,
  z3 := Tryz.sizeOf3,
  v3 := Tryz.zeroValue3,
  t4 := Tryz.underlying4,
  a4 := Tryz.isAgg4,
  z4 := Tryz.sizeOf4,
  v4 := Tryz.zeroValue4,
  t5 := Tryz.underlying5,
  a5 := Tryz.isAgg5,
  z5 := Tryz.sizeOf5,
  v5 := Tryz.zeroValue5,
  t9 := Tryz.underlying9,
  a9 := Tryz.isAgg9,
  z9 := Tryz.sizeOf9,
  v9 := Tryz.zeroValue9,
  t20 := Tryz.underlying20,
  a20 := Tryz.isAgg20,
  z20 := Tryz.sizeOf20,
  v20 := Tryz.zeroValue20,
  t37 := Tryz.underlying108,
  a37 := Tryz.isAgg108,
  z37 := Tryz.sizeOf108,
  v37 := Tryz.zeroValue108,
  t46 := Tryz.underlying109,
  a46 := Tryz.isAgg109,
  z46 := Tryz.sizeOf109,
  v46 := Tryz.zeroValue109,
  t51 := Tryz.underlying128,
  a51 := Tryz.isAgg128,
  z51 := Tryz.sizeOf128,
  v51 := Tryz.zeroValue128,
  t53 := Tryz.underlying111,
  a53 := Tryz.isAgg111,
  z53 := Tryz.sizeOf111,
  v53 := Tryz.zeroValue111,
  t171 := Tryz.underlying240,
  a171 := Tryz.isAgg240,
  z171 := Tryz.sizeOf240,
  v171 := Tryz.zeroValue240,
  t173 := Tryz.underlying242,
  a173 := Tryz.isAgg242,
  z173 := Tryz.sizeOf242,
  v173 := Tryz.zeroValue242,
  t212 := Tryz.underlying264,
  a212 := Tryz.isAgg264,
  z212 := Tryz.sizeOf264,
  v212 := Tryz.zeroValue264,
  t213 := Tryz.underlying265,
  a213 := Tryz.isAgg265,
  z213 := Tryz.sizeOf265,
  t232 := Tryz.underlying292,
  a232 := Tryz.isAgg292,
  z232 := Tryz.sizeOf292,
  v232 := Tryz.zeroValue292,
  t233 := Tryz.underlying293,
  a233 := Tryz.isAgg293,
  z233 := Tryz.sizeOf293,
  v233 := Tryz.zeroValue293,
  g17 := by kernel_rfl,
  g18 := by kernel_rfl,
  g19 := by kernel_rfl }
theorem laysM171 : Go.Proofs.LaysM.n171 Tryz.prog lays171_ren := { lays171 with
  i0 := by kernel_rfl,
  i2 := by kernel_rfl,
  i3 := by kernel_rfl,
  i4 := by kernel_rfl,
  i5 := by kernel_rfl,
  i9 := by kernel_rfl,
  i20 := by kernel_rfl,
  i37 := by kernel_rfl,
  i46 := by kernel_rfl,
  i51 := by kernel_rfl,
  i53 := by kernel_rfl,
  i171 := by kernel_rfl,
  i173 := by kernel_rfl,
  i212 := by kernel_rfl,
  i232 := by kernel_rfl,
  i233 := by kernel_rfl,
  m17 := by kernel_rfl,
  m18 := by kernel_rfl,
  m19 := by kernel_rfl }
def lays172_ren : Go.Shelf.Ren := ⟨fun | 129 => 122 | 171 => 54 | 172 => 133 | 205 => 200 | 243 => 88 | 244 => 168 | 245 => 169 | 246 => 134 | 247 => 186 | 279 => 187 | 280 => 188 | 281 => 189 | 282 => 190 | 283 => 170 | 284 => 171 | 285 => 172 | 286 => 173 | 287 => 198 | 316 => 199 | 317 => 191 | 318 => 192 | 319 => 193 | 320 => 194 | 321 => 209 | 322 => 210 | 337 => 201 | 338 => 202 | n => n, fun | 0 => 0 | 127 => 288 | 143 => 289 | 145 => 291 | 167 => 257 | 168 => 260 | 171 => 240 | 173 => 242 | 175 => 273 | 2 => 2 | 20 => 20 | 21 => 21 | 210 => 276 | 212 => 264 | 213 => 265 | 232 => 292 | 233 => 293 | 3 => 3 | 37 => 108 | 4 => 4 | 46 => 109 | 5 => 5 | 51 => 128 | 53 => 111 | 75 => 195 | 76 => 196 | 80 => 87 | 85 => 258 | 9 => 9 | n => n, fun | 15 => 4 | 16 => 5 | 17 => 3 | 18 => 6 | 19 => 7 | n => n⟩
theorem lays172 : Go.Proofs.Lays.n172 Tryz.prog lays172_ren := {
  mixed := by kernel_rfl,
  f129 := Tryz.func122.trans (congrArg some (by kernel_rfl)),
  f171 := Tryz.func54.trans (congrArg some (by kernel_rfl)),
  f172 := Tryz.func133.trans (congrArg some (by kernel_rfl)),
  f205 := Tryz.func200.trans (congrArg some (by kernel_rfl)),
  f243 := Tryz.func88.trans (congrArg some (by kernel_rfl)),
  f244 := Tryz.func168.trans (congrArg some (by kernel_rfl)),
  f245 := Tryz.func169.trans (congrArg some (by kernel_rfl)),
  f246 := Tryz.func134.trans (congrArg some (by kernel_rfl)),
  f247 := Tryz.func186.trans (congrArg some (by kernel_rfl)),
  f279 := Tryz.func187.trans (congrArg some (by kernel_rfl)),
  f280 := Tryz.func188.trans (congrArg some (by kernel_rfl)),
  f281 := Tryz.func189.trans (congrArg some (by kernel_rfl)),
  f282 := Tryz.func190.trans (congrArg some (by kernel_rfl)),
  f283 := Tryz.func170.trans (congrArg some (by kernel_rfl)),
  f284 := Tryz.func171.trans (congrArg some (by kernel_rfl)),
  f285 := Tryz.func172.trans (congrArg some (by kernel_rfl)),
  f286 := Tryz.func173.trans (congrArg some (by kernel_rfl)),
  f287 := Tryz.func198.trans (congrArg some (by kernel_rfl)),
  f316 := Tryz.func199.trans (congrArg some (by kernel_rfl)),
  f317 := Tryz.func191.trans (congrArg some (by kernel_rfl)),
  f318 := Tryz.func192.trans (congrArg some (by kernel_rfl)),
  f319 := Tryz.func193.trans (congrArg some (by kernel_rfl)),
  f320 := Tryz.func194.trans (congrArg some (by kernel_rfl)),
  f321 := Tryz.func209.trans (congrArg some (by kernel_rfl)),
  f322 := Tryz.func210.trans (congrArg some (by kernel_rfl)),
  f337 := Tryz.func201.trans (congrArg some (by kernel_rfl)),
  f338 := Tryz.func202.trans (congrArg some (by kernel_rfl)),
  t0 := Tryz.underlying0,
  a0 := Tryz.isAgg0,
  z0 := Tryz.sizeOf0,
  v0 := Tryz.zeroValue0,
  t2 := Tryz.underlying2,
  a2 := Tryz.isAgg2,
  z2 := Tryz.sizeOf2,
  v2 := Tryz.zeroValue2,
  t3 := Tryz.underlying3,
  a3 := Tryz.isAgg3,
  z3 := Tryz.sizeOf3,
  v3 := Tryz.zeroValue3,
  t4 := Tryz.underlying4,
  a4 := Tryz.isAgg4,
  z4 := Tryz.sizeOf4,
  v4 := Tryz.zeroValue4,
  t5 := Tryz.underlying5,
  a5 := Tryz.isAgg5,
  z5 := Tryz.sizeOf5,
  v5 := Tryz.zeroValue5,
  t9 := Tryz.underlying9,
  a9 := Tryz.isAgg9,
  z9 := Tryz.sizeOf9,
  v9 := Tryz.zeroValue9,
  t20 := Tryz.underlying20,
  a20 := Tryz.isAgg20,
  z20 := Tryz.sizeOf20,
  v20 := Tryz.zeroValue20,
  t21 := Tryz.underlying21,
  a21 := Tryz.isAgg21,
  z21 := Tryz.sizeOf21,
  v21 := Tryz.zeroValue21,
  t37 := Tryz.underlying108,
  a37 := Tryz.isAgg108,
  z37 := Tryz.sizeOf108,
  v37 := Tryz.zeroValue108,
  t46 := Tryz.underlying109,
  a46 := Tryz.isAgg109,
  z46 := Tryz.sizeOf109,
  v46 := Tryz.zeroValue109,
  t51 := Tryz.underlying128,
  a51 := Tryz.isAgg128,
  z51 := Tryz.sizeOf128,
  v51 := Tryz.zeroValue128,
  t53 := Tryz.underlying111,
  a53 := Tryz.isAgg111,
  z53 := Tryz.sizeOf111,
  v53 := Tryz.zeroValue111,
  t75 := Tryz.underlying195,
  a75 := Tryz.isAgg195,
  z75 := Tryz.sizeOf195,
  v75 := Tryz.zeroValue195,
  t76 := Tryz.underlying196,
  a76 := Tryz.isAgg196,
  z76 := Tryz.sizeOf196,
  v76 := Tryz.zeroValue196,
  t85 := Tryz.underlying258,
  a85 := Tryz.isAgg258,
  z85 := Tryz.sizeOf258,
  v85 := Tryz.zeroValue258,
  t127 := Tryz.underlying288,
  a127 := Tryz.isAgg288,
  z127 := Tryz.sizeOf288,
  v127 := Tryz.zeroValue288,
  t143 := Tryz.underlying289,
  a143 := Tryz.isAgg289,
  z143 := Tryz.sizeOf289,
  v143 := Tryz.zeroValue289,
  t145 := Tryz.underlying291,
  a145 := Tryz.isAgg291,
  z145 := Tryz.sizeOf291,
  v145 := Tryz.zeroValue291,
  t167 := Tryz.underlying257,
  a167 := Tryz.isAgg257,
  z167 := Tryz.sizeOf257,
  v167 := Tryz.zeroValue257,
  t168 := Tryz.underlying260,
  a168 := Tryz.isAgg260,
  z168 := Tryz.sizeOf260,
  v168 := Tryz.zeroValue260,
  t171 := Tryz.underlying240,
  a171 := Tryz.isAgg240,
  z171 := Tryz.sizeOf240,
  v171 := Tryz.zeroValue240,
  t173 := Tryz.underlying242,
  a173 := Tryz.isAgg242,
  z173 := Tryz.sizeOf242,
  v173 := Tryz.zeroValue242,
  t175 := Tryz.underlying273,
  a175 := Tryz.isAgg273,
  z175 := Tryz.sizeOf273,
  v175 := Tryz.zeroValue273,
  t210 := Tryz.underlying276,
  a210 := Tryz.isAgg276,
  z210 := Tryz.sizeOf276,
  v210 := Tryz.zeroValue276,
  t212 := Tryz.underlying264,
  a212 := Tryz.isAgg264,
  z212 := Tryz.sizeOf264,
  v212 := Tryz.zeroValue264,
  t213 := Tryz.underlying265,
  a213 := Tryz.isAgg265,
  z213 := Tryz.sizeOf265,
  t232 := Tryz.underlying292,
  a232 := Tryz.isAgg292,
  z232 := Tryz.sizeOf292,
  v232 := Tryz.zeroValue292,
  t233 := Tryz.underlying293,
  a233 := Tryz.isAgg293,
  z233 := Tryz.sizeOf293,
  v233 := Tryz.zeroValue293,
  g15 := by kernel_rfl,
  g16 := by kernel_rfl,
  g17 := by kernel_rfl,
  g18 := by kernel_rfl,
  g19 := by kernel_rfl }
end Go.Proofs.YtllegkmadljmaaaGreatDoor

/- Formulas of 4 Go functions of this seat (written by a program of the author's, vcgen.py), and that each is enough for the call. No condition. -/
set_option linter.unusedVariables false
namespace Go.Proofs.YtllegkmadljmaaaGreatDoor
open Go Vc Go.Proofs
set_option maxRecDepth 100000
def vc_object_Name (x0 : Int) (w : World) (R : Value → World → Prop) : Prop :=
 ((((x0 == 1) = true →
 R (Value.string (ByteArray.mk (Array.mk [99, 111, 109, 109, 105, 116]))) w)) ∧
 ((x0 == 1) = false →
 ((((x0 == 2) = true →
 R (Value.string (ByteArray.mk (Array.mk [116, 114, 101, 101]))) w)) ∧
 ((x0 == 2) = false →
 ((((x0 == 3) = true →
 R (Value.string (ByteArray.mk (Array.mk [98, 108, 111, 98]))) w)) ∧
 ((x0 == 3) = false →
 ((((x0 == 4) = true →
 R (Value.string (ByteArray.mk (Array.mk [116, 97, 103]))) w)) ∧
 ((x0 == 4) = false →
 R (Value.string (ByteArray.mk (Array.mk []))) w))))))))
theorem vc_object_Name_ok {x0 : Int} {w : World} {R : Value → World → Prop} {R' : Ending → World → Prop} (h : vc_object_Name x0 w R) (hR : ∀ v w', R v w' → R' (.returned v) w') :
    Calls Tryz.prog 32 #[.int .i64 x0] w R' :=
  calls_of_body (vs := [(.int .i64 x0, false)]) (ty := ty) (ann := ⟨[], [], [], []⟩) (c := Tryz.f32.body.getD .skip) (by kernel_rfl) Tryz.func32 (by kernel_rfl) (by kernel_rfl) (Eq.mp (by kernel_rfl) h) hR
def vc_object_Check (x0_0 : Int) (x0_1 : ByteArray) (w : World) (R : Value → World → Prop) : Prop :=
 ∀ w1 : World,
 (w1 = World.alloc w (Obj.cells (Array.mk [Value.int .i64 x0_0, Value.string x0_1]) 33) →
 ∃ n2 : Int, (World.cell? w1 (Addr.mk (Array.size (World.heap w)) 0 none) = some (Value.int .i64 n2) ∧
 Calls Tryz.prog (32 : Nat) (Array.mk [Value.int .i64 n2]) (w1) (fun e3 w4 =>
 ∃ s5 : ByteArray, (e3 = Ending.returned (Value.string s5) ∧
 ((((ByteArray.toList s5 == ByteArray.toList (ByteArray.mk (Array.mk []))) = true →
 R (Value.int .i64 10) w4)) ∧
 ((ByteArray.toList s5 == ByteArray.toList (ByteArray.mk (Array.mk []))) = false →
 ∃ s6 : ByteArray, (World.cell? w4 (Addr.mk (Array.size (World.heap w)) 1 none) = some (Value.string s6) ∧
 (((decide ((↑(ByteArray.size s6) : Int) > 65000) = true →
 R (Value.int .i64 2) w4)) ∧
 (decide ((↑(ByteArray.size s6) : Int) > 65000) = false →
 R (Value.int .i64 0) w4)))))))))
theorem vc_object_Check_ok {x0_0 : Int} {x0_1 : ByteArray} {w : World} {R : Value → World → Prop} {R' : Ending → World → Prop} (h : vc_object_Check x0_0 x0_1 w R) (hR : ∀ v w', R v w' → R' (.returned v) w') :
    Calls Tryz.prog 65 #[.agg #[.int .i64 x0_0, .string x0_1]] w R' :=
  calls_of_body (vs := [(.agg #[.int .i64 x0_0, .string x0_1], false)]) (ty := ty) (ann := ⟨[], [], [], []⟩) (c := Tryz.f65.body.getD .skip) (by kernel_rfl) Tryz.func65 (by kernel_rfl) (by kernel_rfl) (Eq.mp (by kernel_rfl) h) hR
def vc_object_Encode (x0_0 : Int) (x0_1 : ByteArray) (w : World) (R : Value → World → Prop) : Prop :=
 ∀ w1 : World,
 (w1 = World.alloc w (Obj.cells (Array.mk [Value.int .i64 x0_0, Value.string x0_1]) 33) →
 ∃ n2 : Int, ∃ s3 : ByteArray, (Sem.run Tryz.prog (loadVar 33 (Addr.mk (Array.size (World.heap w)) 0 none)) w1 = Result.ok (Value.agg (Array.mk [Value.int .i64 n2, Value.string s3])) w1 ∧
 Calls Tryz.prog (65 : Nat) (Array.mk [Value.agg (Array.mk [Value.int .i64 n2, Value.string s3])]) (w1) (fun e4 w5 =>
 ∃ n6 : Int, (e4 = Ending.returned (Value.int .i64 n6) ∧
 ((((n6 != 0) = true →
 R (Value.tuple (Array.mk [Value.string (ByteArray.mk (Array.mk [])), Value.int .i64 n6])) w5)) ∧
 ((n6 != 0) = false →
 ∀ w7 : World,
 (Drew w5 w7 →
 ∃ I8 : World → Prop, (I8 w7 ∧
 ∃ n9 : Int, ((∀ w10 : World,
 (I8 w10 →
 World.cell? w10 (Addr.mk (Array.size (World.heap w)) 0 none) = some (Value.int .i64 n9))) ∧
 ∃ s11 : ByteArray, ((∀ w12 : World,
 (I8 w12 →
 World.cell? w12 (Addr.mk (Array.size (World.heap w)) 1 none) = some (Value.string s11))) ∧
 ∃ s13 : ByteArray, ((∀ w14 : World,
 (I8 w14 →
 World.cell? w14 (Addr.mk (Array.size (World.heap w)) 1 none) = some (Value.string s13))) ∧
 Calls Tryz.prog (32 : Nat) (Array.mk [Value.int .i64 n9]) (w7) (fun e15 w16 =>
 ∃ s17 : ByteArray, (e15 = Ending.returned (Value.string s17) ∧
 (I8 w16 ∧
 (ByteArray.size s17 + ByteArray.size (ByteArray.mk (Array.mk [32])) ≤ 9223372036854775807 ∧
 Calls Tryz.prog (54 : Nat) (Array.mk [Value.int .i64 (↑(ByteArray.size s11) : Int)]) (w16) (fun e18 w19 =>
 ∃ s20 : ByteArray, (e18 = Ending.returned (Value.string s20) ∧
 (I8 w19 ∧
 (ByteArray.size (s17 ++ ByteArray.mk (Array.mk [32])) + ByteArray.size s20 ≤ 9223372036854775807 ∧
 (ByteArray.size (s17 ++ ByteArray.mk (Array.mk [32]) ++ s20) + ByteArray.size (ByteArray.mk (Array.mk [0])) ≤ 9223372036854775807 ∧
 (ByteArray.size (s17 ++ ByteArray.mk (Array.mk [32]) ++ s20 ++ ByteArray.mk (Array.mk [0])) + ByteArray.size s13 ≤ 9223372036854775807 ∧
 R (Value.tuple (Array.mk [Value.string (s17 ++ ByteArray.mk (Array.mk [32]) ++ s20 ++ ByteArray.mk (Array.mk [0]) ++ s13), Value.int .i64 0])) w19)))))))))))))))))))))
theorem vc_object_Encode_ok {x0_0 : Int} {x0_1 : ByteArray} {w : World} {R : Value → World → Prop} {R' : Ending → World → Prop} (h : vc_object_Encode x0_0 x0_1 w R) (hR : ∀ v w', R v w' → R' (.returned v) w') :
    Calls Tryz.prog 28 #[.agg #[.int .i64 x0_0, .string x0_1]] w R' :=
  calls_of_body (vs := [(.agg #[.int .i64 x0_0, .string x0_1], false)]) (ty := ty) (ann := ⟨[], [], [(4, .held [(0, true), (1, true), (4, true), (5, true), (6, true), (10, true), (11, true), (2, false), (3, true), (7, false), (8, true), (9, true), (12, true), (13, true), (14, true)])], []⟩) (c := Tryz.f28.body.getD .skip) (by kernel_rfl) Tryz.func28 (by kernel_rfl) (by kernel_rfl) (Eq.mp (by kernel_rfl) h) hR
def vc_object_Id (x0_0 : Int) (x0_1 : ByteArray) (w : World) (R : Value → World → Prop) : Prop :=
 ∀ w1 : World,
 (w1 = World.alloc w (Obj.cells (Array.mk [Value.int .i64 x0_0, Value.string x0_1]) 33) →
 ∃ n2 : Int, ∃ s3 : ByteArray, (Sem.run Tryz.prog (loadVar 33 (Addr.mk (Array.size (World.heap w)) 0 none)) w1 = Result.ok (Value.agg (Array.mk [Value.int .i64 n2, Value.string s3])) w1 ∧
 Calls Tryz.prog (28 : Nat) (Array.mk [Value.agg (Array.mk [Value.int .i64 n2, Value.string s3])]) (w1) (fun e4 w5 =>
 ∃ s6 : ByteArray, ∃ n7 : Int, (e4 = Ending.returned (Value.tuple (Array.mk [Value.string s6, Value.int .i64 n7])) ∧
 ((((n7 != 0) = true →
 R (Value.tuple (Array.mk [Value.string (ByteArray.mk (Array.mk [])), Value.int .i64 n7])) w5)) ∧
 ((n7 != 0) = false →
 Calls Tryz.prog (30 : Nat) (Array.mk [Value.string s6]) (w5) (fun e8 w9 =>
 ∃ s10 : ByteArray, (e8 = Ending.returned (Value.string s10) ∧
 Calls Tryz.prog (29 : Nat) (Array.mk [Value.string s10]) (w9) (fun e11 w12 =>
 ∃ s13 : ByteArray, (e11 = Ending.returned (Value.string s13) ∧
 R (Value.tuple (Array.mk [Value.string s13, Value.int .i64 0])) w12))))))))))
theorem vc_object_Id_ok {x0_0 : Int} {x0_1 : ByteArray} {w : World} {R : Value → World → Prop} {R' : Ending → World → Prop} (h : vc_object_Id x0_0 x0_1 w R) (hR : ∀ v w', R v w' → R' (.returned v) w') :
    Calls Tryz.prog 7 #[.agg #[.int .i64 x0_0, .string x0_1]] w R' :=
  calls_of_body (vs := [(.agg #[.int .i64 x0_0, .string x0_1], false)]) (ty := ty) (ann := ⟨[], [], [], []⟩) (c := Tryz.f7.body.getD .skip) (by kernel_rfl) Tryz.func7 (by kernel_rfl) (by kernel_rfl) (Eq.mp (by kernel_rfl) h) hR
end Go.Proofs.YtllegkmadljmaaaGreatDoor

/- Objects: Name, Kind, Number of at most five digits. Conditions: as named. -/
set_option linter.unusedVariables false
namespace Go.Proofs.YtllegkmadljmaaaGreatDoor
open Go Vc HexM ShaM Go.Proofs

def kname (k : Int) : ByteArray := if k = 1 then ⟨#[99, 111, 109, 109, 105, 116]⟩ else if k = 2 then ⟨#[116, 114, 101, 101]⟩ else if k = 3 then ⟨#[98, 108, 111, 98]⟩ else if k = 4 then ⟨#[116, 97, 103]⟩ else ⟨#[]⟩
theorem oname_spec (k : Int) (w : World) : Calls Tryz.prog F_object_Name #[.int .i64 k] w fun e w' => e = .returned (.string (kname k)) ∧ w' = w := by
  refine vc_object_Name_ok (R := fun v w' => v = .string (kname k) ∧ w' = w) ?_ (fun v w' h => ⟨by rw [h.1], h.2⟩)
  have bq : ∀ {a b : Int} {r : Bool}, (a == b) = r → decide (a = b) = r := fun h => by rw [← h]; rfl
  unfold kname
  refine ⟨fun h => ?_, fun h => ⟨fun h2 => ?_, fun h2 => ⟨fun h3 => ?_, fun h3 => ⟨fun h4 => ?_, fun h4 => ?_⟩⟩⟩⟩
  · rw [if_pos (eq_of_beq h)]; exact ⟨rfl, rfl⟩
  · rw [if_neg (of_decide_eq_false (bq h)), if_pos (eq_of_beq h2)]; exact ⟨rfl, rfl⟩
  · rw [if_neg (of_decide_eq_false (bq h)), if_neg (of_decide_eq_false (bq h2)), if_pos (eq_of_beq h3)]; exact ⟨rfl, rfl⟩
  · rw [if_neg (of_decide_eq_false (bq h)), if_neg (of_decide_eq_false (bq h2)), if_neg (of_decide_eq_false (bq h3)), if_pos (eq_of_beq h4)]; exact ⟨rfl, rfl⟩
  · rw [if_neg (of_decide_eq_false (bq h)), if_neg (of_decide_eq_false (bq h2)), if_neg (of_decide_eq_false (bq h3)), if_neg (of_decide_eq_false (bq h4))]; exact ⟨rfl, rfl⟩
def isKind (k : Int) : Prop := k = 1 ∨ k = 2 ∨ k = 3 ∨ k = 4
theorem kname_ok {k : Int} (h : isKind k) : kname k ≠ ⟨#[]⟩ ∧ (kname k).size ≤ 6 ∧ (0 : UInt8) ∉ (kname k).data.toList ∧ (32 : UInt8) ∉ (kname k).data.toList := by
  rcases h with rfl | rfl | rfl | rfl <;> exact ⟨by decide, by decide, by decide, by decide⟩
theorem kname_no {k : Int} (h : ¬ isKind k) : kname k = ⟨#[]⟩ := by
  unfold isKind at h
  unfold kname
  rw [if_neg (fun e => h (.inl e)), if_neg (fun e => h (.inr (.inl e))), if_neg (fun e => h (.inr (.inr (.inl e)))), if_neg (fun e => h (.inr (.inr (.inr e))))]
theorem ogrow_fr (w : World) (q : Nat) (os : Array Obj) : Fr (fun _ => False) w (Sort.grow (w.drewN q) os) :=
  ⟨rfl, rfl, rfl, by simp [Sort.grow, World.drewN], fun k hk _ => by
    have hk' : k < (w.drewN q).heap.size := hk
    exact Sort.heap_grow_old _ _ hk'⟩
/-- The table that Itoa looks into. -/
def Tab10 (w : World) : Prop := Lib.TabIs Tryz.prog w "internal/strconv.uint64pow10" .u64 Lib.pow10Tab
theorem Tab10.keep {w w1 : World} (h : Tab10 w) (hf : Fr (fun _ => False) w w1) : Tab10 w1 := by
  unfold Tab10 Lib.TabIs World.var? at h ⊢
  obtain ⟨g, hg, h2⟩ := Option.bind_eq_some_iff.1 h
  rw [hg, Option.bind_some]
  cases hb : w.heap[g]? with
  | none => rw [hb] at h2; cases h2
  | some o =>
    rw [hb] at h2
    have := hf.blk g (lt_blk hb) (by simp)
    rw [this, hb]; exact h2
theorem decFrom_snoc (b : UInt8) : ∀ (l : List UInt8) (acc : Nat), Lib.decFrom acc (l ++ [b]) = (Lib.decFrom acc l).bind fun n => (Lib.digitVal b).map fun d => n * 10 + d
  | [], acc => by
    simp only [List.nil_append, Lib.decFrom, Option.bind_some]
    cases Lib.digitVal b <;> rfl
  | c :: r, acc => by
    rw [List.cons_append, Lib.decFrom, Lib.decFrom]
    cases Lib.digitVal c with
    | none => rfl
    | some d => exact decFrom_snoc b r _
theorem digit_val {d : Nat} (h : d < 10) : Lib.digitVal (UInt8.ofNat (48 + d)) = some d := by
  unfold Lib.digitVal
  rw [toNat_of _ (by omega), if_pos (by omega)]
  congr 1; omega
theorem dec_from : ∀ u : Nat, Lib.decFrom 0 (Lib.decDigits u) = some u := fun u => by
  induction u using Nat.strongRecOn with
  | _ u ih =>
    rw [Lib.decDigits]
    by_cases h : u < 10
    · rw [dif_pos h]
      simp only [Lib.decFrom, digit_val h, Nat.zero_mul, Nat.zero_add]
    · rw [dif_neg h, decFrom_snoc, ih (u / 10) (by omega), Option.bind_some, digit_val (Nat.mod_lt _ (by decide)), Option.map_some]
      congr 1; omega
theorem dec_digits : ∀ (u : Nat), ∀ b ∈ Lib.decDigits u, 48 ≤ b.toNat ∧ b.toNat ≤ 57 := fun u => by
  induction u using Nat.strongRecOn with
  | _ u ih =>
    rw [Lib.decDigits]
    by_cases h : u < 10
    · rw [dif_pos h]
      intro b hb
      rw [List.mem_singleton] at hb
      subst hb
      rw [toNat_of _ (by omega)]; omega
    · rw [dif_neg h]
      intro b hb
      rcases List.mem_append.1 hb with hb | hb
      · exact ih (u / 10) (by omega) b hb
      · rw [List.mem_singleton] at hb
        subst hb
        rw [toNat_of _ (by omega)]; omega
theorem dec_len : ∀ (k u : Nat), u < 10 ^ (k + 1) → (Lib.decDigits u).length ≤ k + 1
  | 0, u, h => by rw [Lib.decDigits, dif_pos (by simpa using h)]; exact Nat.le_refl _
  | k + 1, u, h => by
    rw [Lib.decDigits]
    by_cases h1 : u < 10
    · rw [dif_pos h1]; simp
    · rw [dif_neg h1, List.length_append]
      have := dec_len k (u / 10) (by rw [Nat.pow_succ] at h; omega)
      simp only [List.length_cons, List.length_nil]; omega
theorem dec_ne (u : Nat) : Lib.decDigits u ≠ [] := by
  rw [Lib.decDigits]
  by_cases h : u < 10
  · rw [dif_pos h]; simp
  · rw [dif_neg h]; simp
/-- A number's digits. -/
def dec3 (n : Nat) : List UInt8 := Lib.decDigits n
theorem itoa_dec (n : Nat) : Lib.itoa (n : Int) = dec3 n := by
  unfold Lib.itoa
  rw [if_neg (by omega), Int.toNat_natCast]; rfl
theorem dec_facts (n : Nat) (hn : n < 65001) : Lib.atoi (dec3 n) = some (n : Int) ∧ (dec3 n).length ≤ 5 ∧ (0 : UInt8) ∉ dec3 n ∧ (32 : UInt8) ∉ dec3 n := by
  have hd := dec_digits n
  refine ⟨?_, dec_len 4 n (by omega), fun h => ?_, fun h => ?_⟩
  · have hf := dec_from n
    unfold dec3
    cases hl : Lib.decDigits n with
    | nil => exact absurd hl (dec_ne n)
    | cons b r =>
      rw [hl] at hd hf
      have hb := hd b List.mem_cons_self
      have n45 : (b == 45) = false := by
        rw [beq_eq_false_iff_ne]; rintro rfl; exact absurd hb.1 (by decide)
      have n43 : (b == 43) = false := by
        rw [beq_eq_false_iff_ne]; rintro rfl; exact absurd hb.1 (by decide)
      unfold Lib.atoi
      simp only [n45, n43]
      unfold Lib.decNat
      simp [hf]
  · exact absurd (hd 0 h).1 (by decide)
  · exact absurd (hd 32 h).1 (by decide)
theorem itoa_spec (n : Nat) (hn : n ≤ 65000) {w : World} (ht : Tab10 w) : Calls Tryz.prog F_strconv_Itoa #[.int .i64 (n : Int)] w fun e w' => e = .returned (.string ⟨(Lib.itoa (n : Int)).toArray⟩) ∧ Fr (fun _ => False) w w' :=
  (Any.strconv_Itoa laysM171 (n : Int) (by omega) (by omega) w ht).mono fun e w' ⟨h, k, os, hw⟩ => ⟨h, by rw [hw]; exact ogrow_fr _ _ _⟩
theorem bytesWorld_fr (w : World) (e : TypeId) (s : ByteArray) : Fr (fun _ => False) w (Lib.bytesWorld w e s) :=
  ⟨rfl, rfl, rfl, by rw [Lib.bytesWorld_size]; omega, fun k hk _ => Lib.bytesWorld_at_old _ _ _ _ hk⟩
end Go.Proofs.YtllegkmadljmaaaGreatDoor

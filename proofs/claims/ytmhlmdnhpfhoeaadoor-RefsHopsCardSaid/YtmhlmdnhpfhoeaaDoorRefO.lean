/- refs.Name: is a text a reference's name? Conditions: it is no longer than memory; the library's variable MaxLen holds some number. -/
import Derived.Test.YtmhlmdnhpfhoeaaDoorSeqD
import Derived.Test.YtmhlmdnhpfhoeaaDoorRefN
import Derived.Test.YtmhlmdnhpfhoeaaDoorStrB
set_option linter.unusedVariables false
namespace Go.Proofs.YtmhlmdnhpfhoeaaDoor
open Go Vc Go.Proofs Go.RowKit Go.Shelf
attribute [local go_sem] Oper.semAt_some

theorem toList_head : (⟨#[72, 69, 65, 68]⟩ : ByteArray).toList = [72, 69, 65, 68] := by rw [ByteArray.toList_eq]
def nbadB : ByteArray := ⟨#[32, 126, 94, 58, 63, 42, 91, 92]⟩
theorem nbad_ascii : Ascii nbadB := by
  intro j hj
  have : j < 8 := hj
  have key : ∀ j : Fin 8, byt nbadB j < 128 := by decide
  exact key ⟨j, this⟩
def partN (p : ByteArray) : Bool := decide (byt p 0 ≠ 46) && !sufL lockL p.data.toList
theorem clean_partsN {s : ByteArray} (hc : cleanB s = true) : s.size ≤ 200 ∧ ∀ p ∈ partsF s.size s, p.size ≠ 0 ∧ p.size ≤ 200 := by
  unfold cleanB at hc
  simp only [Bool.and_eq_true] at hc
  have h1 := of_decide_eq_true hc.1.1
  refine ⟨h1, fun p hp => ?_⟩
  have h2 := List.all_eq_true.1 hc.1.2 p hp
  rw [partsF_L _ _ (Nat.le_refl _), bsm] at hp
  obtain ⟨q, hq, rfl⟩ := List.mem_map.1 hp
  have h3 := partsL_size _ q hq
  rw [bs_len] at h3
  refine ⟨fun e => ?_, by rw [bs_mksize]; omega⟩
  rw [bs_empty.2 e] at h2
  revert h2; decide
theorem partN_eq {p : List UInt8} (hp : p ≠ []) : partN ⟨p.toArray⟩ = partName p := by
  obtain ⟨c, r, rfl⟩ := List.exists_cons_of_ne_nil hp
  unfold partN partName
  rw [bs_mk]
  congr 1
  refine decide_eq_decide.2 ?_
  have hb : byt ⟨(c :: r).toArray⟩ 0 = c.toNat := rfl
  rw [hb, List.head?_cons]
  refine not_congr ⟨fun h => ?_, fun h => by rw [Option.some.inj h]; rfl⟩
  rw [UInt8.toNat_inj.1 (show c.toNat = (46 : UInt8).toNat from h)]
theorem name_parts {s : ByteArray} (hc : cleanB s = true) : (partsL s.data.toList).all partName = (partsF s.size s).all partN := by
  have hps := (clean_partsN hc).2
  rw [partsF_L _ _ (Nat.le_refl _), bsm] at hps ⊢
  rw [List.all_map, Bool.eq_iff_iff, List.all_eq_true, List.all_eq_true]
  have key : ∀ q ∈ partsL s.data.toList, partN ⟨q.toArray⟩ = partName q := fun q hq => partN_eq (fun e => (hps ⟨q.toArray⟩ (List.mem_map.2 ⟨q, hq, rfl⟩)).1 (by rw [e]; rfl))
  refine ⟨fun h q hq => ?_, fun h q hq => ?_⟩
  · rw [Function.comp_apply, key q hq]; exact h q hq
  · have := h q hq
    rw [Function.comp_apply, key q hq] at this; exact this
set_option maxRecDepth 100000 in
set_option maxHeartbeats 4000000 in
theorem name_spec (s : ByteArray) (hs : s.size ≤ 140737488355328) {w : World} (hml : MaxL w) : Calls Tryd.prog 22 #[.string s] w fun e w' => e = .returned (.bool (nameB s)) ∧ Fr (fun _ => False) w w' := by
  refine (callsIn_wide (n := 3)).1 ?_
  refine callsIn_of_wp_marks Tryd.func22 rfl trivial ?_ rfl
  simp only [Tryd.ntmps22, List.size_toArray, List.length_cons, List.length_nil, Nat.reduceAdd, Nat.reduceSub, Array.replicate_succ, Array.replicate_zero, List.push_toArray, List.append_toArray, List.nil_append, List.cons_append]
  obtain ⟨w0, hw0⟩ : ∃ w0, w.alloc (.cells #[.bool false] 4) = w0 := ⟨_, rfl⟩
  have hsz : w0.heap.size = w.heap.size + 1 := by rw [← hw0]; simp
  have hb0 : w0.heap[w.heap.size]? = some (.cells #[.bool false] 4 (0, 0)) := by rw [← hw0]; exact alloc_new _ _
  have hf0 : Fr (fun _ => False) w w0 := by rw [← hw0]; exact .alloc _ _ _
  have hcc : ∀ w', Fr (fun _ => False) w0 w' → w'.cell? ⟨w.heap.size, 0, none⟩ = some (.bool false) := fun w' hf => by rw [cell_blk (hf.keep hb0 (by simp))]; rfl
  have hcz : ∀ w', Fr (fun _ => False) w0 w' → w'.frozen? ⟨w.heap.size, 0, none⟩ = false := fun w' hf => frozen_blk (hf.keep hb0 (by simp)) 0
  have hc0 := hcc w0 (.refl _ _)
  have hz0 := hcz w0 (.refl _ _)
  have kH : (s.toList == [72, 69, 65, 68]) = decide (s = sHEAD) := by rw [← toList_head, bs_eq]; rfl
  have hset : ∀ w', Fr (fun _ => False) w0 w' → (w'.setCell ⟨w.heap.size, 0, none⟩ (.bool false)).cell? ⟨w.heap.size, 0, none⟩ = some (.bool false) := fun w' hf => World.cell?_setCell_same' _ _ _ (by rw [hcc w' hf]; rfl)
  by_cases hH : s = sHEAD
  · have hN : nameB s = true := by unfold nameB; rw [decide_eq_true hH]; rfl
    rw [decide_eq_true hH] at kH
    clear hH
    gi_wp2
    have hst : Fr (· = w.heap.size) w0 (w0.setCell ⟨w.heap.size, 0, none⟩ (.bool true)) := .set _ _ _ rfl
    have hc5 : (w0.setCell ⟨w.heap.size, 0, none⟩ (.bool true)).cell? ⟨w.heap.size, 0, none⟩ = some (.bool true) := World.cell?_setCell_same' _ _ _ (by rw [hc0]; rfl)
    refine ⟨.bool true, ?_, by rw [hN], hf0.trans hst fun q hq e => by omega⟩
    simp [results, Tryd.f22, go_sem, hc5]
  rw [decide_eq_false hH] at kH
  have hN : nameB s = (begB s sRefs && cleanB s && !hasL [46, 46] s.data.toList && !hasL [64, 123] s.data.toList && !sufL [46] s.data.toList && !(s.data.toList.any fun c => nbadL.contains c) && (partsL s.data.toList).all partName) := by
    unfold nameB; rw [decide_eq_false hH, Bool.false_or]
  have hF : Fr (fun _ => False) w0 w0 := .refl _ _
  by_cases h1 : begB s sRefs = true
  rotate_left
  · have h1 : begB s sRefs = false := by simpa using h1
    gi_wp2_with (refine ⟨trivial, ?_⟩; gi_at_call 44; refine (callsIn_wide.2 (hasPrefix_spec s sRefs _)).mono ?_; rintro e w1 ⟨rfl, rfl⟩; simp only [h1])
    refine ⟨trivial, ?_⟩
    gi_wp2
    refine ⟨trivial, ?_⟩
    gi_wp2
    refine ⟨trivial, ?_⟩
    gi_wp2
    refine ⟨trivial, ?_⟩
    gi_wp2
    refine ⟨trivial, ?_⟩
    gi_wp2
    refine ⟨.bool false, ?_, ?_, (hf0.trans' hF).trans (Fr.set (· = w.heap.size) _ _ rfl) fun q hq e => by omega⟩
    · simp [results, Tryd.f22, go_sem, hset _ hF]
    · rw [hN, h1]; simp only [Bool.not_true, Bool.not_false, Bool.and_true, Bool.true_and, Bool.and_false, Bool.false_and]
  gi_wp2_with (refine ⟨trivial, ?_⟩; gi_at_call 44; refine (callsIn_wide.2 (hasPrefix_spec s sRefs _)).mono ?_; rintro e w1 ⟨rfl, rfl⟩; simp only [h1])
  by_cases h2 : cleanB s = true
  rotate_left
  · have h2 : cleanB s = false := by simpa using h2
    refine ⟨trivial, ?_⟩
    gi_at_call 31
    refine (callsIn_wide.2 (clean_spec s hs _)).mono ?_
    rintro e w2 ⟨rfl, hf2⟩
    replace hF := hF.trans' hf2
    rw [h2]
    have hc2 := hcc _ hF
    have hz2 := hcz _ hF
    gi_wp2
    refine ⟨trivial, ?_⟩
    gi_wp2
    refine ⟨trivial, ?_⟩
    gi_wp2
    refine ⟨trivial, ?_⟩
    gi_wp2
    refine ⟨trivial, ?_⟩
    gi_wp2
    refine ⟨.bool false, ?_, ?_, (hf0.trans' hF).trans (Fr.set (· = w.heap.size) _ _ rfl) fun q hq e => by omega⟩
    · simp [results, Tryd.f22, go_sem, hset _ hF]
    · rw [hN, h1, h2]; simp only [Bool.not_true, Bool.not_false, Bool.and_true, Bool.true_and, Bool.and_false, Bool.false_and]
  obtain ⟨hs2, hps⟩ := clean_partsN h2
  refine ⟨trivial, ?_⟩
  gi_at_call 31
  refine (callsIn_wide.2 (clean_spec s hs _)).mono ?_
  rintro e w2 ⟨rfl, hf2⟩
  replace hF := hF.trans' hf2
  rw [h2]
  have hc2 := hcc _ hF
  have hz2 := hcz _ hF
  gi_wp2
  by_cases h3 : hasL [46, 46] s.data.toList = false
  rotate_left
  · have h3 : hasL [46, 46] s.data.toList = true := by simpa using h3
    refine ⟨trivial, ?_⟩
    gi_at_call 30
    refine (callsIn_wide.2 (contains2_spec s ⟨#[46, 46]⟩ (by omega) (hml.keep (hf0.trans' hF)))).mono ?_
    rintro e w3 ⟨rfl, rfl⟩
    rw [show hasL (⟨#[46, 46]⟩ : ByteArray).data.toList s.data.toList = true from h3]
    have hc3 := hcc _ hF
    have hz3 := hcz _ hF
    gi_wp2
    refine ⟨trivial, ?_⟩
    gi_wp2
    refine ⟨trivial, ?_⟩
    gi_wp2
    refine ⟨trivial, ?_⟩
    gi_wp2
    refine ⟨.bool false, ?_, ?_, (hf0.trans' hF).trans (Fr.set (· = w.heap.size) _ _ rfl) fun q hq e => by omega⟩
    · simp [results, Tryd.f22, go_sem, hset _ hF]
    · rw [hN, h1, h2, h3]; simp only [Bool.not_true, Bool.not_false, Bool.and_true, Bool.true_and, Bool.and_false, Bool.false_and]
  refine ⟨trivial, ?_⟩
  gi_at_call 30
  refine (callsIn_wide.2 (contains2_spec s ⟨#[46, 46]⟩ (by omega) (hml.keep (hf0.trans' hF)))).mono ?_
  rintro e w3 ⟨rfl, rfl⟩
  rw [show hasL (⟨#[46, 46]⟩ : ByteArray).data.toList s.data.toList = false from h3]
  have hc3 := hcc _ hF
  have hz3 := hcz _ hF
  gi_wp2
  by_cases h4 : hasL [64, 123] s.data.toList = false
  rotate_left
  · have h4 : hasL [64, 123] s.data.toList = true := by simpa using h4
    refine ⟨trivial, ?_⟩
    gi_at_call 30
    refine (callsIn_wide.2 (contains2_spec s ⟨#[64, 123]⟩ (by omega) (hml.keep (hf0.trans' hF)))).mono ?_
    rintro e w4 ⟨rfl, rfl⟩
    rw [show hasL (⟨#[64, 123]⟩ : ByteArray).data.toList s.data.toList = true from h4]
    have hc4 := hcc _ hF
    have hz4 := hcz _ hF
    gi_wp2
    refine ⟨trivial, ?_⟩
    gi_wp2
    refine ⟨trivial, ?_⟩
    gi_wp2
    refine ⟨.bool false, ?_, ?_, (hf0.trans' hF).trans (Fr.set (· = w.heap.size) _ _ rfl) fun q hq e => by omega⟩
    · simp [results, Tryd.f22, go_sem, hset _ hF]
    · rw [hN, h1, h2, h3, h4]; simp only [Bool.not_true, Bool.not_false, Bool.and_true, Bool.true_and, Bool.and_false, Bool.false_and]
  refine ⟨trivial, ?_⟩
  gi_at_call 30
  refine (callsIn_wide.2 (contains2_spec s ⟨#[64, 123]⟩ (by omega) (hml.keep (hf0.trans' hF)))).mono ?_
  rintro e w4 ⟨rfl, rfl⟩
  rw [show hasL (⟨#[64, 123]⟩ : ByteArray).data.toList s.data.toList = false from h4]
  have hc4 := hcc _ hF
  have hz4 := hcz _ hF
  gi_wp2
  by_cases h5 : sufL [46] s.data.toList = false
  rotate_left
  · have h5 : sufL [46] s.data.toList = true := by simpa using h5
    refine ⟨trivial, ?_⟩
    gi_at_call 48
    refine (callsIn_wide.2 (suffix_spec s ⟨#[46]⟩ (by omega) _)).mono ?_
    rintro e w5 ⟨rfl, rfl⟩
    rw [show sufL (⟨#[46]⟩ : ByteArray).data.toList s.data.toList = true from h5]
    have hc5 := hcc _ hF
    have hz5 := hcz _ hF
    gi_wp2
    refine ⟨trivial, ?_⟩
    gi_wp2
    refine ⟨.bool false, ?_, ?_, (hf0.trans' hF).trans (Fr.set (· = w.heap.size) _ _ rfl) fun q hq e => by omega⟩
    · simp [results, Tryd.f22, go_sem, hset _ hF]
    · rw [hN, h1, h2, h3, h4, h5]; simp only [Bool.not_true, Bool.not_false, Bool.and_true, Bool.true_and, Bool.and_false, Bool.false_and]
  refine ⟨trivial, ?_⟩
  gi_at_call 48
  refine (callsIn_wide.2 (suffix_spec s ⟨#[46]⟩ (by omega) _)).mono ?_
  rintro e w5 ⟨rfl, rfl⟩
  rw [show sufL (⟨#[46]⟩ : ByteArray).data.toList s.data.toList = false from h5]
  have hc5 := hcc _ hF
  have hz5 := hcz _ hF
  gi_wp2
  by_cases h6 : (s.data.toList.any fun c => nbadL.contains c) = false
  rotate_left
  · have h6 : (s.data.toList.any fun c => nbadL.contains c) = true := by simpa using h6
    refine ⟨trivial, ?_⟩
    gi_at_call 32
    refine (callsIn_wide.2 (containsAny_spec s nbadB (by omega) (by decide) (by decide) nbad_ascii _)).mono ?_
    rintro e w6 ⟨rfl, hf6⟩
    replace hF := hF.trans' hf6
    rw [show (s.data.toList.any fun c => nbadB.data.toList.contains c) = true from h6]
    have hc6 := hcc _ hF
    have hz6 := hcz _ hF
    gi_wp2
    refine ⟨.bool false, ?_, ?_, (hf0.trans' hF).trans (Fr.set (· = w.heap.size) _ _ rfl) fun q hq e => by omega⟩
    · simp [results, Tryd.f22, go_sem, hset _ hF]
    · rw [hN, h1, h2, h3, h4, h5, h6]; simp only [Bool.not_true, Bool.not_false, Bool.and_true, Bool.true_and, Bool.and_false, Bool.false_and]
  refine ⟨trivial, ?_⟩
  gi_at_call 32
  refine (callsIn_wide.2 (containsAny_spec s nbadB (by omega) (by decide) (by decide) nbad_ascii _)).mono ?_
  rintro e w6 ⟨rfl, hf6⟩
  replace hF := hF.trans' hf6
  rw [show (s.data.toList.any fun c => nbadB.data.toList.contains c) = false from h6]
  have hc6 := hcc _ hF
  have hz6 := hcz _ hF
  gi_wp2
  have hFB : nameB s = (partsF s.size s).all partN := by
    rw [hN, h1, h2, h3, h4, h5, h6, name_parts h2]; rfl
  have hb3 := hF.keep hb0 (by simp)
  have hF3 := hf0.trans' hF
  gi_wp2_with (refine ⟨trivial, ?_⟩; gi_at_call 33; refine (callsIn_wide.2 (splitSeq_spec s _)).mono ?_; rintro e w' ⟨rfl, rfl⟩)
  clear hset hcc hcz
  obtain ⟨n, hn⟩ : ∃ n, w6.heap.size = n := ⟨_, rfl⟩
  have hwn : w.heap.size < n := by rw [← hn]; exact lt_blk hb3
  obtain ⟨w1, hw1⟩ : ∃ w1, ((w6.alloc (.cells #[.string s] 9)).alloc (.cells #[.string ⟨#[47]⟩] 9)).alloc (.cells #[.int .i64 0] 3) = w1 := ⟨_, rfl⟩
  have hf1 : Fr (fun _ => False) w6 w1 := by rw [← hw1]; exact ((Fr.alloc _ _ _).trans' (.alloc _ _ _)).trans' (.alloc _ _ _)
  have n1 : (w6.alloc (.cells #[.string s] 9)).heap.size = n + 1 := by simp [hn]
  have n2 : ((w6.alloc (.cells #[.string s] 9)).alloc (.cells #[.string ⟨#[47]⟩] 9)).heap.size = n + 2 := by simp [hn]
  have hbs : w1.heap[n]? = some (.cells #[.string s] 9 (0, 0)) := by
    rw [← hw1, ← hn]
    exact (Fr.alloc (fun _ => False) _ _).keep ((Fr.alloc (fun _ => False) _ _).keep (alloc_new w6 _) (by simp)) (by simp)
  have hbp : w1.heap[n + 1]? = some (.cells #[.string ⟨#[47]⟩] 9 (0, 0)) := by
    rw [← hw1, ← n1]
    exact (Fr.alloc (fun _ => False) _ _).keep (alloc_new _ _) (by simp)
  have hbz : w1.heap[n + 2]? = some (.cells #[.int .i64 0] 3 (0, 0)) := by
    rw [← hw1, ← n2]
    exact alloc_new _ _
  rw [hw1, hn]
  clear hw1 n1 n2
  refine range_split (B := n) (b0 := n + 1) (b1 := n) (b2 := n + 2) (by omega) (by omega) (by omega) (by omega) (by omega) rfl s hs
    (by rw [cell_blk hbp]; rfl) (by rw [cell_blk hbs]; rfl) (by rw [cell_blk hbz]; rfl) (frozen_blk hbs 0)
    (fun pre W => (∀ p ∈ pre, partN p = true) ∧ W.heap[w.heap.size]? = some (.cells #[.bool false] 4 (0, 0)) ∧ Fr (fun _ => False) w W)
    (fun pre W => (∃ p ∈ partsF s.size s, partN p = false) ∧ W.cell? ⟨w.heap.size, 0, none⟩ = some (.bool false) ∧ Fr (fun _ => False) w W)
    (fun pre W W' ⟨h1, h2, h3⟩ hf => ⟨h1, hf.keep h2 (by omega), h3.trans hf fun q hq h => by omega⟩)
    (fun pre W W' ⟨h1, h2, h3⟩ hf => ⟨h1, hf.cell h2 (by simp only; omega), h3.trans hf fun q hq h => by omega⟩)
    ⟨by simp, hf1.keep hb3 (by simp), hF3.trans' hf1⟩
    (fun x => { tmps := #[.string s, undef, .pointer (some ⟨w.heap.size, 0, none⟩), .string x, .string s, .bool false, .string s, .bool true, .bool false, .bool false, .string s, .bool true, .bool false, .bool false, .bool false, .string s, .bool false, .bool false, .bool false, .string s, .bool false, .bool false, .bool false, .string s, .bool false, .bool false, .bool false, .string s, .bool false, .bool false, .string s, .func (.func 82) #[] #[.pointer (some ⟨n + 1, 0, none⟩), .pointer (some ⟨n, 0, none⟩), .pointer (some ⟨n + 2, 0, none⟩)], .string x, undef, undef, undef, undef, undef, undef, undef], defers := [] }) ?assign ?body ?done ?stop
  case assign =>
    intro l x W K hK
    gi_wp2
    exact hK
  case body =>
    rintro l pre x W ⟨hp, hcell, hf⟩ hr
    have hcc : W.cell? ⟨w.heap.size, 0, none⟩ = some (.bool false) := by rw [cell_blk hcell]; rfl
    have hcz : W.frozen? ⟨w.heap.size, 0, none⟩ = false := frozen_blk hcell 0
    have hxm : x ∈ partsF s.size s := by obtain ⟨r, hr⟩ := hr; rw [← hr]; simp
    obtain ⟨hx0, hx2⟩ := hps x hxm
    have hget : ∀ (h : 0 < x.size), (x[0]'h).toNat = byt x 0 := fun h => by
      unfold byt; rw [Lib.data_getElem? x _ h]; rfl
    have hpos : 0 < x.size := by omega
    have ret : partN x = false → Fr (fun k => k < n) W (W.setCell ⟨w.heap.size, 0, none⟩ (.bool false)) ∧ (∃ p ∈ partsF s.size s, partN p = false) ∧ (W.setCell ⟨w.heap.size, 0, none⟩ (.bool false)).cell? ⟨w.heap.size, 0, none⟩ = some (.bool false) ∧ Fr (fun _ => False) w (W.setCell ⟨w.heap.size, 0, none⟩ (.bool false)) := fun hx =>
      ⟨Fr.set _ _ _ hwn, ⟨x, hxm, hx⟩, World.cell?_setCell_same' _ _ _ (by rw [hcc]; rfl), hf.trans (Fr.set (· = w.heap.size) _ _ rfl) fun q hq e => by omega⟩
    by_cases h46 : byt x 0 = 46
    · have kb : (((byt x 0 : Nat) : Int) == 46) = true := by rw [h46]; rfl
      gi_wp2
      refine ⟨trivial, ?_⟩
      gi_wp2
      exact ret (by unfold partN; rw [decide_eq_false (fun h => h h46)]; rfl)
    · have kb : (((byt x 0 : Nat) : Int) == 46) = false := by
        rw [beq_eq_false_iff_ne]; omega
      by_cases hl : sufL lockL x.data.toList = true
      · gi_wp2_with (refine ⟨trivial, ?_⟩; gi_at_call 48; refine (CallsIn.inRound l (callsIn_wide.2 (suffix_spec x ⟨#[46, 108, 111, 99, 107]⟩ (by omega) _))).mono ?_; rintro e w9 ⟨rfl, rfl⟩; rw [show sufL (⟨#[46, 108, 111, 99, 107]⟩ : ByteArray).data.toList x.data.toList = true from hl])
        exact ret (by unfold partN; rw [hl]; simp)
      · have hl : sufL lockL x.data.toList = false := by simpa using hl
        gi_wp2_with (refine ⟨trivial, ?_⟩; gi_at_call 48; refine (CallsIn.inRound l (callsIn_wide.2 (suffix_spec x ⟨#[46, 108, 111, 99, 107]⟩ (by omega) _))).mono ?_; rintro e w9 ⟨rfl, rfl⟩; rw [show sufL (⟨#[46, 108, 111, 99, 107]⟩ : ByteArray).data.toList x.data.toList = false from hl])
        refine ⟨.refl _ _, fun p hpm => ?_, hcell, hf⟩
        rcases List.mem_append.1 hpm with hpm | hpm
        · exact hp p hpm
        · simp only [List.mem_cons, List.mem_nil_iff, or_false] at hpm
          subst hpm
          unfold partN
          rw [hl, decide_eq_true h46]; rfl
  case done =>
    rintro D W hD ⟨hall, hcell, hf⟩ hK
    have hcc : W.cell? ⟨w.heap.size, 0, none⟩ = some (.bool false) := by rw [cell_blk hcell]; rfl
    have hcz : W.frozen? ⟨w.heap.size, 0, none⟩ = false := frozen_blk hcell 0
    gi_wp2
    have hne : D ≠ w.heap.size := by have := hf1.size; omega
    have hst : Fr (· = w.heap.size) W (W.setCell ⟨w.heap.size, 0, none⟩ (.bool true)) := .set _ _ _ rfl
    have hK' := hst.keep hK hne
    refine ⟨by simp, .inl ⟨_, _, rfl, run_takeDeferred hK', ?_⟩⟩
    have hpt : Fr (· = D) (W.setCell ⟨w.heap.size, 0, none⟩ (.bool true)) ((W.setCell ⟨w.heap.size, 0, none⟩ (.bool true)).putObj D (.deferred none)) := (Fr.grown (grownBy_putObj' _ D _)).mono fun q _ h => by cases h; rfl
    have hc5 := hpt.cell (World.cell?_setCell_same' W ⟨w.heap.size, 0, none⟩ (.bool true) (by rw [hcc]; rfl)) (fun h => hne h.symm)
    refine ⟨.bool true, ?_, ?_, ?_⟩
    · simp [results, Tryd.f22, go_sem, hc5]
    · have : (partsF s.size s).all partN = true := List.all_eq_true.2 hall
      rw [hFB, this]
    · have h1 := hf.size
      have h2 := (hF3.trans' hf1).size
      exact (hf.trans hst fun q hq e => by omega).trans hpt fun q hq e => by omega
  case stop =>
    rintro D pre W hD ⟨⟨p, hpm, hpb⟩, hcell, hf⟩ hK
    have hne : D ≠ w.heap.size := by have := hf1.size; omega
    gi_wp2
    refine ⟨by simp, .inl ⟨_, _, rfl, run_takeDeferred hK, ?_⟩⟩
    have hpt : Fr (· = D) W (W.putObj D (.deferred none)) := (Fr.grown (grownBy_putObj' _ D _)).mono fun q _ h => by cases h; rfl
    have hc5 := hpt.cell hcell (fun h => hne h.symm)
    refine ⟨.bool false, ?_, ?_, ?_⟩
    · simp [results, Tryd.f22, go_sem, hc5]
    · have : (partsF s.size s).all partN = false := by
        rw [← Bool.not_eq_true, List.all_eq_true]
        intro h
        rw [h p hpm] at hpb; cases hpb
      rw [hFB, this]
    · have h2 := (hF3.trans' hf1).size
      exact hf.trans hpt fun q hq e => by omega
end Go.Proofs.YtmhlmdnhpfhoeaaDoor

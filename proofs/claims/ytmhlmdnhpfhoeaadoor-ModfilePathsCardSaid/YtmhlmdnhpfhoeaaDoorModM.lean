/- modfile.FilePath: is a text a file's path? Condition: it is no longer than memory. -/
import Derived.Test.YtmhlmdnhpfhoeaaDoorSeqD
import Derived.Test.YtmhlmdnhpfhoeaaDoorModB
import Derived.Test.YtmhlmdnhpfhoeaaDoorStrB
set_option linter.unusedVariables false
namespace Go.Proofs.YtmhlmdnhpfhoeaaDoor
open Go Vc Go.Proofs Go.RowKit Go.Shelf
attribute [local go_sem] Oper.semAt_some

def badS : ByteArray := ⟨#[34, 39, 42, 60, 62, 63, 96, 124, 92, 58, 59]⟩
def dotOK (p : ByteArray) : Bool := decide (byt p (p.size - 1) ≠ 46)
theorem bad_any (s : ByteArray) : (s.data.toList.any fun c => badS.data.toList.contains c) = s.data.toList.any fun c => badL.contains c := by
  rfl
theorem bad_ascii : Ascii badS := by
  intro j hj
  have : j < 11 := hj
  have key : ∀ j : Fin 11, byt badS j < 128 := by decide
  exact key ⟨j, this⟩
theorem fileB_parts (s : ByteArray) (hc : cleanB s = true) (hb : (s.data.toList.any fun c => badL.contains c) = false) : fileB s = (partsF s.size s).all dotOK := by
  unfold fileB
  rw [hc, hb, partsF_L _ _ (Nat.le_refl _), bsm, List.all_map]
  simp only [Bool.not_false, Bool.and_self, Bool.true_and]
  congr 1
theorem clean_parts {s : ByteArray} (hc : cleanB s = true) : s.size ≤ 200 ∧ ∀ p ∈ partsF s.size s, p.size ≠ 0 ∧ p.size ≤ 200 := by
  unfold cleanB at hc
  simp only [Bool.and_eq_true] at hc
  have h1 := of_decide_eq_true hc.1.1
  refine ⟨h1, fun p hp => ?_⟩
  have h2 := List.all_eq_true.1 hc.1.2 p hp
  rw [partsF_L _ _ (Nat.le_refl _), bsm] at hp
  obtain ⟨q, hq, rfl⟩ := List.mem_map.1 hp
  have h3 := partsL_size _ q hq
  rw [bs_len] at h3
  refine ⟨fun e => ?_, by rw [bs_mksize]; omega⟩
  rw [bs_empty.2 e] at h2
  revert h2; decide
set_option maxRecDepth 100000 in
set_option maxHeartbeats 2000000 in
theorem filePath_spec (s : ByteArray) (hs : s.size ≤ 140737488355328) (w : World) : Calls Tryd.prog 13 #[.string s] w fun e w' => e = .returned (.bool (fileB s)) ∧ Fr (fun _ => False) w w' := by
  refine (callsIn_wide (n := 3)).1 ?_
  refine callsIn_of_wp_marks Tryd.func13 rfl trivial ?_ rfl
  simp only [Tryd.ntmps13, List.size_toArray, List.length_cons, List.length_nil, Nat.reduceAdd, Nat.reduceSub, Array.replicate_succ, Array.replicate_zero, List.push_toArray, List.append_toArray, List.nil_append, List.cons_append]
  obtain ⟨w0, hw0⟩ : ∃ w0, w.alloc (.cells #[.bool false] 4) = w0 := ⟨_, rfl⟩
  have hsz : w0.heap.size = w.heap.size + 1 := by rw [← hw0]; simp
  have hb0 : w0.heap[w.heap.size]? = some (.cells #[.bool false] 4 (0, 0)) := by rw [← hw0]; exact alloc_new _ _
  have hf0 : Fr (fun _ => False) w w0 := by rw [← hw0]; exact .alloc _ _ _
  by_cases hc : cleanB s = true
  rotate_left
  · have hc : cleanB s = false := by simpa using hc
    have hcc : ∀ w', Fr (fun _ => False) w0 w' → w'.cell? ⟨w.heap.size, 0, none⟩ = some (.bool false) := fun w' hf => by rw [cell_blk (hf.keep hb0 (by simp))]; rfl
    have hcz : ∀ w', Fr (fun _ => False) w0 w' → w'.frozen? ⟨w.heap.size, 0, none⟩ = false := fun w' hf => frozen_blk (hf.keep hb0 (by simp)) 0
    gi_wp2_with (refine ⟨trivial, ?_⟩; gi_at_call 31; refine (callsIn_wide.2 (clean_spec s hs _)).mono ?_; rintro e w' ⟨rfl, hf'⟩; simp only [hc]; have hc1 := hcc _ hf'; have hz1 := hcz _ hf')
    refine ⟨trivial, ?_⟩
    gi_wp2
    have hst : Fr (· = w.heap.size) w' (w'.setCell ⟨w.heap.size, 0, none⟩ (.bool false)) := .set _ _ _ rfl
    have hc5 : (w'.setCell ⟨w.heap.size, 0, none⟩ (.bool false)).cell? ⟨w.heap.size, 0, none⟩ = some (.bool false) := World.cell?_setCell_same' _ _ _ (by rw [hc1]; rfl)
    refine ⟨.bool false, ?_, ?_, (hf0.trans' hf').trans hst fun q hq e => by omega⟩
    · simp [results, Tryd.f13, go_sem, hc5]
    · unfold fileB; rw [hc]; rfl
  · have hcc : ∀ w', Fr (fun _ => False) w0 w' → w'.cell? ⟨w.heap.size, 0, none⟩ = some (.bool false) := fun w' hf => by rw [cell_blk (hf.keep hb0 (by simp))]; rfl
    have hcz : ∀ w', Fr (fun _ => False) w0 w' → w'.frozen? ⟨w.heap.size, 0, none⟩ = false := fun w' hf => frozen_blk (hf.keep hb0 (by simp)) 0
    obtain ⟨hs2, hps⟩ := clean_parts hc
    gi_wp2_with (refine ⟨trivial, ?_⟩; gi_at_call 31; refine (callsIn_wide.2 (clean_spec s hs _)).mono ?_; rintro e w' ⟨rfl, hf'⟩; simp only [hc]; have hc1 := hcc _ hf'; have hz1 := hcz _ hf')
    by_cases hb : (s.data.toList.any fun c => badL.contains c) = true
    · refine ⟨trivial, ?_⟩
      gi_at_call 32
      refine (callsIn_wide.2 (containsAny_spec s badS (by omega) (by decide) (by decide) bad_ascii _)).mono ?_
      rintro e w3 ⟨rfl, hf3⟩
      rw [bad_any, hb]
      have hc3 := hcc _ (hf'.trans' hf3)
      have hz3 := hcz _ (hf'.trans' hf3)
      gi_wp2
      have hst : Fr (· = w.heap.size) w3 (w3.setCell ⟨w.heap.size, 0, none⟩ (.bool false)) := .set _ _ _ rfl
      have hc5 : (w3.setCell ⟨w.heap.size, 0, none⟩ (.bool false)).cell? ⟨w.heap.size, 0, none⟩ = some (.bool false) := World.cell?_setCell_same' _ _ _ (by rw [hc3]; rfl)
      refine ⟨.bool false, ?_, ?_, ((hf0.trans' hf').trans' hf3).trans hst fun q hq e => by omega⟩
      · simp [results, Tryd.f13, go_sem, hc5]
      · unfold fileB; rw [hc, hb]; rfl
    · have hb : (s.data.toList.any fun c => badL.contains c) = false := by simpa using hb
      have hFB := fileB_parts s hc hb
      refine ⟨trivial, ?_⟩
      gi_at_call 32
      refine (callsIn_wide.2 (containsAny_spec s badS (by omega) (by decide) (by decide) bad_ascii _)).mono ?_
      rintro e w3 ⟨rfl, hf3⟩
      rw [bad_any, hb]
      have hc3 := hcc _ (hf'.trans' hf3)
      have hz3 := hcz _ (hf'.trans' hf3)
      have hb3 := (hf'.trans' hf3).keep hb0 (by simp)
      have hF3 := (hf0.trans' hf').trans' hf3
      gi_wp2_with (refine ⟨trivial, ?_⟩; gi_at_call 33; refine (callsIn_wide.2 (splitSeq_spec s _)).mono ?_; rintro e w' ⟨rfl, rfl⟩)
      clear hw0 hf' hcc hcz
      obtain ⟨n, hn⟩ : ∃ n, w3.heap.size = n := ⟨_, rfl⟩
      have hwn : w.heap.size < n := by rw [← hn]; exact lt_blk hb3
      obtain ⟨w1, hw1⟩ : ∃ w1, ((w3.alloc (.cells #[.string s] 9)).alloc (.cells #[.string ⟨#[47]⟩] 9)).alloc (.cells #[.int .i64 0] 3) = w1 := ⟨_, rfl⟩
      have hf1 : Fr (fun _ => False) w3 w1 := by rw [← hw1]; exact ((Fr.alloc _ _ _).trans' (.alloc _ _ _)).trans' (.alloc _ _ _)
      have n1 : (w3.alloc (.cells #[.string s] 9)).heap.size = n + 1 := by simp [hn]
      have n2 : ((w3.alloc (.cells #[.string s] 9)).alloc (.cells #[.string ⟨#[47]⟩] 9)).heap.size = n + 2 := by simp [hn]
      have hbs : w1.heap[n]? = some (.cells #[.string s] 9 (0, 0)) := by
        rw [← hw1, ← hn]
        exact (Fr.alloc (fun _ => False) _ _).keep ((Fr.alloc (fun _ => False) _ _).keep (alloc_new w3 _) (by simp)) (by simp)
      have hbp : w1.heap[n + 1]? = some (.cells #[.string ⟨#[47]⟩] 9 (0, 0)) := by
        rw [← hw1, ← n1]
        exact (Fr.alloc (fun _ => False) _ _).keep (alloc_new _ _) (by simp)
      have hbz : w1.heap[n + 2]? = some (.cells #[.int .i64 0] 3 (0, 0)) := by
        rw [← hw1, ← n2]
        exact alloc_new _ _
      rw [hw1, hn]
      clear hw1 n1 n2
      refine range_split (B := n) (b0 := n + 1) (b1 := n) (b2 := n + 2) (by omega) (by omega) (by omega) (by omega) (by omega) rfl s hs
        (by rw [cell_blk hbp]; rfl) (by rw [cell_blk hbs]; rfl) (by rw [cell_blk hbz]; rfl) (frozen_blk hbs 0)
        (fun pre W => (∀ p ∈ pre, dotOK p = true) ∧ W.heap[w.heap.size]? = some (.cells #[.bool false] 4 (0, 0)) ∧ Fr (fun _ => False) w W)
        (fun pre W => (∃ p ∈ partsF s.size s, dotOK p = false) ∧ W.cell? ⟨w.heap.size, 0, none⟩ = some (.bool false) ∧ Fr (fun _ => False) w W)
        (fun pre W W' ⟨h1, h2, h3⟩ hf => ⟨h1, hf.keep h2 (by omega), h3.trans hf fun q hq h => by omega⟩)
        (fun pre W W' ⟨h1, h2, h3⟩ hf => ⟨h1, hf.cell h2 (by simp only; omega), h3.trans hf fun q hq h => by omega⟩)
        ⟨by simp, hf1.keep hb3 (by simp), hF3.trans' hf1⟩
        (fun x => { tmps := #[.string s, undef, .pointer (some ⟨w.heap.size, 0, none⟩), .string x, .string s, .bool true, .bool false, .bool false, .string s, .bool false, .bool false, .string s, .func (.func 82) #[] #[.pointer (some ⟨n + 1, 0, none⟩), .pointer (some ⟨n, 0, none⟩), .pointer (some ⟨n + 2, 0, none⟩)], .string x, undef, undef, undef, undef, undef, undef], defers := [] }) ?assign ?body ?done ?stop
      case assign =>
        intro l x W K hK
        gi_wp2
        exact hK
      case body =>
        rintro l pre x W ⟨hp, hcell, hf⟩ hr
        have hcc : W.cell? ⟨w.heap.size, 0, none⟩ = some (.bool false) := by rw [cell_blk hcell]; rfl
        have hcz : W.frozen? ⟨w.heap.size, 0, none⟩ = false := frozen_blk hcell 0
        have hxm : x ∈ partsF s.size s := by obtain ⟨r, hr⟩ := hr; rw [← hr]; simp
        obtain ⟨hx0, hx2⟩ := hps x hxm
        have hget : ∀ (h : x.size - 1 < x.size), (x[x.size - 1]'h).toNat = byt x (x.size - 1) := fun h => by
          unfold byt; rw [Lib.data_getElem? x _ h]; rfl
        gi_wp2
        · rename_i h46
          have hb46 : byt x (x.size - 1) = 46 := by have := eq_of_beq h46; omega
          exact ⟨Fr.set _ _ _ hwn, ⟨x, hxm, by unfold dotOK; rw [hb46]; rfl⟩, World.cell?_setCell_same' _ _ _ (by rw [hcc]; rfl), hf.trans (Fr.set (· = w.heap.size) _ _ rfl) fun q hq e => by omega⟩
        · rename_i h46
          have hb46 : byt x (x.size - 1) ≠ 46 := fun e => by rw [e] at h46; simp at h46
          refine ⟨.refl _ _, fun p hpm => ?_, hcell, hf⟩
          rcases List.mem_append.1 hpm with hpm | hpm
          · exact hp p hpm
          · simp only [List.mem_cons, List.mem_nil_iff, or_false] at hpm
            subst hpm
            exact decide_eq_true hb46
      case done =>
        rintro D W hD ⟨hall, hcell, hf⟩ hK
        have hcc : W.cell? ⟨w.heap.size, 0, none⟩ = some (.bool false) := by rw [cell_blk hcell]; rfl
        have hcz : W.frozen? ⟨w.heap.size, 0, none⟩ = false := frozen_blk hcell 0
        gi_wp2
        have hne : D ≠ w.heap.size := by have := hf1.size; omega
        have hst : Fr (· = w.heap.size) W (W.setCell ⟨w.heap.size, 0, none⟩ (.bool true)) := .set _ _ _ rfl
        have hK' := hst.keep hK hne
        refine ⟨by simp, .inl ⟨_, _, rfl, run_takeDeferred hK', ?_⟩⟩
        have hpt : Fr (· = D) (W.setCell ⟨w.heap.size, 0, none⟩ (.bool true)) ((W.setCell ⟨w.heap.size, 0, none⟩ (.bool true)).putObj D (.deferred none)) := (Fr.grown (grownBy_putObj' _ D _)).mono fun q _ h => by cases h; rfl
        have hc5 := hpt.cell (World.cell?_setCell_same' W ⟨w.heap.size, 0, none⟩ (.bool true) (by rw [hcc]; rfl)) (fun h => hne h.symm)
        refine ⟨.bool true, ?_, ?_, ?_⟩
        · simp [results, Tryd.f13, go_sem, hc5]
        · have : (partsF s.size s).all dotOK = true := List.all_eq_true.2 hall
          rw [hFB, this]
        · have h1 := hf.size
          have h2 := (hF3.trans' hf1).size
          exact (hf.trans hst fun q hq e => by omega).trans hpt fun q hq e => by omega
      case stop =>
        rintro D pre W hD ⟨⟨p, hpm, hpb⟩, hcell, hf⟩ hK
        have hne : D ≠ w.heap.size := by have := hf1.size; omega
        gi_wp2
        refine ⟨by simp, .inl ⟨_, _, rfl, run_takeDeferred hK, ?_⟩⟩
        have hpt : Fr (· = D) W (W.putObj D (.deferred none)) := (Fr.grown (grownBy_putObj' _ D _)).mono fun q _ h => by cases h; rfl
        have hc5 := hpt.cell hcell (fun h => hne h.symm)
        refine ⟨.bool false, ?_, ?_, ?_⟩
        · simp [results, Tryd.f13, go_sem, hc5]
        · have : (partsF s.size s).all dotOK = false := by
            rw [← Bool.not_eq_true, List.all_eq_true]
            intro h
            rw [h p hpm] at hpb; cases hpb
          rw [hFB, this]
        · have h2 := (hF3.trans' hf1).size
          exact hf.trans hpt fun q hq e => by omega
end Go.Proofs.YtmhlmdnhpfhoeaaDoor

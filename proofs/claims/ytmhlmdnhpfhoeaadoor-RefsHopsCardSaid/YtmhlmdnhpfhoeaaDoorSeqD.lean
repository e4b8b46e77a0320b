/- snap.Clean: is a text a path? Condition: it is no longer than memory. -/
import Derived.Test.YtmhlmdnhpfhoeaaDoorSeqC
set_option linter.unusedVariables false
namespace Go.Proofs.YtmhlmdnhpfhoeaaDoor
open Go Vc Go.Proofs Go.RowKit Go.Shelf
attribute [local go_sem] Oper.semAt_some

theorem toList_nil : (⟨#[]⟩ : ByteArray).toList = [] := by rw [ByteArray.toList_eq]
theorem toList_dot : (⟨#[46]⟩ : ByteArray).toList = [46] := by rw [ByteArray.toList_eq]
theorem toList_dots : (⟨#[46, 46]⟩ : ByteArray).toList = [46, 46] := by rw [ByteArray.toList_eq]
def partOK (p : ByteArray) : Bool := decide (p ≠ ⟨#[]⟩) && decide (p ≠ ⟨#[46]⟩) && decide (p ≠ ⟨#[46, 46]⟩)
def cleanB (s : ByteArray) : Bool := decide (s.size ≤ 200) && (partsF s.size s).all partOK && printB s
set_option maxRecDepth 100000 in
set_option maxHeartbeats 2000000 in
theorem clean_spec (s : ByteArray) (hs : s.size ≤ 140737488355328) (w : World) : Calls Tryd.prog 31 #[.string s] w fun e w' => e = .returned (.bool (cleanB s)) ∧ Fr (fun _ => False) w w' := by
  refine (callsIn_wide (n := 3)).1 ?_
  refine callsIn_of_wp_marks Tryd.func31 rfl trivial ?_ rfl
  simp only [Tryd.ntmps31, List.size_toArray, List.length_cons, List.length_nil, Nat.reduceAdd, Nat.reduceSub, Array.replicate_succ, Array.replicate_zero, List.push_toArray, List.append_toArray, List.nil_append, List.cons_append]
  have hcell0 : (w.alloc (.cells #[.bool false] 4)).cell? ⟨w.heap.size, 0, none⟩ = some (.bool false) := by rw [cell_blk (alloc_new w _)]; rfl
  by_cases hlen : s.size > 200
  · gi_wp2
    refine ⟨.bool false, ?_, ?_, .alloc _ _ _⟩
    · simp [results, Tryd.f31, go_sem, hcell0]
    · unfold cleanB
      rw [decide_eq_false (by omega)]; rfl
  · gi_wp2_with (refine ⟨trivial, ?_⟩; gi_at_call 33; refine (callsIn_wide.2 (splitSeq_spec s _)).mono ?_; rintro e w' ⟨rfl, rfl⟩)
    obtain ⟨w0, hw0⟩ : ∃ w0, w.alloc (.cells #[.bool false] 4) = w0 := ⟨_, rfl⟩
    have hsz : w0.heap.size = w.heap.size + 1 := by rw [← hw0]; simp
    have hb0 : w0.heap[w.heap.size]? = some (.cells #[.bool false] 4 (0, 0)) := by rw [← hw0]; exact alloc_new _ _
    have hf0 : Fr (fun _ => False) w w0 := by rw [← hw0]; exact .alloc _ _ _
    rw [hw0]
    obtain ⟨w1, hw1⟩ : ∃ w1, ((w0.alloc (.cells #[.string s] 9)).alloc (.cells #[.string ⟨#[47]⟩] 9)).alloc (.cells #[.int .i64 0] 3) = w1 := ⟨_, rfl⟩
    have hf1 : Fr (fun _ => False) w0 w1 := by rw [← hw1]; exact ((Fr.alloc _ _ _).trans' (.alloc _ _ _)).trans' (.alloc _ _ _)
    have n1 : (w0.alloc (.cells #[.string s] 9)).heap.size = w.heap.size + 1 + 1 := by simp [hsz]
    have n2 : ((w0.alloc (.cells #[.string s] 9)).alloc (.cells #[.string ⟨#[47]⟩] 9)).heap.size = w.heap.size + 1 + 2 := by simp [hsz]
    have hbs : w1.heap[w.heap.size + 1]? = some (.cells #[.string s] 9 (0, 0)) := by
      rw [← hw1, ← hsz]
      exact (Fr.alloc (fun _ => False) _ _).keep ((Fr.alloc (fun _ => False) _ _).keep (alloc_new w0 _) (by simp)) (by simp)
    have hbp : w1.heap[w.heap.size + 1 + 1]? = some (.cells #[.string ⟨#[47]⟩] 9 (0, 0)) := by
      rw [← hw1, ← n1]
      exact (Fr.alloc (fun _ => False) _ _).keep (alloc_new _ _) (by simp)
    have hbz : w1.heap[w.heap.size + 1 + 2]? = some (.cells #[.int .i64 0] 3 (0, 0)) := by
      rw [← hw1, ← n2]
      exact alloc_new _ _
    rw [hw1]
    clear hw1 n1 n2 hw0
    refine range_split (B := w.heap.size + 1) (b0 := w.heap.size + 1 + 1) (b1 := w.heap.size + 1) (b2 := w.heap.size + 1 + 2) (by omega) (by omega) (by omega) (by omega) (by omega) rfl s hs
      (by rw [cell_blk hbp]; rfl) (by rw [cell_blk hbs]; rfl) (by rw [cell_blk hbz]; rfl) (frozen_blk hbs 0)
      (fun pre W => (∀ p ∈ pre, partOK p = true) ∧ W.heap[w.heap.size]? = some (.cells #[.bool false] 4 (0, 0)) ∧ Fr (fun _ => False) w W)
      (fun pre W => (∃ p ∈ partsF s.size s, partOK p = false) ∧ W.cell? ⟨w.heap.size, 0, none⟩ = some (.bool false) ∧ Fr (fun _ => False) w W)
      (fun pre W W' ⟨h1, h2, h3⟩ hf => ⟨h1, hf.keep h2 (by omega), h3.trans hf fun q hq h => by omega⟩)
      (fun pre W W' ⟨h1, h2, h3⟩ hf => ⟨h1, hf.cell h2 (by simp only; omega), h3.trans hf fun q hq h => by omega⟩)
      ⟨by simp, hf1.keep hb0 (by simp), hf0.trans' hf1⟩
      (fun x => { tmps := #[.string s, undef, .pointer (some ⟨w.heap.size, 0, none⟩), .string x, .string s, .int .i64 s.size, .bool (decide (200 < (s.size : Int))), .string s, .func (.func 82) #[] #[.pointer (some ⟨w.heap.size + 1 + 1, 0, none⟩), .pointer (some ⟨w.heap.size + 1, 0, none⟩), .pointer (some ⟨w.heap.size + 1 + 2, 0, none⟩)], .string x, undef, undef, undef, undef, undef, undef, undef, undef, undef, undef, undef, undef, undef], defers := [] }) ?assign ?body ?done ?stop
    case assign =>
      intro l x W K hK
      gi_wp2
      exact hK
    case body =>
      rintro l pre x W ⟨hp, hcell, hf⟩ hr
      have hcc : W.cell? ⟨w.heap.size, 0, none⟩ = some (.bool false) := by rw [cell_blk hcell]; rfl
      have hcz : W.frozen? ⟨w.heap.size, 0, none⟩ = false := frozen_blk hcell 0
      have k1 : x.toList.isEmpty = decide (x = ⟨#[]⟩) := by
        rw [← bs_eq, toList_nil]
        cases x.toList <;> rfl
      have k2 : (x.toList == [46]) = decide (x = ⟨#[46]⟩) := by rw [← bs_eq, toList_dot]
      have k3 : (x.toList == [46, 46]) = decide (x = ⟨#[46, 46]⟩) := by rw [← bs_eq, toList_dots]
      have ret : partOK x = false → Fr (fun k => k < w.heap.size + 1) W (W.setCell ⟨w.heap.size, 0, none⟩ (.bool false)) ∧ (∃ p ∈ partsF s.size s, partOK p = false) ∧ (W.setCell ⟨w.heap.size, 0, none⟩ (.bool false)).cell? ⟨w.heap.size, 0, none⟩ = some (.bool false) ∧ Fr (fun _ => False) w (W.setCell ⟨w.heap.size, 0, none⟩ (.bool false)) := fun hx =>
        ⟨Fr.set _ _ _ (Nat.lt_succ_self _), ⟨x, by obtain ⟨r, hr⟩ := hr; rw [← hr]; simp, hx⟩, World.cell?_setCell_same' _ _ _ (by rw [hcc]; rfl), hf.trans (Fr.set (· = w.heap.size) _ _ rfl) fun q hq e => by omega⟩
      gi_wp2
      · rename_i hx
        exact ret (by unfold partOK; rw [hx]; rfl)
      · rename_i hx
        exact ret (by unfold partOK; rw [hx]; rfl)
      · rename_i hx
        exact ret (by unfold partOK; rw [hx]; rfl)
      · have h1 : ¬ x = ⟨#[]⟩ := by assumption
        have h2 : ¬ x = ⟨#[46]⟩ := by assumption
        have h3 : ¬ x = ⟨#[46, 46]⟩ := by assumption
        refine ⟨.refl _ _, fun p hpm => ?_, hcell, hf⟩
        rcases List.mem_append.1 hpm with hpm | hpm
        · exact hp p hpm
        · simp only [List.mem_cons, List.mem_nil_iff, or_false] at hpm
          subst hpm
          unfold partOK
          simp [h1, h2, h3]
    case done =>
      rintro D W hD ⟨hall, hcell, hf⟩ hK
      have hcc : W.cell? ⟨w.heap.size, 0, none⟩ = some (.bool false) := by rw [cell_blk hcell]; rfl
      have hcz : W.frozen? ⟨w.heap.size, 0, none⟩ = false := frozen_blk hcell 0
      gi_wp2_with (refine ⟨trivial, ?_⟩; gi_at_call 58; refine (callsIn_wide.2 (containsFunc_spec s _)).mono ?_; rintro e w' ⟨rfl, hf'⟩; have hcc' := hf'.cell hcc (by simp); have hcz' := frozen_blk (hf'.keep hcell (by simp)) 0)
      have hne : D ≠ w.heap.size := by have := hf1.size; omega
      have hst : Fr (· = w.heap.size) w' (w'.setCell ⟨w.heap.size, 0, none⟩ (.bool (printB s))) := .set _ _ _ rfl
      have hK' := hst.keep (hf'.keep hK (by simp)) hne
      refine ⟨by simp, .inl ⟨_, _, rfl, run_takeDeferred hK', ?_⟩⟩
      have hpt : Fr (· = D) (w'.setCell ⟨w.heap.size, 0, none⟩ (.bool (printB s))) ((w'.setCell ⟨w.heap.size, 0, none⟩ (.bool (printB s))).putObj D (.deferred none)) := (Fr.grown (grownBy_putObj' _ D _)).mono fun q _ h => by cases h; rfl
      have hc5 := hpt.cell (World.cell?_setCell_same' w' ⟨w.heap.size, 0, none⟩ (.bool (printB s)) (by rw [hcc']; rfl)) (fun h => hne h.symm)
      refine ⟨.bool (printB s), ?_, ?_, ?_⟩
      · simp [results, Tryd.f31, go_sem, hc5]
      · have : (partsF s.size s).all partOK = true := List.all_eq_true.2 hall
        unfold cleanB
        rw [this, decide_eq_true (by omega)]; rfl
      · have h1 := (hf.trans' hf').size
        have h2 := (hf0.trans' hf1).size
        exact ((hf.trans' hf').trans hst fun q hq e => by omega).trans hpt fun q hq e => by omega
    case stop =>
      rintro D pre W hD ⟨⟨p, hpm, hpb⟩, hcell, hf⟩ hK
      have hne : D ≠ w.heap.size := by have := hf1.size; omega
      gi_wp2
      refine ⟨by simp, .inl ⟨_, _, rfl, run_takeDeferred hK, ?_⟩⟩
      have hpt : Fr (· = D) W (W.putObj D (.deferred none)) := (Fr.grown (grownBy_putObj' _ D _)).mono fun q _ h => by cases h; rfl
      have hc5 := hpt.cell hcell (fun h => hne h.symm)
      refine ⟨.bool false, ?_, ?_, ?_⟩
      · simp [results, Tryd.f31, go_sem, hc5]
      · have : (partsF s.size s).all partOK = false := by
          rw [← Bool.not_eq_true, List.all_eq_true]
          intro h
          rw [h p hpm] at hpb; cases hpb
        unfold cleanB
        rw [this]; simp
      · have h2 := (hf0.trans' hf1).size
        exact hf.trans hpt fun q hq e => by omega
end Go.Proofs.YtmhlmdnhpfhoeaaDoor

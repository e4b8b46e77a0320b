/- strings.SplitSeq at a slash: its rounds, for whatever a round does. Conditions: as named. -/
import Derived.Test.YtmhlmdnhpfhoeaaDoorStrA
import Derived.RangeFuncNested
import Derived.RangeFuncBound
import Derived.RangeFuncCalls
import Derived.RangeFuncLeaves
import Derived.Shelf.Abstract
import Derived.Shelf.RegionOpen
import Derived.WalkKit
import Derived.OwnWalkIn
import Derived.TacticsInMore
import Derived.LoopNIn
import Derived.LoopIn
set_option linter.unusedVariables false
namespace Go.Proofs.YtmhlmdnhpfhoeaaDoor
open Go Vc Go.Proofs Go.RowKit Go.Shelf
attribute [local go_sem] Oper.semAt_some

/-- The parts of a text, cut at each slash. -/
def partsF : Nat → ByteArray → List ByteArray
  | 0, s => [s]
  | f + 1, s => if Lib.indexByte s.data.toList 47 = -1 then [s] else s.extract 0 (Lib.indexByte s.data.toList 47).toNat :: partsF f (s.extract ((Lib.indexByte s.data.toList 47).toNat + 1) s.size)
theorem index47 (s : ByteArray) (w : World) : Calls Tryd.prog F_strings_Index #[.string s, .string ⟨#[47]⟩] w fun e w' => e = .returned (.int .i64 (Lib.indexByte s.data.toList 47)) ∧ w' = w := by
  refine vc_strings_Index_ok (R := fun v w' => v = .int .i64 (Lib.indexByte s.data.toList 47) ∧ w' = w) ?_ (fun v w' h => ⟨by rw [h.1], h.2⟩)
  refine (index1_spec s 47 (by decide) w).mono ?_
  rintro e w2 ⟨rfl, rfl⟩
  exact ⟨_, rfl, rfl, rfl⟩
theorem partsF_no {s : ByteArray} (h : Lib.indexByte s.data.toList 47 = -1) (g : Nat) : partsF g s = [s] := by
  cases g with
  | zero => rfl
  | succ g => rw [partsF, if_pos h]
theorem partsF_yes {s : ByteArray} {i : Nat} (h : Lib.indexByte s.data.toList 47 = (i : Int)) (g : Nat) : partsF (g + 1) s = s.extract 0 i :: partsF g (s.extract (i + 1) s.size) := by
  rw [partsF, h, if_neg (by omega), Int.toNat_natCast]
set_option maxRecDepth 100000 in
set_option maxHeartbeats 2000000 in
theorem splitSeq_rounds (n : Nat) (hn : 1 ≤ n) (l b0 b1 b2 n₀ : Nat) (h0n : b0 < n₀) (h1n : b1 < n₀) (h2n : b2 < n₀) (h01 : b0 ≠ b1) (h12 : b2 ≠ b1) (s0 : ByteArray) (hs : s0.size ≤ 140737488355328) (f : Nat) (hf : s0.size ≤ f)
    (J Jx : List ByteArray → World → Prop) (hJ : ∀ pre W1 W2, J pre W1 → Fr (· = b1) W1 W2 → J pre W2)
    (hY : ∀ pre x W1, J pre W1 → (∃ r, pre ++ x :: r = partsF f s0) → YieldAt Fence.wide (n - 1) Tryd.prog l #[.string x] W1 fun e W' =>
      (e = .returned (.bool true) ∧ J (pre ++ [x]) W' ∧ Below n₀ W1 W') ∨ (e = .returned (.bool false) ∧ Jx (pre ++ [x]) W'))
    (W : World) (hc0 : W.cell? ⟨b0, 0, none⟩ = some (.string ⟨#[47]⟩)) (hc1 : W.cell? ⟨b1, 0, none⟩ = some (.string s0)) (hc2 : W.cell? ⟨b2, 0, none⟩ = some (.int .i64 0)) (hfz : W.frozen? ⟨b1, 0, none⟩ = false) (hJ0 : J [] W) :
    CallsIn Fence.wide n Tryd.prog 82 #[.func (.yield l) #[] #[], .pointer (some ⟨b0, 0, none⟩), .pointer (some ⟨b1, 0, none⟩), .pointer (some ⟨b2, 0, none⟩)] W fun e W' => (∃ v, e = .returned v) ∧ (J (partsF f s0) W' ∨ ∃ pre, Jx pre W') := by
  refine callsIn_of_wp Tryd.func82 rfl trivial ?_ rfl
  simp only [Tryd.ntmps82, List.size_toArray, List.length_cons, List.length_nil, Nat.reduceAdd, Nat.reduceSub, Array.replicate_succ, Array.replicate_zero, List.push_toArray, List.append_toArray, List.nil_append, List.cons_append]
  gi_wp2
  gi_loopw [] (fun wr => ∃ (pre : List ByteArray) (s : ByteArray) (g : Nat), wr.cell? ⟨b1, 0, none⟩ = some (.string s) ∧ s.size ≤ g ∧ s.size ≤ 140737488355328 ∧ pre ++ partsF g s = partsF f s0 ∧ J pre wr ∧ wr.cell? ⟨b0, 0, none⟩ = some (.string ⟨#[47]⟩) ∧ wr.cell? ⟨b2, 0, none⟩ = some (.int .i64 0) ∧ wr.frozen? ⟨b1, 0, none⟩ = false)
    (fun wr => match wr.cell? ⟨b1, 0, none⟩ with | some (.string s) => s.size | _ => 0)
  case atStart => exact ⟨[], s0, f, hc1, hf, hs, rfl, hJ0, hc0, hc2, hfz⟩
  case round =>
    obtain ⟨pre, s, g, k1, k2, k3, k4, k5, k6, k7, k8⟩ := hrel
    rcases fnd_cases s 47 with ⟨hi, hno⟩ | ⟨i, hi, hlt, hb, hno⟩
    · rw [partsF_no hi] at k4
      obtain ⟨fn, tmps, assign, body, hy, hR⟩ := hY pre s wr k5 ⟨[], k4⟩
      gi_wp2_with (refine ⟨trivial, ?_⟩; gi_at_call 57; refine (callsIn_wide.2 (index47 s _)).mono ?_; rw [hi]; rintro e w' ⟨rfl, rfl⟩)
      refine hR.mono ?_
      rintro e W3 (⟨rfl, hJ3, hk3⟩ | ⟨rfl, hJx3⟩)
      · gi_wp2
        go_end0
        exact ⟨⟨_, rfl⟩, .inl (by rw [← k4]; exact hJ3)⟩
      · gi_wp2
        go_end0
        exact ⟨⟨_, rfl⟩, .inr ⟨_, hJx3⟩⟩
    · obtain ⟨g, rfl⟩ : ∃ g', g = g' + 1 := ⟨g - 1, by omega⟩
      rw [partsF_yes hi] at k4
      obtain ⟨fn, tmps, assign, body, hy, hR⟩ := hY pre (s.extract 0 i) wr k5 ⟨_, k4⟩
      have e1 : IntKind.i64.wrap ((i : Int) + 0) = (i : Int) := by rw [wrap_i64 (by omega) (by omega)]; omega
      have e2 : IntKind.i64.wrap ((i : Int) + 1) = ((i + 1 : Nat) : Int) := by rw [wrap_i64 (by omega) (by omega)]; omega
      gi_wp2_with (refine ⟨trivial, ?_⟩; gi_at_call 57; refine (callsIn_wide.2 (index47 s _)).mono ?_; rw [hi]; rintro e w' ⟨rfl, rfl⟩)
      refine hR.mono ?_
      rintro e W3 (⟨rfl, hJ3, hk3⟩ | ⟨rfl, hJx3⟩)
      · have m0 : W3.cell? ⟨b0, 0, none⟩ = some (.string ⟨#[47]⟩) := (hk3.cell (p := ⟨b0, 0, none⟩) h0n).trans k6
        have m1 : W3.cell? ⟨b1, 0, none⟩ = some (.string s) := (hk3.cell (p := ⟨b1, 0, none⟩) h1n).trans k1
        have m2 : W3.cell? ⟨b2, 0, none⟩ = some (.int .i64 0) := (hk3.cell (p := ⟨b2, 0, none⟩) h2n).trans k7
        have m3 : W3.frozen? ⟨b1, 0, none⟩ = false := (hk3.frozen (p := ⟨b1, 0, none⟩) h1n).trans k8
        gi_wp2
        have hfr : Fr (· = b1) W3 (W3.setCell ⟨b1, 0, none⟩ (.string (s.extract (i + 1) s.size))) := .set _ _ _ rfl
        have c1 : (W3.setCell ⟨b1, 0, none⟩ (.string (s.extract (i + 1) s.size))).cell? ⟨b1, 0, none⟩ = some (.string (s.extract (i + 1) s.size)) := World.cell?_setCell_same' _ _ _ (by rw [m1]; rfl)
        have hsz : (s.extract (i + 1) s.size).size = s.size - (i + 1) := by simp
        refine ⟨⟨pre ++ [s.extract 0 i], s.extract (i + 1) s.size, g, c1, by omega, by omega, by rw [List.append_assoc]; exact k4, hJ _ _ _ hJ3 hfr, hfr.cell m0 h01, hfr.cell m2 h12, by rw [World.frozen?_setCell]; exact m3⟩, ?_⟩
        rw [c1, k1]
        simp only
        omega
      · gi_wp2
        refine bodyPost_ret (results_none rfl _ _ _) rfl ?_
        exact ⟨⟨_, rfl⟩, .inr ⟨_, hJx3⟩⟩
end Go.Proofs.YtmhlmdnhpfhoeaaDoor

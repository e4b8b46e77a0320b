/- strings.SplitSeq at a slash, a range over it, ContainsFunc, snap.Clean. Conditions: as named. -/
import Derived.Test.YtoagdpjickippaaDoorStrA
import Derived.RangeFuncNested
import Derived.RangeFuncBound
import Derived.RangeFuncCalls
import Derived.RangeFuncLeaves
import Derived.Shelf.Abstract
import Derived.Shelf.RegionOpen
import Derived.WalkKit
import Derived.OwnWalkIn
import Derived.TacticsInMore
import Derived.LoopNIn
import Derived.LoopIn
import Derived.Test.YtoagdpjickippaaDoorSnap0
set_option linter.unusedVariables false
namespace Go.Proofs.YtoagdpjickippaaDoor
open Go Vc Go.Proofs Go.RowKit Go.Shelf
attribute [local go_sem] Oper.semAt_some

/-- The parts of a text, cut at each slash. -/
def partsF : Nat → ByteArray → List ByteArray
  | 0, s => [s]
  | f + 1, s => if Lib.indexByte s.data.toList 47 = -1 then [s] else s.extract 0 (Lib.indexByte s.data.toList 47).toNat :: partsF f (s.extract ((Lib.indexByte s.data.toList 47).toNat + 1) s.size)
theorem index47 (s : ByteArray) (w : World) : Calls Tryd.prog F_strings_Index #[.string s, .string ⟨#[47]⟩] w fun e w' => e = .returned (.int .i64 (Lib.indexByte s.data.toList 47)) ∧ w' = w := by
  refine vc_strings_Index_ok (R := fun v w' => v = .int .i64 (Lib.indexByte s.data.toList 47) ∧ w' = w) ?_ (fun v w' h => ⟨by rw [h.1], h.2⟩)
  refine (index1_spec s 47 (by decide) w).mono ?_
  rintro e w2 ⟨rfl, rfl⟩
  exact ⟨_, rfl, rfl, rfl⟩
theorem partsF_no {s : ByteArray} (h : Lib.indexByte s.data.toList 47 = -1) (g : Nat) : partsF g s = [s] := by
  cases g with
  | zero => rfl
  | succ g => rw [partsF, if_pos h]
theorem partsF_yes {s : ByteArray} {i : Nat} (h : Lib.indexByte s.data.toList 47 = (i : Int)) (g : Nat) : partsF (g + 1) s = s.extract 0 i :: partsF g (s.extract (i + 1) s.size) := by
  rw [partsF, h, if_neg (by omega), Int.toNat_natCast]
set_option maxRecDepth 100000 in
set_option maxHeartbeats 2000000 in
theorem splitSeq_rounds (n : Nat) (hn : 1 ≤ n) (l b0 b1 b2 n₀ : Nat) (h0n : b0 < n₀) (h1n : b1 < n₀) (h2n : b2 < n₀) (h01 : b0 ≠ b1) (h12 : b2 ≠ b1) (s0 : ByteArray) (hs : s0.size ≤ 140737488355328) (f : Nat) (hf : s0.size ≤ f)
    (J Jx : List ByteArray → World → Prop) (hJ : ∀ pre W1 W2, J pre W1 → Fr (· = b1) W1 W2 → J pre W2)
    (hY : ∀ pre x W1, J pre W1 → (∃ r, pre ++ x :: r = partsF f s0) → YieldAt Fence.wide (n - 1) Tryd.prog l #[.string x] W1 fun e W' =>
      (e = .returned (.bool true) ∧ J (pre ++ [x]) W' ∧ Below n₀ W1 W') ∨ (e = .returned (.bool false) ∧ Jx (pre ++ [x]) W'))
    (W : World) (hc0 : W.cell? ⟨b0, 0, none⟩ = some (.string ⟨#[47]⟩)) (hc1 : W.cell? ⟨b1, 0, none⟩ = some (.string s0)) (hc2 : W.cell? ⟨b2, 0, none⟩ = some (.int .i64 0)) (hfz : W.frozen? ⟨b1, 0, none⟩ = false) (hJ0 : J [] W) :
    CallsIn Fence.wide n Tryd.prog 71 #[.func (.yield l) #[] #[], .pointer (some ⟨b0, 0, none⟩), .pointer (some ⟨b1, 0, none⟩), .pointer (some ⟨b2, 0, none⟩)] W fun e W' => (∃ v, e = .returned v) ∧ (J (partsF f s0) W' ∨ ∃ pre, Jx pre W') := by
  refine callsIn_of_wp Tryd.func71 rfl trivial ?_ rfl
  simp only [Tryd.ntmps71, List.size_toArray, List.length_cons, List.length_nil, Nat.reduceAdd, Nat.reduceSub, Array.replicate_succ, Array.replicate_zero, List.push_toArray, List.append_toArray, List.nil_append, List.cons_append]
  gi_wp2
  gi_loopw [] (fun wr => ∃ (pre : List ByteArray) (s : ByteArray) (g : Nat), wr.cell? ⟨b1, 0, none⟩ = some (.string s) ∧ s.size ≤ g ∧ s.size ≤ 140737488355328 ∧ pre ++ partsF g s = partsF f s0 ∧ J pre wr ∧ wr.cell? ⟨b0, 0, none⟩ = some (.string ⟨#[47]⟩) ∧ wr.cell? ⟨b2, 0, none⟩ = some (.int .i64 0) ∧ wr.frozen? ⟨b1, 0, none⟩ = false)
    (fun wr => match wr.cell? ⟨b1, 0, none⟩ with | some (.string s) => s.size | _ => 0)
  case atStart => exact ⟨[], s0, f, hc1, hf, hs, rfl, hJ0, hc0, hc2, hfz⟩
  case round =>
    obtain ⟨pre, s, g, k1, k2, k3, k4, k5, k6, k7, k8⟩ := hrel
    rcases fnd_cases s 47 with ⟨hi, hno⟩ | ⟨i, hi, hlt, hb, hno⟩
    · rw [partsF_no hi] at k4
      obtain ⟨fn, tmps, assign, body, hy, hR⟩ := hY pre s wr k5 ⟨[], k4⟩
      gi_wp2_with (refine ⟨trivial, ?_⟩; gi_at_call 73; refine (callsIn_wide.2 (index47 s _)).mono ?_; rw [hi]; rintro e w' ⟨rfl, rfl⟩)
      refine hR.mono ?_
      rintro e W3 (⟨rfl, hJ3, hk3⟩ | ⟨rfl, hJx3⟩)
      · gi_wp2
        go_end0
        exact ⟨⟨_, rfl⟩, .inl (by rw [← k4]; exact hJ3)⟩
      · gi_wp2
        go_end0
        exact ⟨⟨_, rfl⟩, .inr ⟨_, hJx3⟩⟩
    · obtain ⟨g, rfl⟩ : ∃ g', g = g' + 1 := ⟨g - 1, by omega⟩
      rw [partsF_yes hi] at k4
      obtain ⟨fn, tmps, assign, body, hy, hR⟩ := hY pre (s.extract 0 i) wr k5 ⟨_, k4⟩
      have e1 : IntKind.i64.wrap ((i : Int) + 0) = (i : Int) := by rw [wrap_i64 (by omega) (by omega)]; omega
      have e2 : IntKind.i64.wrap ((i : Int) + 1) = ((i + 1 : Nat) : Int) := by rw [wrap_i64 (by omega) (by omega)]; omega
      gi_wp2_with (refine ⟨trivial, ?_⟩; gi_at_call 73; refine (callsIn_wide.2 (index47 s _)).mono ?_; rw [hi]; rintro e w' ⟨rfl, rfl⟩)
      refine hR.mono ?_
      rintro e W3 (⟨rfl, hJ3, hk3⟩ | ⟨rfl, hJx3⟩)
      · have m0 : W3.cell? ⟨b0, 0, none⟩ = some (.string ⟨#[47]⟩) := (hk3.cell (p := ⟨b0, 0, none⟩) h0n).trans k6
        have m1 : W3.cell? ⟨b1, 0, none⟩ = some (.string s) := (hk3.cell (p := ⟨b1, 0, none⟩) h1n).trans k1
        have m2 : W3.cell? ⟨b2, 0, none⟩ = some (.int .i64 0) := (hk3.cell (p := ⟨b2, 0, none⟩) h2n).trans k7
        have m3 : W3.frozen? ⟨b1, 0, none⟩ = false := (hk3.frozen (p := ⟨b1, 0, none⟩) h1n).trans k8
        gi_wp2
        have hfr : Fr (· = b1) W3 (W3.setCell ⟨b1, 0, none⟩ (.string (s.extract (i + 1) s.size))) := .set _ _ _ rfl
        have c1 : (W3.setCell ⟨b1, 0, none⟩ (.string (s.extract (i + 1) s.size))).cell? ⟨b1, 0, none⟩ = some (.string (s.extract (i + 1) s.size)) := World.cell?_setCell_same' _ _ _ (by rw [m1]; rfl)
        have hsz : (s.extract (i + 1) s.size).size = s.size - (i + 1) := by simp
        refine ⟨⟨pre ++ [s.extract 0 i], s.extract (i + 1) s.size, g, c1, by omega, by omega, by rw [List.append_assoc]; exact k4, hJ _ _ _ hJ3 hfr, hfr.cell m0 h01, hfr.cell m2 h12, by rw [World.frozen?_setCell]; exact m3⟩, ?_⟩
        rw [c1, k1]
        simp only
        omega
      · gi_wp2
        refine bodyPost_ret (results_none rfl _ _ _) rfl ?_
        exact ⟨⟨_, rfl⟩, .inr ⟨_, hJx3⟩⟩
end Go.Proofs.YtoagdpjickippaaDoor
namespace Go.Proofs.YtoagdpjickippaaDoor
open Go Vc Go.Proofs Go.RowKit Go.Shelf

/-- How a round's body ends. -/
def RoundEnd (I Ix : List ByteArray → World → Prop) (B : Nat) (xs : List ByteArray) (W : World) : Exit → Act → World → Prop
  | .normal, _, W' => Fr (fun _ => False) W W' ∧ I xs W'
  | .ret, _, W' => Fr (fun k => k < B) W W' ∧ Ix xs W'
  | _, _, _ => False
theorem range_split {g : Operand} {p : Tmp} {assign body : Code} {Q : Exit → Act → World → Prop} {a : Act} {w : World} {B b0 b1 b2 : Nat} (hB0 : B ≤ b0) (hB1 : B ≤ b1) (hB2 : B ≤ b2) (h01 : b0 ≠ b1) (h12 : b2 ≠ b1)
    (hg : a.eval g = .func (.func 71) #[] #[.pointer (some ⟨b0, 0, none⟩), .pointer (some ⟨b1, 0, none⟩), .pointer (some ⟨b2, 0, none⟩)])
    (s0 : ByteArray) (hs : s0.size ≤ 140737488355328) (hc0 : w.cell? ⟨b0, 0, none⟩ = some (.string ⟨#[47]⟩)) (hc1 : w.cell? ⟨b1, 0, none⟩ = some (.string s0)) (hc2 : w.cell? ⟨b2, 0, none⟩ = some (.int .i64 0)) (hfz : w.frozen? ⟨b1, 0, none⟩ = false)
    (I Ix : List ByteArray → World → Prop) (hI : ∀ pre W W', I pre W → Fr (fun k => B ≤ k) W W' → I pre W') (hIx : ∀ pre W W', Ix pre W → Fr (fun k => B ≤ k) W W' → Ix pre W') (h0 : I [] w) (a₁ : ByteArray → Act)
    (hassign : ∀ (l : Nat) (x : ByteArray) (W : World) (K : Act → World → Prop), K (a₁ x) W →
      assign.wpIn (Fence.wide.inRound l) 1 Tryd.prog (Exit.then K (fun _ _ _ => False)) { tmps := ((#[p] : Array Tmp).zip #[Value.string x]).foldl (fun t (p, v) => t.setIfInBounds p v) a.tmps, defers := [] } W)
    (hbody : ∀ (l : Nat) (pre : List ByteArray) (x : ByteArray) (W : World), I pre W → (∃ r, pre ++ x :: r = partsF s0.size s0) → body.wpIn (Fence.wide.inRound l) 1 Tryd.prog (RoundEnd I Ix B (pre ++ [x]) W) (a₁ x) W)
    (hdone : ∀ (D : Nat) (W : World), w.heap.size ≤ D → I (partsF s0.size s0) W → W.heap[D]? = some (.deferred (some [])) → Q .normal { a with defers := { target := .collected D, args := #[] } :: a.defers } W)
    (hstop : ∀ (D : Nat) (pre : List ByteArray) (W : World), w.heap.size ≤ D → Ix pre W → W.heap[D]? = some (.deferred (some [])) → Q .ret { a with defers := { target := .collected D, args := #[] } :: a.defers } W) :
    (Code.rangeFunc g #[p] assign body).wpIn Fence.wide 3 Tryd.prog Q a w := by
  have hl0 := World.block_lt_of_cell? w _ hc0
  have hl1 := World.block_lt_of_cell? w _ hc1
  have hl2 := World.block_lt_of_cell? w _ hc2
  simp only at hl0 hl1 hl2
  have put : ∀ {W : World} {k : Nat} {o : Obj}, Fr (· = k) W (W.putObj k o) := fun {W k o} => (Fr.grown (grownBy_putObj' W k o)).mono fun q _ h => by cases h; rfl
  have hup : ∀ {q : Nat}, q = w.heap.size + 1 → B ≤ q := fun h => by omega
  have hge : ∀ {q : Nat}, q = w.heap.size + 1 → w.heap.size ≤ q := fun h => by omega
  refine wpIn_rangeFunc ?_
  intro fn hfn
  obtain ⟨rec, hrec⟩ : ∃ rec : LoopState → Option Code → Loop, rec = fun st pe => { state := st, pending := pe, fn, tmps := a.tmps, params := #[p], assign, body, defers := w.heap.size } := ⟨_, rfl⟩
  obtain ⟨W1, hW1⟩ : ∃ W1, (w.alloc (.deferred (some []))).alloc (.loop (rec .ready none)) = W1 := ⟨_, rfl⟩
  have hL1 : W1.heap[w.heap.size + 1]? = some (.loop (rec .ready none)) := by
    rw [← hW1]; have := World.alloc_heap_new (w.alloc (.deferred (some []))) (.loop (rec .ready none)); rwa [World.size_alloc] at this
  have hK1 : W1.heap[w.heap.size]? = some (.deferred (some [])) := by
    rw [← hW1]; exact (Below.heap_alloc _ _ _ (by simp)).trans (World.alloc_heap_new w _)
  have hf1 : Fr (fun _ => False) w W1 := by rw [← hW1]; exact (Fr.alloc _ _ _).trans' (.alloc _ _ _)
  refine ⟨w.heap.size + 1, [{ target := .collected w.heap.size, args := #[] }], W1, { target := .fn (.func 71) #[.pointer (some ⟨b0, 0, none⟩), .pointer (some ⟨b1, 0, none⟩), .pointer (some ⟨b2, 0, none⟩)], args := #[.func (.yield (w.heap.size + 1)) #[] #[]] }, W1, 71,
    #[.func (.yield (w.heap.size + 1)) #[] #[], .pointer (some ⟨b0, 0, none⟩), .pointer (some ⟨b1, 0, none⟩), .pointer (some ⟨b2, 0, none⟩)], W1, ?_, ?_, ?_, ?_, fun h => (by cases h), ?_⟩
  · rw [← hW1, hrec]; exact run_enterLoop_outer _ _ _ _ _
  · simp only [resolve, hg]
    simp [go_sem]
  · exact fun f' _ => trivial
  · have eg := enters_of (P := Tryd.prog) Tryd.func71 (by kernel_rfl) rfl
    simp [invoke, go_sem, eg]
  · -- the rounds
    have hidx : ∀ {W W' : World} {X : Nat → Prop}, Fr X W W' → (∀ k, X k → k = b1) → (W.heap[w.heap.size + 1]? = some (.loop (rec .ready none)) ∧ W.heap[w.heap.size]? = some (.deferred (some []))) →
        (W'.heap[w.heap.size + 1]? = some (.loop (rec .ready none)) ∧ W'.heap[w.heap.size]? = some (.deferred (some []))) := fun hf hx h => ⟨hf.keep h.1 fun e => by have := hx _ e; omega, hf.keep h.2 fun e => by have := hx _ e; omega⟩
    refine (splitSeq_rounds 2 (by decide) (w.heap.size + 1) b0 b1 b2 w.heap.size hl0 hl1 hl2 h01 h12 s0 hs s0.size (Nat.le_refl _)
      (fun pre W => I pre W ∧ W.heap[w.heap.size + 1]? = some (.loop (rec .ready none)) ∧ W.heap[w.heap.size]? = some (.deferred (some [])))
      (fun pre W => Ix pre W ∧ W.heap[w.heap.size + 1]? = some (.loop (rec .done (some .ret))) ∧ W.heap[w.heap.size]? = some (.deferred (some [])))
      (fun pre W W' h hf => ⟨hI _ _ _ h.1 (hf.mono fun k _ e => by rw [e]; exact hB1), hidx hf (fun k e => e) h.2⟩)
      ?_ W1 (hf1.cell hc0 (by simp)) (hf1.cell hc1 (by simp)) (hf1.cell hc2 (by simp)) ?_ ⟨hI _ _ _ h0 (hf1.mono fun _ _ h => h.elim), hL1, hK1⟩).mono ?_
    · -- one round
      rintro pre x W ⟨hi, hl, hk⟩ hr
      have hlt : w.heap.size + 1 < W.heap.size := (Array.getElem?_eq_some_iff.1 hl).1
      have hy := run_yield (P := Tryd.prog) (args := #[.string x]) hl (by rw [hrec]; rfl)
      rw [hrec] at hy
      refine ⟨fn, _, assign, body, hy, roundIn_of_wpIn hfn ?_⟩
      refine hassign _ x W _ ⟨_, run_beginRound hl (by rw [hrec]), ?_⟩
      obtain ⟨W2, hW2⟩ : ∃ W2, W.putObj (w.heap.size + 1) (.loop { rec .ready none with state := .busy }) = W2 := ⟨_, rfl⟩
      rw [hW2]
      have hp2 : Fr (· = w.heap.size + 1) W W2 := by rw [← hW2]; exact put
      have hl2 : W2.heap[w.heap.size + 1]? = some (.loop { rec .ready none with state := .busy }) := by rw [← hW2]; exact World.putObj_heap_same hlt
      have hk2 : W2.heap[w.heap.size]? = some (.deferred (some [])) := hp2.keep hk (by omega)
      refine wpIn_mono (hbody _ pre x W2 (hI _ _ _ hi (hp2.mono fun k _ h => hup h)) hr) ?_
      have fin : ∀ (jump : Option Code) (W3 : World), W3.heap[w.heap.size + 1]? = some (.loop { rec .ready none with state := .busy }) → W3.heap[w.heap.size]? = some (.deferred (some [])) →
          (Instr.endRound (w.heap.size + 1) jump).run Tryd.prog W3 = .ok (.bool jump.isNone) (W3.putObj (w.heap.size + 1) (.loop (rec (if jump.isNone then .ready else .done) jump))) ∧
          (W3.putObj (w.heap.size + 1) (.loop (rec (if jump.isNone then .ready else .done) jump))).heap[w.heap.size + 1]? = some (.loop (rec (if jump.isNone then .ready else .done) jump)) ∧
          (W3.putObj (w.heap.size + 1) (.loop (rec (if jump.isNone then .ready else .done) jump))).heap[w.heap.size]? = some (.deferred (some [])) := fun jump W3 hl3 hk3 => by
        have := run_endRound (P := Tryd.prog) jump hl3
        refine ⟨?_, World.putObj_heap_same (Array.getElem?_eq_some_iff.1 hl3).1, (World.putObj_heap_other (by omega)).trans hk3⟩
        rw [hrec] at this ⊢
        exact this
      rintro e a3 W3 hp
      cases e with
      | normal =>
        obtain ⟨hf3, hi3⟩ := hp
        obtain ⟨hr3, hl4, hk4⟩ := fin none W3 (hf3.keep hl2 (by simp)) (hf3.keep hk2 (by simp))
        refine ⟨_, _, hr3, .inl ⟨rfl, ⟨hI _ _ _ hi3 (put.mono fun k _ h => hup h), hl4, hk4⟩, ?_⟩⟩
        exact Fr.below (((hp2.trans hf3 fun q _ h => h.elim).trans' put).mono fun k _ h => hge h) (by omega)
      | ret =>
        obtain ⟨hf3, hi3⟩ := hp
        obtain ⟨hr3, hl4, hk4⟩ := fin (some .ret) W3 (hf3.keep hl2 (fun h => Nat.not_lt.2 (Nat.le_of_lt (Nat.lt_of_le_of_lt hB0 (Nat.lt_succ_of_lt hl0))) h)) (hf3.keep hk2 (fun h => Nat.not_lt.2 (Nat.le_of_lt (Nat.lt_of_le_of_lt hB0 hl0)) h))
        exact ⟨_, _, hr3, .inr ⟨rfl, hIx _ _ _ hi3 (put.mono fun k _ h => hup h), hl4, hk4⟩⟩
      | exit id => exact hp.elim
      | goto t => exact hp.elim
      | panic ch => exact hp.elim
      | outgrown => exact hp.elim
    · rw [← hW1]
      exact (World.frozen?_of_block (by rw [hW1]; exact hf1.blk b1 hl1 (by simp))).trans hfz
    · -- behind the iterator
      rintro e W2 ⟨⟨v, rfl⟩, (⟨hi, hl, hk⟩ | ⟨pre, hi, hl, hk⟩)⟩
      · refine ⟨none, _, by have := run_endLoop (P := Tryd.prog) hl (by rw [hrec]; simp); rw [hrec] at this; exact this, hdone _ _ (Nat.le_refl _) (hI _ _ _ hi (put.mono fun k _ h => hup h)) ((World.putObj_heap_other (by omega)).trans hk)⟩
      · refine ⟨some .ret, _, by have := run_endLoop (P := Tryd.prog) hl (by rw [hrec]; simp); rw [hrec] at this; exact this, ?_⟩
        exact wpIn_ret (hstop w.heap.size pre _ (Nat.le_refl _) (hIx _ _ _ hi (put.mono fun k _ h => hup h)) ((World.putObj_heap_other (by omega)).trans hk))
end Go.Proofs.YtoagdpjickippaaDoor
namespace Go.Proofs.YtoagdpjickippaaDoor
open Go Vc Go.Proofs Go.RowKit Go.Shelf

/-- Every byte is a letter that is printed. -/
def printB (s : ByteArray) : Bool := decide (∀ k, k < s.size → 32 ≤ byt s k ∧ byt s k ≤ 126)
theorem clean1_spec (c : Int) (w : World) : Calls Tryd.prog F_snap_Clean_1 #[.int .i32 c] w fun e w' => e = .returned (.bool (decide (c < 32) || decide (c > 126))) ∧ w' = w := by
  refine vc_snap_Clean_1_ok (R := fun v w' => v = .bool (decide (c < 32) || decide (c > 126)) ∧ w' = w) ?_ (fun v w' h => ⟨by rw [h.1], h.2⟩)
  exact ⟨fun h => ⟨by rw [h]; rfl, rfl⟩, fun h => ⟨by rw [h]; rfl, rfl⟩⟩
theorem indexFunc_spec (s : ByteArray) (w : World) : Calls Tryd.prog F_strings_indexFunc #[.string s, .func (.func F_snap_Clean_1) #[] #[], .bool true] w fun e w' =>
    ∃ n : Int, e = .returned (.int .i64 n) ∧ decide (n ≥ 0) = !printB s ∧ Fr (fun _ => False) w w' := by
  refine vc_strings_indexFunc_clean_ok (R := fun v w' => ∃ n : Int, v = .int .i64 n ∧ decide (n ≥ 0) = !printB s ∧ Fr (fun _ => False) w w') ?_ (fun v w' ⟨n, h⟩ => ⟨n, by rw [h.1], h.2⟩)
  obtain ⟨w7, hr7, hi7, hf7⟩ := iter_new (P := Tryd.prog) (w := w) (t := 9) (s := s) (by kernel_rfl)
  refine ⟨w7, _, hr7, fun w' => ∃ p, IsIter w' w.heap.size s p ∧ p ≤ s.size ∧ Fr (fun _ => False) w w' ∧ ∀ k, k < p → 32 ≤ byt s k ∧ byt s k ≤ 126, itLeft w.heap.size, ⟨0, hi7, Nat.zero_le _, hf7, fun k hk => by omega⟩, ?_⟩
  rintro w11 ⟨p, hi, hp, hf, hn⟩
  by_cases hps : p < s.size
  · refine .inr ?_
    obtain ⟨w13, hr13, hi13, hf13⟩ := iter_next (P := Tryd.prog) hi hps 0
    have hfn : Fr (fun _ => False) w w13 := hf.trans hf13 fun k hk e => by omega
    refine ⟨w13, _, _, hr13, fun _ => (clean1_spec _ w13).mono ?_, fun h => (by cases h)⟩
    rintro e w15 ⟨rfl, hw⟩
    replace hw := hw.symm
    subst hw
    have bad : ∀ {k : Nat}, k < s.size → ¬ (32 ≤ byt s k ∧ byt s k ≤ 126) → printB s = false := fun hk h => by
      unfold printB
      exact decide_eq_false fun hall => h (hall _ hk)
    refine ⟨_, rfl, fun h => ⟨p, rfl, ?_, hfn⟩, fun h => ?_⟩
    · have hb : printB s = false := by
        refine bad hps fun hh => ?_
        rw [dec_low hps (by omega)] at h
        simp only [beq_iff_eq, Bool.or_eq_true, decide_eq_true_eq] at h
        omega
      rw [hb]
      exact decide_eq_true (by omega)
    · by_cases hb : byt s p < 128
      · rw [dec_low hps hb] at h hi13
        simp only [beq_eq_false_iff_ne, ne_eq, Bool.not_eq_true, Bool.or_eq_false_iff, decide_eq_false_iff_not] at h
        refine ⟨⟨p + 1, hi13, by omega, hfn, fun k hk => ?_⟩, by rw [hi13.left, hi.left]; omega⟩
        by_cases hkp : k = p
        · subst hkp; omega
        · exact hn k (by omega)
      · obtain ⟨d1, d2, d3, d4, d5⟩ := dec_high hps (by omega)
        exfalso
        have : decide (((Utf8.decode s p).1 : Int) > 126) = true := decide_eq_true (by omega)
        rw [this] at h
        simp at h
  · refine .inl ⟨w11, iter_end hi (by omega) 0, fun h => (by cases h), fun _ => ⟨-1, rfl, ?_, hf⟩⟩
    have : printB s = true := decide_eq_true fun k hk => hn k (by omega)
    rw [this]; rfl
theorem containsFunc_spec (s : ByteArray) (w : World) : Calls Tryd.prog F_strings_ContainsFunc #[.string s, .func (.func F_snap_Clean_1) #[] #[]] w fun e w' =>
    e = .returned (.bool (!printB s)) ∧ Fr (fun _ => False) w w' := by
  refine vc_strings_ContainsFunc_clean_ok (R := fun v w' => v = .bool (!printB s) ∧ Fr (fun _ => False) w w') ?_ (fun v w' h => ⟨by rw [h.1], h.2⟩)
  refine Calls.mono (R := fun e w' => ∃ n : Int, e = .returned (.int .i64 n) ∧ decide (n ≥ 0) = !printB s ∧ Fr (fun _ => False) w w') (vc_strings_IndexFunc_clean_ok (R := fun v w' => ∃ n : Int, v = .int .i64 n ∧ decide (n ≥ 0) = !printB s ∧ Fr (fun _ => False) w w') ?_ (fun v w' ⟨n, h⟩ => ⟨n, by rw [h.1], h.2⟩)) ?_
  · refine (indexFunc_spec s w).mono ?_
    rintro e w2 ⟨n, rfl, h⟩
    exact ⟨n, rfl, n, rfl, h⟩
  · rintro e w2 ⟨n, rfl, h, hf⟩
    exact ⟨n, rfl, by rw [h], hf⟩
/-- What SplitSeq hands back, and what it lays. -/
theorem splitSeq_spec (s : ByteArray) (w : World) : Calls Tryd.prog 32 #[.string s, .string ⟨#[47]⟩] w fun e w' =>
    e = .returned (.func (.func 71) #[] #[.pointer (some ⟨w.heap.size + 1, 0, none⟩), .pointer (some ⟨w.heap.size, 0, none⟩), .pointer (some ⟨w.heap.size + 2, 0, none⟩)]) ∧
    w' = ((w.alloc (.cells #[.string s] 9)).alloc (.cells #[.string ⟨#[47]⟩] 9)).alloc (.cells #[.int .i64 0] 3) := by
  have inner : Calls Tryd.prog 54 #[.string s, .string ⟨#[47]⟩, .int .i64 0] w fun e w' =>
    e = .returned (.func (.func 71) #[] #[.pointer (some ⟨w.heap.size + 1, 0, none⟩), .pointer (some ⟨w.heap.size, 0, none⟩), .pointer (some ⟨w.heap.size + 2, 0, none⟩)]) ∧
    w' = ((w.alloc (.cells #[.string s] 9)).alloc (.cells #[.string ⟨#[47]⟩] 9)).alloc (.cells #[.int .i64 0] 3) := by
    go_enter Tryd.func54, Tryd.ntmps54
    go_wp2
    go_ret
    exact ⟨by simp, rfl⟩
  go_enter Tryd.func32, Tryd.ntmps32
  go_wp2_with (refine inner.mono ?_; rintro e w' ⟨rfl, rfl⟩)
  go_ret
  exact ⟨rfl, rfl⟩
end Go.Proofs.YtoagdpjickippaaDoor
namespace Go.Proofs.YtoagdpjickippaaDoor
open Go Vc Go.Proofs Go.RowKit Go.Shelf
attribute [local go_sem] Oper.semAt_some

theorem toList_nil : (⟨#[]⟩ : ByteArray).toList = [] := by rw [ByteArray.toList_eq]
theorem toList_dot : (⟨#[46]⟩ : ByteArray).toList = [46] := by rw [ByteArray.toList_eq]
theorem toList_dots : (⟨#[46, 46]⟩ : ByteArray).toList = [46, 46] := by rw [ByteArray.toList_eq]
def partOK (p : ByteArray) : Bool := decide (p ≠ ⟨#[]⟩) && decide (p ≠ ⟨#[46]⟩) && decide (p ≠ ⟨#[46, 46]⟩)
def cleanB (s : ByteArray) : Bool := decide (s.size ≤ 200) && (partsF s.size s).all partOK && printB s
set_option maxRecDepth 100000 in
set_option maxHeartbeats 2000000 in
theorem clean_spec (s : ByteArray) (hs : s.size ≤ 140737488355328) (w : World) : Calls Tryd.prog 20 #[.string s] w fun e w' => e = .returned (.bool (cleanB s)) ∧ Fr (fun _ => False) w w' := by
  refine (callsIn_wide (n := 3)).1 ?_
  refine callsIn_of_wp_marks Tryd.func20 rfl trivial ?_ rfl
  simp only [Tryd.ntmps20, List.size_toArray, List.length_cons, List.length_nil, Nat.reduceAdd, Nat.reduceSub, Array.replicate_succ, Array.replicate_zero, List.push_toArray, List.append_toArray, List.nil_append, List.cons_append]
  have hcell0 : (w.alloc (.cells #[.bool false] 4)).cell? ⟨w.heap.size, 0, none⟩ = some (.bool false) := by rw [cell_blk (alloc_new w _)]; rfl
  by_cases hlen : s.size > 200
  · gi_wp2
    refine ⟨.bool false, ?_, ?_, .alloc _ _ _⟩
    · simp [results, Tryd.f20, go_sem, hcell0]
    · unfold cleanB
      rw [decide_eq_false (by omega)]; rfl
  · gi_wp2_with (refine ⟨trivial, ?_⟩; gi_at_call 32; refine (callsIn_wide.2 (splitSeq_spec s _)).mono ?_; rintro e w' ⟨rfl, rfl⟩)
    obtain ⟨w0, hw0⟩ : ∃ w0, w.alloc (.cells #[.bool false] 4) = w0 := ⟨_, rfl⟩
    have hsz : w0.heap.size = w.heap.size + 1 := by rw [← hw0]; simp
    have hb0 : w0.heap[w.heap.size]? = some (.cells #[.bool false] 4 (0, 0)) := by rw [← hw0]; exact alloc_new _ _
    have hf0 : Fr (fun _ => False) w w0 := by rw [← hw0]; exact .alloc _ _ _
    rw [hw0]
    obtain ⟨w1, hw1⟩ : ∃ w1, ((w0.alloc (.cells #[.string s] 9)).alloc (.cells #[.string ⟨#[47]⟩] 9)).alloc (.cells #[.int .i64 0] 3) = w1 := ⟨_, rfl⟩
    have hf1 : Fr (fun _ => False) w0 w1 := by rw [← hw1]; exact ((Fr.alloc _ _ _).trans' (.alloc _ _ _)).trans' (.alloc _ _ _)
    have n1 : (w0.alloc (.cells #[.string s] 9)).heap.size = w.heap.size + 1 + 1 := by simp [hsz]
    have n2 : ((w0.alloc (.cells #[.string s] 9)).alloc (.cells #[.string ⟨#[47]⟩] 9)).heap.size = w.heap.size + 1 + 2 := by simp [hsz]
    have hbs : w1.heap[w.heap.size + 1]? = some (.cells #[.string s] 9 (0, 0)) := by
      rw [← hw1, ← hsz]
      exact (Fr.alloc (fun _ => False) _ _).keep ((Fr.alloc (fun _ => False) _ _).keep (alloc_new w0 _) (by simp)) (by simp)
    have hbp : w1.heap[w.heap.size + 1 + 1]? = some (.cells #[.string ⟨#[47]⟩] 9 (0, 0)) := by
      rw [← hw1, ← n1]
      exact (Fr.alloc (fun _ => False) _ _).keep (alloc_new _ _) (by simp)
    have hbz : w1.heap[w.heap.size + 1 + 2]? = some (.cells #[.int .i64 0] 3 (0, 0)) := by
      rw [← hw1, ← n2]
      exact alloc_new _ _
    rw [hw1]
    clear hw1 n1 n2 hw0
    refine range_split (B := w.heap.size + 1) (b0 := w.heap.size + 1 + 1) (b1 := w.heap.size + 1) (b2 := w.heap.size + 1 + 2) (by omega) (by omega) (by omega) (by omega) (by omega) rfl s hs
      (by rw [cell_blk hbp]; rfl) (by rw [cell_blk hbs]; rfl) (by rw [cell_blk hbz]; rfl) (frozen_blk hbs 0)
      (fun pre W => (∀ p ∈ pre, partOK p = true) ∧ W.heap[w.heap.size]? = some (.cells #[.bool false] 4 (0, 0)) ∧ Fr (fun _ => False) w W)
      (fun pre W => (∃ p ∈ partsF s.size s, partOK p = false) ∧ W.cell? ⟨w.heap.size, 0, none⟩ = some (.bool false) ∧ Fr (fun _ => False) w W)
      (fun pre W W' ⟨h1, h2, h3⟩ hf => ⟨h1, hf.keep h2 (by omega), h3.trans hf fun q hq h => by omega⟩)
      (fun pre W W' ⟨h1, h2, h3⟩ hf => ⟨h1, hf.cell h2 (by simp only; omega), h3.trans hf fun q hq h => by omega⟩)
      ⟨by simp, hf1.keep hb0 (by simp), hf0.trans' hf1⟩
      (fun x => { tmps := #[.string s, undef, .pointer (some ⟨w.heap.size, 0, none⟩), .string x, .string s, .int .i64 s.size, .bool (decide (200 < (s.size : Int))), .string s, .func (.func 71) #[] #[.pointer (some ⟨w.heap.size + 1 + 1, 0, none⟩), .pointer (some ⟨w.heap.size + 1, 0, none⟩), .pointer (some ⟨w.heap.size + 1 + 2, 0, none⟩)], .string x, undef, undef, undef, undef, undef, undef, undef, undef, undef, undef, undef, undef, undef], defers := [] }) ?assign ?body ?done ?stop
    case assign =>
      intro l x W K hK
      gi_wp2
      exact hK
    case body =>
      rintro l pre x W ⟨hp, hcell, hf⟩ hr
      have hcc : W.cell? ⟨w.heap.size, 0, none⟩ = some (.bool false) := by rw [cell_blk hcell]; rfl
      have hcz : W.frozen? ⟨w.heap.size, 0, none⟩ = false := frozen_blk hcell 0
      have k1 : x.toList.isEmpty = decide (x = ⟨#[]⟩) := by
        rw [← bs_eq, toList_nil]
        cases x.toList <;> rfl
      have k2 : (x.toList == [46]) = decide (x = ⟨#[46]⟩) := by rw [← bs_eq, toList_dot]
      have k3 : (x.toList == [46, 46]) = decide (x = ⟨#[46, 46]⟩) := by rw [← bs_eq, toList_dots]
      have ret : partOK x = false → Fr (fun k => k < w.heap.size + 1) W (W.setCell ⟨w.heap.size, 0, none⟩ (.bool false)) ∧ (∃ p ∈ partsF s.size s, partOK p = false) ∧ (W.setCell ⟨w.heap.size, 0, none⟩ (.bool false)).cell? ⟨w.heap.size, 0, none⟩ = some (.bool false) ∧ Fr (fun _ => False) w (W.setCell ⟨w.heap.size, 0, none⟩ (.bool false)) := fun hx =>
        ⟨Fr.set _ _ _ (Nat.lt_succ_self _), ⟨x, by obtain ⟨r, hr⟩ := hr; rw [← hr]; simp, hx⟩, World.cell?_setCell_same' _ _ _ (by rw [hcc]; rfl), hf.trans (Fr.set (· = w.heap.size) _ _ rfl) fun q hq e => by omega⟩
      gi_wp2
      · rename_i hx
        exact ret (by unfold partOK; rw [hx]; rfl)
      · rename_i hx
        exact ret (by unfold partOK; rw [hx]; rfl)
      · rename_i hx
        exact ret (by unfold partOK; rw [hx]; rfl)
      · have h1 : ¬ x = ⟨#[]⟩ := by assumption
        have h2 : ¬ x = ⟨#[46]⟩ := by assumption
        have h3 : ¬ x = ⟨#[46, 46]⟩ := by assumption
        refine ⟨.refl _ _, fun p hpm => ?_, hcell, hf⟩
        rcases List.mem_append.1 hpm with hpm | hpm
        · exact hp p hpm
        · simp only [List.mem_cons, List.mem_nil_iff, or_false] at hpm
          subst hpm
          unfold partOK
          simp [h1, h2, h3]
    case done =>
      rintro D W hD ⟨hall, hcell, hf⟩ hK
      have hcc : W.cell? ⟨w.heap.size, 0, none⟩ = some (.bool false) := by rw [cell_blk hcell]; rfl
      have hcz : W.frozen? ⟨w.heap.size, 0, none⟩ = false := frozen_blk hcell 0
      gi_wp2_with (refine ⟨trivial, ?_⟩; gi_at_call 33; refine (callsIn_wide.2 (containsFunc_spec s _)).mono ?_; rintro e w' ⟨rfl, hf'⟩; have hcc' := hf'.cell hcc (by simp); have hcz' := frozen_blk (hf'.keep hcell (by simp)) 0)
      have hne : D ≠ w.heap.size := by have := hf1.size; omega
      have hst : Fr (· = w.heap.size) w' (w'.setCell ⟨w.heap.size, 0, none⟩ (.bool (printB s))) := .set _ _ _ rfl
      have hK' := hst.keep (hf'.keep hK (by simp)) hne
      refine ⟨by simp, .inl ⟨_, _, rfl, run_takeDeferred hK', ?_⟩⟩
      have hpt : Fr (· = D) (w'.setCell ⟨w.heap.size, 0, none⟩ (.bool (printB s))) ((w'.setCell ⟨w.heap.size, 0, none⟩ (.bool (printB s))).putObj D (.deferred none)) := (Fr.grown (grownBy_putObj' _ D _)).mono fun q _ h => by cases h; rfl
      have hc5 := hpt.cell (World.cell?_setCell_same' w' ⟨w.heap.size, 0, none⟩ (.bool (printB s)) (by rw [hcc']; rfl)) (fun h => hne h.symm)
      refine ⟨.bool (printB s), ?_, ?_, ?_⟩
      · simp [results, Tryd.f20, go_sem, hc5]
      · have : (partsF s.size s).all partOK = true := List.all_eq_true.2 hall
        unfold cleanB
        rw [this, decide_eq_true (by omega)]; rfl
      · have h1 := (hf.trans' hf').size
        have h2 := (hf0.trans' hf1).size
        exact ((hf.trans' hf').trans hst fun q hq e => by omega).trans hpt fun q hq e => by omega
    case stop =>
      rintro D pre W hD ⟨⟨p, hpm, hpb⟩, hcell, hf⟩ hK
      have hne : D ≠ w.heap.size := by have := hf1.size; omega
      gi_wp2
      refine ⟨by simp, .inl ⟨_, _, rfl, run_takeDeferred hK, ?_⟩⟩
      have hpt : Fr (· = D) W (W.putObj D (.deferred none)) := (Fr.grown (grownBy_putObj' _ D _)).mono fun q _ h => by cases h; rfl
      have hc5 := hpt.cell hcell (fun h => hne h.symm)
      refine ⟨.bool false, ?_, ?_, ?_⟩
      · simp [results, Tryd.f20, go_sem, hc5]
      · have : (partsF s.size s).all partOK = false := by
          rw [← Bool.not_eq_true, List.all_eq_true]
          intro h
          rw [h p hpm] at hpb; cases hpb
        unfold cleanB
        rw [this]; simp
      · have h2 := (hf0.trans' hf1).size
        exact hf.trans hpt fun q hq e => by omega
end Go.Proofs.YtoagdpjickippaaDoor

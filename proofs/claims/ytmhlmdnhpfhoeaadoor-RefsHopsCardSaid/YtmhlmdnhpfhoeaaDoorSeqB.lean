/- 'for part := range strings.SplitSeq(s, "/") { .. }': the loop's law, for a body that writes nothing and goes on, or writes what lay before and returns. Conditions: as named. -/
import Derived.Test.YtmhlmdnhpfhoeaaDoorSeqA
set_option linter.unusedVariables false
namespace Go.Proofs.YtmhlmdnhpfhoeaaDoor
open Go Vc Go.Proofs Go.RowKit Go.Shelf

/-- How a round's body ends. -/
def RoundEnd (I Ix : List ByteArray → World → Prop) (B : Nat) (xs : List ByteArray) (W : World) : Exit → Act → World → Prop
  | .normal, _, W' => Fr (fun _ => False) W W' ∧ I xs W'
  | .ret, _, W' => Fr (fun k => k < B) W W' ∧ Ix xs W'
  | _, _, _ => False
theorem range_split {g : Operand} {p : Tmp} {assign body : Code} {Q : Exit → Act → World → Prop} {a : Act} {w : World} {B b0 b1 b2 : Nat} (hB0 : B ≤ b0) (hB1 : B ≤ b1) (hB2 : B ≤ b2) (h01 : b0 ≠ b1) (h12 : b2 ≠ b1)
    (hg : a.eval g = .func (.func 82) #[] #[.pointer (some ⟨b0, 0, none⟩), .pointer (some ⟨b1, 0, none⟩), .pointer (some ⟨b2, 0, none⟩)])
    (s0 : ByteArray) (hs : s0.size ≤ 140737488355328) (hc0 : w.cell? ⟨b0, 0, none⟩ = some (.string ⟨#[47]⟩)) (hc1 : w.cell? ⟨b1, 0, none⟩ = some (.string s0)) (hc2 : w.cell? ⟨b2, 0, none⟩ = some (.int .i64 0)) (hfz : w.frozen? ⟨b1, 0, none⟩ = false)
    (I Ix : List ByteArray → World → Prop) (hI : ∀ pre W W', I pre W → Fr (fun k => B ≤ k) W W' → I pre W') (hIx : ∀ pre W W', Ix pre W → Fr (fun k => B ≤ k) W W' → Ix pre W') (h0 : I [] w) (a₁ : ByteArray → Act)
    (hassign : ∀ (l : Nat) (x : ByteArray) (W : World) (K : Act → World → Prop), K (a₁ x) W →
      assign.wpIn (Fence.wide.inRound l) 1 Tryd.prog (Exit.then K (fun _ _ _ => False)) { tmps := ((#[p] : Array Tmp).zip #[Value.string x]).foldl (fun t (p, v) => t.setIfInBounds p v) a.tmps, defers := [] } W)
    (hbody : ∀ (l : Nat) (pre : List ByteArray) (x : ByteArray) (W : World), I pre W → (∃ r, pre ++ x :: r = partsF s0.size s0) → body.wpIn (Fence.wide.inRound l) 1 Tryd.prog (RoundEnd I Ix B (pre ++ [x]) W) (a₁ x) W)
    (hdone : ∀ (D : Nat) (W : World), w.heap.size ≤ D → I (partsF s0.size s0) W → W.heap[D]? = some (.deferred (some [])) → Q .normal { a with defers := { target := .collected D, args := #[] } :: a.defers } W)
    (hstop : ∀ (D : Nat) (pre : List ByteArray) (W : World), w.heap.size ≤ D → Ix pre W → W.heap[D]? = some (.deferred (some [])) → Q .ret { a with defers := { target := .collected D, args := #[] } :: a.defers } W) :
    (Code.rangeFunc g #[p] assign body).wpIn Fence.wide 3 Tryd.prog Q a w := by
  have hl0 := World.block_lt_of_cell? w _ hc0
  have hl1 := World.block_lt_of_cell? w _ hc1
  have hl2 := World.block_lt_of_cell? w _ hc2
  simp only at hl0 hl1 hl2
  have put : ∀ {W : World} {k : Nat} {o : Obj}, Fr (· = k) W (W.putObj k o) := fun {W k o} => (Fr.grown (grownBy_putObj' W k o)).mono fun q _ h => by cases h; rfl
  have hup : ∀ {q : Nat}, q = w.heap.size + 1 → B ≤ q := fun h => by omega
  have hge : ∀ {q : Nat}, q = w.heap.size + 1 → w.heap.size ≤ q := fun h => by omega
  refine wpIn_rangeFunc ?_
  intro fn hfn
  obtain ⟨rec, hrec⟩ : ∃ rec : LoopState → Option Code → Loop, rec = fun st pe => { state := st, pending := pe, fn, tmps := a.tmps, params := #[p], assign, body, defers := w.heap.size } := ⟨_, rfl⟩
  obtain ⟨W1, hW1⟩ : ∃ W1, (w.alloc (.deferred (some []))).alloc (.loop (rec .ready none)) = W1 := ⟨_, rfl⟩
  have hL1 : W1.heap[w.heap.size + 1]? = some (.loop (rec .ready none)) := by
    rw [← hW1]; have := World.alloc_heap_new (w.alloc (.deferred (some []))) (.loop (rec .ready none)); rwa [World.size_alloc] at this
  have hK1 : W1.heap[w.heap.size]? = some (.deferred (some [])) := by
    rw [← hW1]; exact (Below.heap_alloc _ _ _ (by simp)).trans (World.alloc_heap_new w _)
  have hf1 : Fr (fun _ => False) w W1 := by rw [← hW1]; exact (Fr.alloc _ _ _).trans' (.alloc _ _ _)
  refine ⟨w.heap.size + 1, [{ target := .collected w.heap.size, args := #[] }], W1, { target := .fn (.func 82) #[.pointer (some ⟨b0, 0, none⟩), .pointer (some ⟨b1, 0, none⟩), .pointer (some ⟨b2, 0, none⟩)], args := #[.func (.yield (w.heap.size + 1)) #[] #[]] }, W1, 82,
    #[.func (.yield (w.heap.size + 1)) #[] #[], .pointer (some ⟨b0, 0, none⟩), .pointer (some ⟨b1, 0, none⟩), .pointer (some ⟨b2, 0, none⟩)], W1, ?_, ?_, ?_, ?_, fun h => (by cases h), ?_⟩
  · rw [← hW1, hrec]; exact run_enterLoop_outer _ _ _ _ _
  · simp only [resolve, hg]
    simp [go_sem]
  · exact fun f' _ => trivial
  · have eg := enters_of (P := Tryd.prog) Tryd.func82 (by kernel_rfl) rfl
    simp [invoke, go_sem, eg]
  · -- the rounds
    have hidx : ∀ {W W' : World} {X : Nat → Prop}, Fr X W W' → (∀ k, X k → k = b1) → (W.heap[w.heap.size + 1]? = some (.loop (rec .ready none)) ∧ W.heap[w.heap.size]? = some (.deferred (some []))) →
        (W'.heap[w.heap.size + 1]? = some (.loop (rec .ready none)) ∧ W'.heap[w.heap.size]? = some (.deferred (some []))) := fun hf hx h => ⟨hf.keep h.1 fun e => by have := hx _ e; omega, hf.keep h.2 fun e => by have := hx _ e; omega⟩
    refine (splitSeq_rounds 2 (by decide) (w.heap.size + 1) b0 b1 b2 w.heap.size hl0 hl1 hl2 h01 h12 s0 hs s0.size (Nat.le_refl _)
      (fun pre W => I pre W ∧ W.heap[w.heap.size + 1]? = some (.loop (rec .ready none)) ∧ W.heap[w.heap.size]? = some (.deferred (some [])))
      (fun pre W => Ix pre W ∧ W.heap[w.heap.size + 1]? = some (.loop (rec .done (some .ret))) ∧ W.heap[w.heap.size]? = some (.deferred (some [])))
      (fun pre W W' h hf => ⟨hI _ _ _ h.1 (hf.mono fun k _ e => by rw [e]; exact hB1), hidx hf (fun k e => e) h.2⟩)
      ?_ W1 (hf1.cell hc0 (by simp)) (hf1.cell hc1 (by simp)) (hf1.cell hc2 (by simp)) ?_ ⟨hI _ _ _ h0 (hf1.mono fun _ _ h => h.elim), hL1, hK1⟩).mono ?_
    · -- one round
      rintro pre x W ⟨hi, hl, hk⟩ hr
      have hlt : w.heap.size + 1 < W.heap.size := (Array.getElem?_eq_some_iff.1 hl).1
      have hy := run_yield (P := Tryd.prog) (args := #[.string x]) hl (by rw [hrec]; rfl)
      rw [hrec] at hy
      refine ⟨fn, _, assign, body, hy, roundIn_of_wpIn hfn ?_⟩
      refine hassign _ x W _ ⟨_, run_beginRound hl (by rw [hrec]), ?_⟩
      obtain ⟨W2, hW2⟩ : ∃ W2, W.putObj (w.heap.size + 1) (.loop { rec .ready none with state := .busy }) = W2 := ⟨_, rfl⟩
      rw [hW2]
      have hp2 : Fr (· = w.heap.size + 1) W W2 := by rw [← hW2]; exact put
      have hl2 : W2.heap[w.heap.size + 1]? = some (.loop { rec .ready none with state := .busy }) := by rw [← hW2]; exact World.putObj_heap_same hlt
      have hk2 : W2.heap[w.heap.size]? = some (.deferred (some [])) := hp2.keep hk (by omega)
      refine wpIn_mono (hbody _ pre x W2 (hI _ _ _ hi (hp2.mono fun k _ h => hup h)) hr) ?_
      have fin : ∀ (jump : Option Code) (W3 : World), W3.heap[w.heap.size + 1]? = some (.loop { rec .ready none with state := .busy }) → W3.heap[w.heap.size]? = some (.deferred (some [])) →
          (Instr.endRound (w.heap.size + 1) jump).run Tryd.prog W3 = .ok (.bool jump.isNone) (W3.putObj (w.heap.size + 1) (.loop (rec (if jump.isNone then .ready else .done) jump))) ∧
          (W3.putObj (w.heap.size + 1) (.loop (rec (if jump.isNone then .ready else .done) jump))).heap[w.heap.size + 1]? = some (.loop (rec (if jump.isNone then .ready else .done) jump)) ∧
          (W3.putObj (w.heap.size + 1) (.loop (rec (if jump.isNone then .ready else .done) jump))).heap[w.heap.size]? = some (.deferred (some [])) := fun jump W3 hl3 hk3 => by
        have := run_endRound (P := Tryd.prog) jump hl3
        refine ⟨?_, World.putObj_heap_same (Array.getElem?_eq_some_iff.1 hl3).1, (World.putObj_heap_other (by omega)).trans hk3⟩
        rw [hrec] at this ⊢
        exact this
      rintro e a3 W3 hp
      cases e with
      | normal =>
        obtain ⟨hf3, hi3⟩ := hp
        obtain ⟨hr3, hl4, hk4⟩ := fin none W3 (hf3.keep hl2 (by simp)) (hf3.keep hk2 (by simp))
        refine ⟨_, _, hr3, .inl ⟨rfl, ⟨hI _ _ _ hi3 (put.mono fun k _ h => hup h), hl4, hk4⟩, ?_⟩⟩
        exact Fr.below (((hp2.trans hf3 fun q _ h => h.elim).trans' put).mono fun k _ h => hge h) (by omega)
      | ret =>
        obtain ⟨hf3, hi3⟩ := hp
        obtain ⟨hr3, hl4, hk4⟩ := fin (some .ret) W3 (hf3.keep hl2 (fun h => Nat.not_lt.2 (Nat.le_of_lt (Nat.lt_of_le_of_lt hB0 (Nat.lt_succ_of_lt hl0))) h)) (hf3.keep hk2 (fun h => Nat.not_lt.2 (Nat.le_of_lt (Nat.lt_of_le_of_lt hB0 hl0)) h))
        exact ⟨_, _, hr3, .inr ⟨rfl, hIx _ _ _ hi3 (put.mono fun k _ h => hup h), hl4, hk4⟩⟩
      | exit id => exact hp.elim
      | goto t => exact hp.elim
      | panic ch => exact hp.elim
      | outgrown => exact hp.elim
    · rw [← hW1]
      exact (World.frozen?_of_block (by rw [hW1]; exact hf1.blk b1 hl1 (by simp))).trans hfz
    · -- behind the iterator
      rintro e W2 ⟨⟨v, rfl⟩, (⟨hi, hl, hk⟩ | ⟨pre, hi, hl, hk⟩)⟩
      · refine ⟨none, _, by have := run_endLoop (P := Tryd.prog) hl (by rw [hrec]; simp); rw [hrec] at this; exact this, hdone _ _ (Nat.le_refl _) (hI _ _ _ hi (put.mono fun k _ h => hup h)) ((World.putObj_heap_other (by omega)).trans hk)⟩
      · refine ⟨some .ret, _, by have := run_endLoop (P := Tryd.prog) hl (by rw [hrec]; simp); rw [hrec] at this; exact this, ?_⟩
        exact wpIn_ret (hstop w.heap.size pre _ (Nat.le_refl _) (hIx _ _ _ hi (put.mono fun k _ h => hup h)) ((World.putObj_heap_other (by omega)).trans hk))
end Go.Proofs.YtmhlmdnhpfhoeaaDoor

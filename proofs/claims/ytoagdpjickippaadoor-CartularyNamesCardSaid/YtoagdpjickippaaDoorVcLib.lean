/- Small laws for reading formulas: cells of known blocks, frames, wraps and bits. No condition: for all programs. -/
import Derived.Test.YtoagdpjickippaaDoorVcCode
set_option linter.unusedVariables false
namespace Vc
open Go

/-! ### Blocks -/
section
variable {w w2 : World} {b : Nat} {cs : Array Value} {t : TypeId} {fz : Nat × Nat}
theorem cell_blk (h : w.heap[b]? = some (.cells cs t fz)) (i : Nat) : w.cell? ⟨b, i, none⟩ = cs[i]? := by simp [World.cell?, h]
theorem frozen_blk (h : w.heap[b]? = some (.cells cs t (0, 0))) (i : Nat) : w.frozen? ⟨b, i, none⟩ = false := by simp [World.frozen?, h]
theorem lt_blk {o : Obj} (h : w.heap[b]? = some o) : b < w.heap.size := (Array.getElem?_eq_some_iff.1 h).1
theorem wr_blk (h : w.heap[b]? = some (.cells cs t (0, 0))) {i : Nat} (hi : i < cs.size) : Wr w ⟨b, i, none⟩ :=
  ⟨⟨cs[i], by rw [cell_blk h]; simp [hi]⟩, frozen_blk h i⟩
theorem set_blk (h : w.heap[b]? = some (.cells cs t fz)) (i : Nat) (v : Value) : (w.setCell ⟨b, i, none⟩ v).heap[b]? = some (.cells (cs.setIfInBounds i v) t fz) := by
  have hlt := lt_blk h
  have h' : w.heap[b] = .cells cs t fz := by simpa [Array.getElem?_eq_getElem hlt] using h
  show (w.heap.modify b _)[b]? = _
  rw [Array.getElem?_eq_getElem (by simpa using hlt), Array.getElem_modify_self, h']
  rfl
theorem set_other {a : Addr} (h : b ≠ a.block) (v : Value) : (w.setCell a v).heap[b]? = w.heap[b]? := by
  simp only [World.setCell, Array.getElem?_modify]
  rw [if_neg (fun e => h e.symm)]
theorem alloc_new (w : World) (o : Obj) : (w.alloc o).heap[w.heap.size]? = some o := by
  show (w.heap.push o)[w.heap.size]? = _
  simp
theorem alloc_old (w : World) (o : Obj) {k : Nat} (h : k < w.heap.size) : (w.alloc o).heap[k]? = w.heap[k]? := by
  show (w.heap.push o)[k]? = _
  rw [Array.getElem?_push, if_neg (by omega)]
theorem Drew.heap (h : Drew w w2) : w2.heap = w.heap := by obtain ⟨n, rfl⟩ := h; rfl
theorem Drew.refl (w : World) : Drew w w := ⟨0, rfl⟩
theorem Drew.trans {w3 : World} (h : Drew w w2) (h' : Drew w2 w3) : Drew w w3 := by
  obtain ⟨n, rfl⟩ := h; obtain ⟨m, rfl⟩ := h'; exact ⟨n + m, by simp⟩
theorem Drew.cell (h : Drew w w2) (a : Addr) : w2.cell? a = w.cell? a := by obtain ⟨n, rfl⟩ := h; rfl
end

/-- Outside the blocks X all that was there is as it was. -/
structure Fr (X : Nat → Prop) (w w' : World) : Prop where
  os : w'.os = w.os
  tape : w'.tape = w.tape
  output : w'.output = w.output
  size : w.heap.size ≤ w'.heap.size
  blk : ∀ k, k < w.heap.size → ¬ X k → w'.heap[k]? = w.heap[k]?
section
variable {X Y : Nat → Prop} {w w1 w2 : World}
theorem Fr.refl (X : Nat → Prop) (w : World) : Fr X w w := ⟨rfl, rfl, rfl, Nat.le_refl _, fun _ _ _ => rfl⟩
theorem Fr.trans (h : Fr X w w1) (h' : Fr Y w1 w2) (hxy : ∀ k, k < w.heap.size → Y k → X k) : Fr X w w2 :=
  ⟨h'.os.trans h.os, h'.tape.trans h.tape, h'.output.trans h.output, Nat.le_trans h.size h'.size,
    fun k hk hx => (h'.blk k (Nat.lt_of_lt_of_le hk h.size) (fun hy => hx (hxy k hk hy))).trans (h.blk k hk hx)⟩
theorem Fr.trans' (h : Fr X w w1) (h' : Fr X w1 w2) : Fr X w w2 := h.trans h' fun _ _ h => h
theorem Fr.mono (h : Fr X w w1) (hxy : ∀ k, k < w.heap.size → X k → Y k) : Fr Y w w1 :=
  ⟨h.os, h.tape, h.output, h.size, fun k hk hy => h.blk k hk (fun hx => hy (hxy k hk hx))⟩
theorem Fr.drew (X : Nat → Prop) (h : Drew w w1) : Fr X w w1 := by obtain ⟨n, rfl⟩ := h; exact ⟨rfl, rfl, rfl, Nat.le_refl _, fun _ _ _ => rfl⟩
theorem Fr.set (X : Nat → Prop) (w : World) {a : Addr} (v : Value) (h : X a.block) : Fr X w (w.setCell a v) :=
  ⟨rfl, rfl, rfl, by simp, fun _ _ hx => set_other (fun e => hx (by rw [e]; exact h)) v⟩
theorem Fr.alloc (X : Nat → Prop) (w : World) (o : Obj) : Fr X w (w.alloc o) := ⟨rfl, rfl, rfl, by simp, fun _ hk _ => alloc_old w o hk⟩
theorem Fr.grown {r : Option Nat} (h : w.grownBy w1 r) : Fr (fun k => some k = r) w w1 := ⟨h.os, h.tape, h.output, h.size, fun k hk hx => h.block k hk hx⟩
theorem Fr.below {B : Nat} (h : Fr (fun k => B ≤ k) w w1) (hB : B ≤ w.heap.size) : RowKit.Below B w w1 :=
  ⟨h.os, h.tape, h.output, h.size, fun k hk => h.blk k (by omega) (by omega)⟩
theorem Fr.keep (h : Fr X w w1) {k : Nat} {o : Obj} (hk : w.heap[k]? = some o) (hx : ¬ X k) : w1.heap[k]? = some o := (h.blk k (lt_blk hk) hx).trans hk
end

theorem Fr.cell {X : Nat → Prop} {w w1 : World} (h : Fr X w w1) {a : Addr} {v : Value} (hc : w.cell? a = some v) (hx : ¬ X a.block) : w1.cell? a = some v := by
  have hlt := World.block_lt_of_cell? w a hc
  rw [← hc]; unfold World.cell?; rw [h.blk a.block hlt hx]
/-- A slice of integers that came in: nil, or a row of cells. -/
def IsRow (k : IntKind) (w : World) (a : Option Addr) (len cap : Nat) (zs : List Int) : Prop :=
  (a = none ∧ len = 0 ∧ cap = 0 ∧ zs = []) ∨
  ∃ x, a = some x ∧ len ≤ cap ∧ cap ≤ maxLen ∧ zs.length = cap ∧ (∀ i, i < zs.length → w.cell? (x.add i) = some (.int k (zs.getD i 0))) ∧ ∀ n ∈ zs, (Lit.int k n).wf = true
theorem add_block (a : Addr) (n : Nat) : (a.add n).block = a.block := by unfold Addr.add; split <;> rfl
/-- Its element at a place, while all that stood at the beginning stands. -/
theorem IsRow.at {k : IntKind} {w w1 : World} {a : Option Addr} {len cap : Nat} {zs : List Int} (h : IsRow k w a len cap zs) {i : Nat} (hi : i < len) (hf : Fr (fun b => w.heap.size ≤ b) w w1) :
    ∃ x, a = some x ∧ w1.cell? (x.add i) = some (.int k (zs.getD i 0)) := by
  rcases h with ⟨_, h, _⟩ | ⟨x, hx, hl, _, hz, hc, _⟩
  · omega
  · have h1 := hc i (by omega)
    have hlt := World.block_lt_of_cell? w _ h1
    exact ⟨x, hx, hf.cell h1 (by simpa using hlt)⟩

/-! ### Numbers -/
theorem wrap_u {k : IntKind} {m : Nat} (hk : k.signed = false) (hb : k.bits = m) {x : Int} (h0 : 0 ≤ x) (h1 : x < 2 ^ m) : k.wrap x = x := by
  subst hb
  unfold IntKind.wrap
  simp only [hk, Bool.false_and, Bool.false_eq_true, if_false]
  exact Int.emod_eq_of_lt h0 h1
theorem wrap_u64 {x : Int} (h0 : 0 ≤ x) (h1 : x < 18446744073709551616) : IntKind.u64.wrap x = x := wrap_u rfl rfl h0 h1
theorem wrap_u32 {x : Int} (h0 : 0 ≤ x) (h1 : x < 4294967296) : IntKind.u32.wrap x = x := wrap_u rfl rfl h0 h1
theorem wrap_u8 {x : Int} (h0 : 0 ≤ x) (h1 : x < 256) : IntKind.u8.wrap x = x := wrap_u rfl rfl h0 h1
theorem wrap_u16 {x : Int} (h0 : 0 ≤ x) (h1 : x < 65536) : IntKind.u16.wrap x = x := wrap_u rfl rfl h0 h1
theorem wrap_i64 {x : Int} (h0 : -9223372036854775808 ≤ x) (h1 : x < 9223372036854775808) : IntKind.i64.wrap x = x := by
  unfold IntKind.wrap
  simp only [IntKind.bits, IntKind.signed, Bool.true_and]
  split <;> rename_i h <;> simp only [ge_iff_le, decide_eq_true_eq] at h <;> omega
theorem wrap_u64_mod (x : Int) : IntKind.u64.wrap x = x % 18446744073709551616 := by
  unfold IntKind.wrap; simp only [IntKind.bits, IntKind.signed, Bool.false_and, Bool.false_eq_true, if_false]; rfl
theorem wrap_u32_mod (x : Int) : IntKind.u32.wrap x = x % 4294967296 := by
  unfold IntKind.wrap; simp only [IntKind.bits, IntKind.signed, Bool.false_and, Bool.false_eq_true, if_false]; rfl
theorem wrap_u8_mod (x : Int) : IntKind.u8.wrap x = x % 256 := by
  unfold IntKind.wrap; simp only [IntKind.bits, IntKind.signed, Bool.false_and, Bool.false_eq_true, if_false]; rfl
theorem bv_nat (m a : Nat) (h : a < 2 ^ m) : (BitVec.ofInt m (a : Int)).toNat = a := by
  rw [BitVec.toNat_ofInt]
  have : ((a : Int) % ((2 ^ m : Nat) : Int)) = (a : Int) := Int.emod_eq_of_lt (by omega) (by exact_mod_cast h)
  rw [this]; simp
theorem or_nat (m a b : Nat) (ha : a < 2 ^ m) (hb : b < 2 ^ m) : (BitVec.ofInt m (a : Int) ||| BitVec.ofInt m (b : Int)).toNat = a ||| b := by
  rw [BitVec.toNat_or, bv_nat m a ha, bv_nat m b hb]
theorem and_nat (m a b : Nat) (ha : a < 2 ^ m) (hb : b < 2 ^ m) : (BitVec.ofInt m (a : Int) &&& BitVec.ofInt m (b : Int)).toNat = a &&& b := by
  rw [BitVec.toNat_and, bv_nat m a ha, bv_nat m b hb]
theorem xor_nat (m a b : Nat) (ha : a < 2 ^ m) (hb : b < 2 ^ m) : (BitVec.ofInt m (a : Int) ^^^ BitVec.ofInt m (b : Int)).toNat = a ^^^ b := by
  rw [BitVec.toNat_xor, bv_nat m a ha, bv_nat m b hb]

/-- The byte at a place, nought beyond the end. -/
def byt (s : ByteArray) (i : Nat) : Nat := ((s.data.toList[i]?).getD 0).toNat
theorem byt_lt (s : ByteArray) (i : Nat) : byt s i < 256 := (((s.data.toList[i]?).getD 0)).toNat_lt
theorem byteAt_nat (s : ByteArray) (i : Nat) : byteAt s (i : Int) = (byt s i : Int) := by simp [byteAt, byt]
end Vc

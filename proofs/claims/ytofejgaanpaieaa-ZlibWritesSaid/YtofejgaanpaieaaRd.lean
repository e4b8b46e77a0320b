/- What each method of the bit reader does, for every reader that is in order. Conditions: the text is no longer than a Go string can be, the number of bits is from 0 to 32 where it is asked. -/
import Derived.Test.YtofejgaanpaieaaRdM
import Derived.Test.YtofejgaanpaieaaBitin
set_option linter.unusedVariables false
namespace Go.Proofs.Ytofejgaanpaieaa
open Go Vc BitsM Go.Proofs

/-- A reader's block. -/
abbrev RdO (s : ByteArray) (at_ pos : Nat) (from_ : Int) : Obj :=
  .cells #[.string s, .int .i64 at_, .int .u64 (held s at_ pos), .int .i64 ((8 * at_ - pos : Nat) : Int), .int .i64 from_] T_bitin_Reader
structure RdAt (w : World) (b : Nat) (s : ByteArray) (pos : Nat) (from_ : Int) (at_ : Nat) : Prop where
  lo : pos ≤ 8 * at_
  hi : 8 * at_ ≤ pos + 39
  sz : at_ ≤ s.size
  ok : s.size ≤ 140737488351232
  blk : w.heap[b]? = some (RdO s at_ pos from_)
section
variable {w w2 : World} {b : Nat} {s : ByteArray} {pos : Nat} {from_ : Int} {at_ : Nat}
theorem RdAt.c0 (h : RdAt w b s pos from_ at_) : w.cell? ⟨b, 0, none⟩ = some (.string s) := by rw [cell_blk h.blk]; rfl
theorem RdAt.c1 (h : RdAt w b s pos from_ at_) : w.cell? ⟨b, 1, none⟩ = some (.int .i64 at_) := by rw [cell_blk h.blk]; rfl
theorem RdAt.c2 (h : RdAt w b s pos from_ at_) : w.cell? ⟨b, 2, none⟩ = some (.int .u64 (held s at_ pos)) := by rw [cell_blk h.blk]; rfl
theorem RdAt.c3 (h : RdAt w b s pos from_ at_) : w.cell? ⟨b, 3, none⟩ = some (.int .i64 ((8 * at_ - pos : Nat) : Int)) := by rw [cell_blk h.blk]; rfl
theorem RdAt.c4 (h : RdAt w b s pos from_ at_) : w.cell? ⟨b, 4, none⟩ = some (.int .i64 from_) := by rw [cell_blk h.blk]; rfl
theorem RdAt.drew (h : RdAt w b s pos from_ at_) (d : Drew w w2) : RdAt w2 b s pos from_ at_ := ⟨h.lo, h.hi, h.sz, h.ok, by rw [d.heap]; exact h.blk⟩
theorem RdAt.held64 (h : RdAt w b s pos from_ at_) : held s at_ pos < 2 ^ 39 :=
  Nat.lt_of_lt_of_le (held_lt s at_ pos h.lo) (Nat.pow_le_pow_right (by decide) (by have := h.hi; omega))
theorem RdAt.keep (h : RdAt w b s pos from_ at_) {X : Nat → Prop} (hf : Fr X w w2) (hx : ¬ X b) : RdAt w2 b s pos from_ at_ := ⟨h.lo, h.hi, h.sz, h.ok, hf.keep h.blk hx⟩
end

def cellNat (w : World) (a : Addr) : Nat := match w.cell? a with
  | some (.int _ n) => n.toNat
  | _ => 0

theorem fill_or {s : ByteArray} {at_ pos : Nat} (hlo : pos ≤ 8 * at_) (hhi : 8 * at_ ≤ pos + 39) :
    IntKind.u64.wrap (↑((BitVec.ofInt 64 ((held s at_ pos : Nat) : Int) ||| BitVec.ofInt 64 (IntKind.u64.wrap (IntKind.u64.wrap ((byt s at_ : Nat) : Int) * 2 ^ min ((8 * at_ - pos : Nat) : Int).toNat 64))).toNat) : Int) = ((held s (at_ + 1) pos : Nat) : Int) := by
  have hb := byt_lt s at_
  have h1 : held s at_ pos < 2 ^ 64 := Nat.lt_of_lt_of_le (held_lt s at_ pos hlo) (Nat.pow_le_pow_right (by decide) (by omega))
  rw [wrap_u64 (x := ((byt s at_ : Nat) : Int)) (by omega) (by omega)]
  have hm : min ((8 * at_ - pos : Nat) : Int).toNat 64 = 8 * at_ - pos := by simp only [Int.toNat_natCast]; omega
  rw [hm]
  have hp : 2 ^ (8 * at_ - pos) ≤ 2 ^ 39 := Nat.pow_le_pow_right (by decide) (by omega)
  have hx : byt s at_ * 2 ^ (8 * at_ - pos) < 2 ^ 64 := by
    have : byt s at_ * 2 ^ (8 * at_ - pos) ≤ 255 * 2 ^ 39 := Nat.mul_le_mul (by omega) hp
    omega
  have hcast : ((byt s at_ : Nat) : Int) * 2 ^ (8 * at_ - pos) = ((byt s at_ * 2 ^ (8 * at_ - pos) : Nat) : Int) := by push_cast; rfl
  rw [hcast, wrap_u64 (x := ((byt s at_ * 2 ^ (8 * at_ - pos) : Nat) : Int)) (by omega) (by omega), or_nat 64 _ _ h1 hx, held_or s at_ pos hlo]
  have := held_lt s (at_ + 1) pos (by omega)
  have h3 : 2 ^ (8 * (at_ + 1) - pos) ≤ 2 ^ 47 := Nat.pow_le_pow_right (by decide) (by omega)
  exact wrap_u64 (by omega) (by omega)

theorem fill_spec {b : Nat} {s : ByteArray} {pos : Nat} {from_ : Int} {at_ : Nat} {w : World} (h : RdAt w b s pos from_ at_) {n : Int} (h0 : 0 ≤ n) (hn : n ≤ 32) :
    Calls Try.prog F_bitin_Reader_fill #[.pointer (some ⟨b, 0, none⟩), .int .i64 n] w fun e w' => e = .returned (.tuple #[]) ∧
      ∃ at1, RdAt w' b s pos from_ at1 ∧ (n ≤ ((8 * at1 - pos : Nat) : Int) ∨ at1 = s.size) ∧ Fr (· = b) w w' := by
  refine vc_bitin_Reader_fill_ok (R := fun v w' => v = .tuple #[] ∧ ∃ at1, RdAt w' b s pos from_ at1 ∧ (n ≤ ((8 * at1 - pos : Nat) : Int) ∨ at1 = s.size) ∧ Fr (· = b) w w') ?_ (fun v w' h => ⟨by rw [h.1], h.2⟩)
  refine ⟨fun wr => ∃ at1, RdAt wr b s pos from_ at1 ∧ Fr (· = b) w wr, fun wr => s.size - cellNat wr ⟨b, 1, none⟩, ⟨at_, h, .refl _ _⟩, ?_⟩
  rintro w3 ⟨at1, h1, hf⟩
  refine ⟨_, h1.c3, fun hlt => ⟨_, h1.c1, _, h1.c0, fun w7 d7 => ⟨fun hl2 w8 d8 => ?_, fun hge => ?_⟩⟩, fun hge w18 d => ⟨rfl, at1, h1.drew d, .inl (by simpa using hge), hf.trans' (.drew _ d)⟩⟩
  · have h8 := (h1.drew d7).drew d8
    have hlt' : ((8 * at1 - pos : Nat) : Int) < n := of_decide_eq_true hlt
    have hl2' : at1 < s.size := by have := of_decide_eq_true hl2; omega
    refine ⟨_, h8.c2, _, h8.c0, _, h8.c1, ⟨by omega, by omega⟩, _, h8.c3, by omega, wr_blk h8.blk (by simp), ?_⟩
    rintro w13 rfl
    have e1 := set_blk h8.blk 2 (.int .u64 ((held s (at1 + 1) pos : Nat) : Int))
    rw [byteAt_nat, fill_or (by have := h1.lo; omega) (by have := h1.lo; omega)]
    refine ⟨((at1 : Nat) : Int), by rw [cell_blk e1]; rfl, wr_blk e1 (by simp), ?_⟩
    rintro w15 rfl
    have hat : IntKind.i64.wrap (((at1 : Nat) : Int) + 1) = ((at1 + 1 : Nat) : Int) := by rw [wrap_i64 (by have := h1.ok; omega) (by have := h1.ok; omega)]; omega
    rw [hat]
    have e2 := set_blk e1 1 (.int .i64 ((at1 + 1 : Nat) : Int))
    refine ⟨((8 * at1 - pos : Nat) : Int), by rw [cell_blk e2]; rfl, wr_blk e2 (by simp), ?_⟩
    rintro w17 rfl
    have hh : IntKind.i64.wrap (((8 * at1 - pos : Nat) : Int) + 8) = ((8 * (at1 + 1) - pos : Nat) : Int) := by
      have := h1.lo; rw [wrap_i64 (by omega) (by omega)]; omega
    rw [hh]
    have e3 := set_blk e2 3 (.int .i64 ((8 * (at1 + 1) - pos : Nat) : Int))
    have hrd : RdAt _ b s pos from_ (at1 + 1) := ⟨by have := h1.lo; omega, by have := h1.lo; omega, by omega, h1.ok, e3⟩
    refine ⟨⟨at1 + 1, hrd, ?_⟩, ?_⟩
    · exact ((((hf.trans' (.drew _ d7)).trans' (.drew _ d8)).trans' (.set _ _ _ rfl)).trans' (.set _ _ _ rfl)).trans' (.set _ _ _ rfl)
    · have c1 := hrd.c1
      have c1' := h1.c1
      simp only [cellNat, c1, c1', Int.toNat_natCast]
      omega
  · have : ¬ at1 < s.size := by have := of_decide_eq_false hge; omega
    exact ⟨rfl, at1, h1.drew d7, .inr (by have := h1.sz; omega), hf.trans' (.drew _ d7)⟩

/-- A reader in order, at bit pos. -/
def Rd (w : World) (b : Nat) (s : ByteArray) (pos : Nat) (from_ : Int) : Prop := ∃ at_, RdAt w b s pos from_ at_
theorem Rd.drew {w w2 : World} {b : Nat} {s : ByteArray} {pos : Nat} {from_ : Int} (h : Rd w b s pos from_) (d : Drew w w2) : Rd w2 b s pos from_ := h.imp fun _ h => h.drew d
theorem Rd.keep {w w2 : World} {b : Nat} {s : ByteArray} {pos : Nat} {from_ : Int} (h : Rd w b s pos from_) {X : Nat → Prop} (hf : Fr X w w2) (hx : ¬ X b) : Rd w2 b s pos from_ := h.imp fun _ h => h.keep hf hx
theorem Rd.pos_le {w : World} {b : Nat} {s : ByteArray} {pos : Nat} {from_ : Int} (h : Rd w b s pos from_) : pos ≤ 8 * s.size := by
  obtain ⟨a, h⟩ := h; have := h.lo; have := h.sz; omega
theorem Rd.lt {w : World} {b : Nat} {s : ByteArray} {pos : Nat} {from_ : Int} (h : Rd w b s pos from_) : b < w.heap.size := by obtain ⟨a, h⟩ := h; exact lt_blk h.blk

/-- How many bits are left. -/
def left (s : ByteArray) (pos : Nat) : Nat := 8 * s.size - pos

theorem left_spec {b : Nat} {s : ByteArray} {pos : Nat} {from_ : Int} {w : World} (h : Rd w b s pos from_) :
    Calls Try.prog F_bitin_Reader_Left #[.pointer (some ⟨b, 0, none⟩)] w fun e w' => e = .returned (.int .i64 ((left s pos : Nat) : Int)) ∧ Drew w w' := by
  obtain ⟨a, h⟩ := h
  refine vc_bitin_Reader_Left_ok (R := fun v w' => v = .int .i64 ((left s pos : Nat) : Int) ∧ Drew w w') ?_ (fun v w' h => ⟨by rw [h.1], h.2⟩)
  refine ⟨_, h.c0, _, h.c1, _, h.c3, fun w1 d => ⟨?_, d⟩⟩
  have := h.lo; have := h.hi; have := h.sz; have := h.ok
  have e1 : IntKind.i64.wrap ((s.size : Int) - (a : Int)) = (s.size : Int) - (a : Int) := wrap_i64 (by omega) (by omega)
  rw [e1]
  have e2 : IntKind.i64.wrap (8 * ((s.size : Int) - (a : Int))) = 8 * ((s.size : Int) - (a : Int)) := wrap_i64 (by omega) (by omega)
  rw [e2, wrap_i64 (by omega) (by omega)]
  unfold left
  congr 1; omega

/-- How many bytes have been begun. -/
theorem used_spec {b : Nat} {s : ByteArray} {pos : Nat} {from_ : Int} {w : World} (h : Rd w b s pos from_) (h0 : 0 ≤ from_) (h1 : from_ ≤ 140737488351232) :
    Calls Try.prog F_bitin_Reader_Used #[.pointer (some ⟨b, 0, none⟩)] w fun e w' => e = .returned (.int .i64 ((((pos + 7) / 8 : Nat) : Int) - from_)) ∧ Drew w w' := by
  obtain ⟨a, h⟩ := h
  refine vc_bitin_Reader_Used_ok (R := fun v w' => v = .int .i64 ((((pos + 7) / 8 : Nat) : Int) - from_) ∧ Drew w w') ?_ (fun v w' h => ⟨by rw [h.1], h.2⟩)
  refine ⟨_, h.c1, _, h.c3, by decide, _, h.c4, fun w1 d => ⟨?_, d⟩⟩
  have := h.lo; have := h.hi; have := h.sz; have := h.ok
  have e0 : Int.tdiv ((8 * a - pos : Nat) : Int) 8 = ((((8 * a - pos) / 8 : Nat)) : Int) := by
    rw [Int.tdiv_eq_ediv_of_nonneg (by omega)]; omega
  rw [e0, wrap_i64 (x := (((8 * a - pos) / 8 : Nat) : Int)) (by omega) (by omega), wrap_i64 (x := (a : Int) - _) (by omega) (by omega), wrap_i64 (by omega) (by omega)]
  congr 1; omega

theorem mask_eq (n : Nat) (h : n ≤ 32) : IntKind.u64.wrap (IntKind.u64.wrap (1 * 2 ^ min ((n : Int)).toNat 64) - 1) = ((2 ^ n - 1 : Nat) : Int) := by
  have hm : min ((n : Int)).toNat 64 = n := by omega
  have hp : 2 ^ n ≤ 2 ^ 32 := Nat.pow_le_pow_right (by decide) h
  have h1 := Nat.two_pow_pos n
  have hc : (2 : Int) ^ n = ((2 ^ n : Nat) : Int) := by push_cast; rfl
  rw [hm, Int.one_mul, hc, wrap_u64 (x := ((2 ^ n : Nat) : Int)) (by omega) (by omega), wrap_u64 (by omega) (by omega)]
  omega

/-- The next n bits: what they are, and how many there are. -/
theorem peek_spec {b : Nat} {s : ByteArray} {pos : Nat} {from_ : Int} {w : World} (h : Rd w b s pos from_) {n : Nat} (hn : n ≤ 32) :
    Calls Try.prog F_bitin_Reader_Peek #[.pointer (some ⟨b, 0, none⟩), .int .i64 n] w fun e w' =>
      e = .returned (.tuple #[.int .u32 ((nbits s pos n : Nat) : Int), .int .i64 ((min n (left s pos) : Nat) : Int)]) ∧ Rd w' b s pos from_ ∧ Fr (· = b) w w' := by
  obtain ⟨a, h⟩ := h
  refine vc_bitin_Reader_Peek_ok (R := fun v w' => v = .tuple #[.int .u32 ((nbits s pos n : Nat) : Int), .int .i64 ((min n (left s pos) : Nat) : Int)] ∧ Rd w' b s pos from_ ∧ Fr (· = b) w w') ?_ (fun v w' h => ⟨by rw [h.1], h.2⟩)
  refine ⟨fun hlt => absurd (of_decide_eq_true hlt) (by omega), fun _ => ⟨fun hgt => absurd (of_decide_eq_true hgt) (by omega), fun _ => ?_⟩⟩
  refine (fill_spec h (by omega) (by omega)).mono ?_
  rintro e w2 ⟨rfl, a1, h1, hc, hf⟩
  refine ⟨rfl, _, h1.c2, by omega, _, h1.c3, fun w5 d => ⟨?_, ⟨a1, h1.drew d⟩, hf.trans' (.drew _ d)⟩⟩
  have := h1.lo; have := h1.hi; have := h1.sz
  have hk := h1.held64
  have hp : 2 ^ n ≤ 2 ^ 32 := Nat.pow_le_pow_right (by decide) hn
  have hb : held s a1 pos % 2 ^ n = nbits s pos n := held_bits s a1 pos n h1.sz (by omega)
  have hl : nbits s pos n < 2 ^ n := Nat.mod_lt _ (Nat.two_pow_pos n)
  rw [mask_eq n hn, and_nat 64 _ _ (by omega) (by omega), and_mask, hb, wrap_u64 (x := ((nbits s pos n : Nat) : Int)) (by omega) (by omega), wrap_u32 (by omega) (by omega)]
  unfold left
  congr 5
  split <;> omega

/-- n bits are taken, if there are so many. -/
theorem skip_spec {b : Nat} {s : ByteArray} {pos : Nat} {from_ : Int} {w : World} (h : Rd w b s pos from_) {n : Nat} (hn : n ≤ 32) :
    Calls Try.prog F_bitin_Reader_Skip #[.pointer (some ⟨b, 0, none⟩), .int .i64 n] w fun e w' =>
      e = .returned (.bool (decide (n ≤ left s pos))) ∧ Rd w' b s (if n ≤ left s pos then pos + n else pos) from_ ∧ Fr (· = b) w w' := by
  obtain ⟨a, h⟩ := h
  refine vc_bitin_Reader_Skip_ok (R := fun v w' => v = .bool (decide (n ≤ left s pos)) ∧ Rd w' b s (if n ≤ left s pos then pos + n else pos) from_ ∧ Fr (· = b) w w') ?_ (fun v w' h => ⟨by rw [h.1], h.2⟩)
  refine ⟨fun hlt => absurd (of_decide_eq_true hlt) (by omega), fun _ => ⟨fun hgt => absurd (of_decide_eq_true hgt) (by omega), fun _ => ?_⟩⟩
  refine (fill_spec h (by omega) (by omega)).mono ?_
  rintro e w2 ⟨rfl, a1, h1, hc, hf⟩
  have := h1.lo; have := h1.hi; have := h1.sz
  refine ⟨rfl, _, h1.c3, fun hlt => ?_, fun hge => ?_⟩
  · have hlt := of_decide_eq_true hlt
    have hno : ¬ n ≤ left s pos := by unfold left; omega
    rw [if_neg hno, decide_eq_false hno]
    exact ⟨rfl, ⟨a1, h1⟩, hf⟩
  · have hge := of_decide_eq_false hge
    have hyes : n ≤ left s pos := by unfold left; omega
    rw [if_pos hyes, decide_eq_true hyes]
    refine ⟨_, h1.c2, by omega, wr_blk h1.blk (by simp), ?_⟩
    rintro w5 rfl
    have e0 : Int.fdiv ((held s a1 pos : Nat) : Int) (2 ^ min ((n : Int)).toNat 64) = ((held s a1 (pos + n) : Nat) : Int) := by
      have hm : min ((n : Int)).toNat 64 = n := by omega
      have hc : (2 : Int) ^ n = ((2 ^ n : Nat) : Int) := by push_cast; rfl
      rw [hm, hc, ← held_skip, Int.fdiv_eq_ediv_of_nonneg _ (Int.natCast_nonneg _), ← Int.natCast_ediv]
    rw [e0]
    have b1 := set_blk h1.blk 2 (.int .u64 ((held s a1 (pos + n) : Nat) : Int))
    refine ⟨((8 * a1 - pos : Nat) : Int), by rw [cell_blk b1]; rfl, wr_blk b1 (by simp), ?_⟩
    rintro w7 rfl
    have e1 : IntKind.i64.wrap (((8 * a1 - pos : Nat) : Int) - (n : Int)) = ((8 * a1 - (pos + n) : Nat) : Int) := by rw [wrap_i64 (by omega) (by omega)]; omega
    rw [e1]
    have b2 := set_blk b1 3 (.int .i64 ((8 * a1 - (pos + n) : Nat) : Int))
    exact ⟨rfl, ⟨a1, by omega, by omega, h1.sz, h1.ok, b2⟩, (hf.trans' (.set _ _ _ rfl)).trans' (.set _ _ _ rfl)⟩

/-- The next n bits are taken, if there are so many. -/
theorem rbits_spec {b : Nat} {s : ByteArray} {pos : Nat} {from_ : Int} {w : World} (h : Rd w b s pos from_) {n : Nat} (hn : n ≤ 32) :
    Calls Try.prog F_bitin_Reader_Bits #[.pointer (some ⟨b, 0, none⟩), .int .i64 n] w fun e w' =>
      e = .returned (.tuple #[.int .u32 ((if n ≤ left s pos then nbits s pos n else 0 : Nat) : Int), .bool (decide (n ≤ left s pos))]) ∧
      Rd w' b s (if n ≤ left s pos then pos + n else pos) from_ ∧ Fr (· = b) w w' := by
  refine vc_bitin_Reader_Bits_ok (R := fun v w' => v = .tuple #[.int .u32 ((if n ≤ left s pos then nbits s pos n else 0 : Nat) : Int), .bool (decide (n ≤ left s pos))] ∧
      Rd w' b s (if n ≤ left s pos then pos + n else pos) from_ ∧ Fr (· = b) w w') ?_ (fun v w' h => ⟨by rw [h.1], h.2⟩)
  refine (peek_spec h hn).mono ?_
  rintro e w2 ⟨rfl, h2, f2⟩
  refine ⟨_, _, rfl, ?_⟩
  refine (skip_spec h2 hn).mono ?_
  rintro e w6 ⟨rfl, h6, f6⟩
  refine ⟨_, rfl, fun hno => ?_, fun hyes => ?_⟩
  · have hno : ¬ n ≤ left s pos := by simpa using hno
    rw [if_neg hno] at h6
    rw [if_neg hno, if_neg hno, decide_eq_false hno]
    exact ⟨rfl, h6, f2.trans' f6⟩
  · have hyes : n ≤ left s pos := by simpa using hyes
    rw [if_pos hyes] at h6
    rw [if_pos hyes, if_pos hyes, decide_eq_true hyes]
    exact ⟨rfl, h6, f2.trans' f6⟩

/-- A new reader. -/
theorem rnew_spec {s : ByteArray} (hs : s.size ≤ 140737488351232) (n : Int) (w : World) :
    Calls Try.prog F_bitin_New #[.string s, .int .i64 n] w fun e w' =>
      e = .returned (.pointer (some ⟨w.heap.size, 0, none⟩)) ∧ Rd w' w.heap.size s (8 * min n.toNat s.size) ((min n.toNat s.size : Nat) : Int) ∧ Fr (fun _ => False) w w' := by
  refine vc_bitin_New_ok (R := fun v w' => v = .pointer (some ⟨w.heap.size, 0, none⟩) ∧ Rd w' w.heap.size s (8 * min n.toNat s.size) ((min n.toNat s.size : Nat) : Int) ∧ Fr (fun _ => False) w w') ?_ (fun v w' h => ⟨by rw [h.1], h.2⟩)
  rintro w1 rfl
  refine ⟨rfl, ⟨min n.toNat s.size, by omega, by omega, by omega, hs, ?_⟩, .alloc _ _ _⟩
  rw [alloc_new]
  have e : (if (if (s.size : Int) < n then (s.size : Int) else n) > 0 then if (s.size : Int) < n then (s.size : Int) else n else 0) = ((min n.toNat s.size : Nat) : Int) := by
    split <;> split at * <;> omega
  have e2 : held s (min n.toNat s.size) (8 * min n.toNat s.size) = 0 := Nat.div_eq_of_lt (V_lt s _)
  rw [e, RdO, e2]
  simp
end Go.Proofs.Ytofejgaanpaieaa

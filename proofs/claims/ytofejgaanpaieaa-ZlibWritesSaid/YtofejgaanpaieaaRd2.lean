/- The bit reader's other methods, and those above for any number of bits. Conditions as there. -/
import Derived.Test.YtofejgaanpaieaaRd
import Derived.Test.YtofejgaanpaieaaBitL
set_option linter.unusedVariables false
namespace Go.Proofs.Ytofejgaanpaieaa
open Go Vc BitsM Go.Proofs

/-- From 0 to 32. -/
def can (n : Int) : Bool := decide (0 ≤ n ∧ n ≤ 32)
theorem can_true {n : Int} (h : can n = true) : ∃ m : Nat, n = (m : Int) ∧ m ≤ 32 := by
  have h := of_decide_eq_true h; exact ⟨n.toNat, by omega, by omega⟩
theorem can_false {n : Int} (h : can n = false) : n < 0 ∨ 32 < n := by
  have h := of_decide_eq_false h; omega

theorem peek_bad {b : Nat} {w : World} {n : Int} (hn : can n = false) :
    Calls Try.prog F_bitin_Reader_Peek #[.pointer (some ⟨b, 0, none⟩), .int .i64 n] w fun e w' => e = .returned (.tuple #[.int .u32 0, .int .i64 0]) ∧ w' = w := by
  refine vc_bitin_Reader_Peek_ok (R := fun v w' => v = .tuple #[.int .u32 0, .int .i64 0] ∧ w' = w) ?_ (fun v w' h => ⟨by rw [h.1], h.2⟩)
  refine ⟨fun _ => ⟨rfl, rfl⟩, fun h1 => ⟨fun _ => ⟨rfl, rfl⟩, fun h2 => ?_⟩⟩
  have h1 := of_decide_eq_false h1; have h2 := of_decide_eq_false h2
  rcases can_false hn with h | h <;> omega
theorem skip_bad {b : Nat} {w : World} {n : Int} (hn : can n = false) :
    Calls Try.prog F_bitin_Reader_Skip #[.pointer (some ⟨b, 0, none⟩), .int .i64 n] w fun e w' => e = .returned (.bool false) ∧ w' = w := by
  refine vc_bitin_Reader_Skip_ok (R := fun v w' => v = .bool false ∧ w' = w) ?_ (fun v w' h => ⟨by rw [h.1], h.2⟩)
  refine ⟨fun _ => ⟨rfl, rfl⟩, fun h1 => ⟨fun _ => ⟨rfl, rfl⟩, fun h2 => ?_⟩⟩
  have h1 := of_decide_eq_false h1; have h2 := of_decide_eq_false h2
  rcases can_false hn with h | h <;> omega
theorem rbits_bad {b : Nat} {w : World} {n : Int} (hn : can n = false) :
    Calls Try.prog F_bitin_Reader_Bits #[.pointer (some ⟨b, 0, none⟩), .int .i64 n] w fun e w' => e = .returned (.tuple #[.int .u32 0, .bool false]) ∧ w' = w := by
  refine vc_bitin_Reader_Bits_ok (R := fun v w' => v = .tuple #[.int .u32 0, .bool false] ∧ w' = w) ?_ (fun v w' h => ⟨by rw [h.1], h.2⟩)
  refine (peek_bad hn).mono ?_
  rintro e w2 ⟨rfl, rfl⟩
  refine ⟨_, _, rfl, ?_⟩
  refine (skip_bad hn).mono ?_
  rintro e w6 ⟨rfl, rfl⟩
  exact ⟨_, rfl, fun _ => ⟨rfl, rfl⟩, fun h => by cases h⟩

/-- The next multiple of eight. -/
def up8 (n : Nat) : Nat := (n + 7) / 8 * 8
theorem align_spec {b : Nat} {s : ByteArray} {pos : Nat} {from_ : Int} {w : World} (h : Rd w b s pos from_) :
    Calls Try.prog F_bitin_Reader_Align #[.pointer (some ⟨b, 0, none⟩)] w fun e w' => e = .returned (.tuple #[]) ∧ Rd w' b s (up8 pos) from_ ∧ Fr (· = b) w w' := by
  obtain ⟨a, h⟩ := h
  refine vc_bitin_Reader_Align_ok (R := fun v w' => v = .tuple #[] ∧ Rd w' b s (up8 pos) from_ ∧ Fr (· = b) w w') ?_ (fun v w' h => ⟨by rw [h.1], h.2⟩)
  have := h.lo; have := h.hi; have := h.sz
  have e0 : Int.tmod ((8 * a - pos : Nat) : Int) 8 = (((8 * a - pos) % 8 : Nat) : Int) := by rw [Int.tmod_eq_emod_of_nonneg (by omega)]; omega
  have e1 : pos + (8 * a - pos) % 8 = up8 pos := by unfold up8; omega
  have e2 : Int.fdiv ((held s a pos : Nat) : Int) (2 ^ min (((8 * a - pos) % 8 : Nat) : Int).toNat 64) = ((held s a (up8 pos) : Nat) : Int) := by
    have hm : min (((8 * a - pos) % 8 : Nat) : Int).toNat 64 = (8 * a - pos) % 8 := by omega
    have hc : (2 : Int) ^ ((8 * a - pos) % 8) = ((2 ^ ((8 * a - pos) % 8) : Nat) : Int) := by push_cast; rfl
    rw [hm, hc, ← e1, ← held_skip, Int.fdiv_eq_ediv_of_nonneg _ (Int.natCast_nonneg _), ← Int.natCast_ediv]
  refine ⟨_, h.c3, by decide, _, h.c2, by rw [e0]; omega, wr_blk h.blk (by simp), ?_⟩
  rw [e0, e2]
  rintro w3 rfl
  have b1 := set_blk h.blk 2 (.int .u64 ((held s a (up8 pos) : Nat) : Int))
  refine ⟨((8 * a - pos : Nat) : Int), by rw [cell_blk b1]; rfl, wr_blk b1 (by simp), ?_⟩
  have e3 : IntKind.i64.wrap (((8 * a - pos : Nat) : Int) - (((8 * a - pos) % 8 : Nat) : Int)) = ((8 * a - up8 pos : Nat) : Int) := by rw [wrap_i64 (by omega) (by omega)]; omega
  rw [e3]
  rintro w5 rfl
  have b2 := set_blk b1 3 (.int .i64 ((8 * a - up8 pos : Nat) : Int))
  exact ⟨rfl, ⟨a, by unfold up8; omega, by unfold up8; omega, h.sz, h.ok, b2⟩, (Fr.set (· = b) _ _ rfl).trans' (.set _ _ _ rfl)⟩

theorem held_zero (s : ByteArray) (a : Nat) : held s a (8 * a) = 0 := Nat.div_eq_of_lt (V_lt s a)

/-- n whole bytes from the next byte's beginning on. -/
theorem rbytes_spec {b : Nat} {s : ByteArray} {pos : Nat} {from_ : Int} {w : World} (h : Rd w b s pos from_) (n : Int) (hn : -9223372036854775808 ≤ n ∧ n ≤ 9223372036854775807) :
    Calls Try.prog F_bitin_Reader_Bytes #[.pointer (some ⟨b, 0, none⟩), .int .i64 n] w fun e w' =>
      ((0 ≤ n ∧ 8 * n ≤ ((left s (up8 pos) : Nat) : Int)) ∧ e = .returned (.tuple #[.string (s.extract (up8 pos / 8) (up8 pos / 8 + n.toNat)), .bool true]) ∧ Rd w' b s (up8 pos + 8 * n.toNat) from_ ∧ Fr (· = b) w w') ∨
      (¬ (0 ≤ n ∧ 8 * n ≤ ((left s (up8 pos) : Nat) : Int)) ∧ e = .returned (.tuple #[.string ⟨#[]⟩, .bool false]) ∧ Rd w' b s (up8 pos) from_ ∧ Fr (· = b) w w') := by
  refine vc_bitin_Reader_Bytes_ok (R := fun v w' => ((0 ≤ n ∧ 8 * n ≤ ((left s (up8 pos) : Nat) : Int)) ∧ v = .tuple #[.string (s.extract (up8 pos / 8) (up8 pos / 8 + n.toNat)), .bool true] ∧ Rd w' b s (up8 pos + 8 * n.toNat) from_ ∧ Fr (· = b) w w') ∨
      (¬ (0 ≤ n ∧ 8 * n ≤ ((left s (up8 pos) : Nat) : Int)) ∧ v = .tuple #[.string ⟨#[]⟩, .bool false] ∧ Rd w' b s (up8 pos) from_ ∧ Fr (· = b) w w')) ?_
      (fun v w' h => h.imp (fun h => ⟨h.1, by rw [h.2.1], h.2.2⟩) (fun h => ⟨h.1, by rw [h.2.1], h.2.2⟩))
  refine (align_spec h).mono ?_
  rintro e w2 ⟨rfl, ⟨a, h2⟩, f2⟩
  have := h2.lo; have := h2.hi; have := h2.sz; have := h2.ok
  have hu : up8 pos = 8 * (up8 pos / 8) := by unfold up8; omega
  have e0 : Int.tdiv ((8 * a - up8 pos : Nat) : Int) 8 = ((a - up8 pos / 8 : Nat) : Int) := by rw [Int.tdiv_eq_ediv_of_nonneg (by omega)]; omega
  have e1 : IntKind.i64.wrap ((a : Int) - IntKind.i64.wrap ((a - up8 pos / 8 : Nat) : Int)) = ((up8 pos / 8 : Nat) : Int) := by
    rw [wrap_i64 (x := ((a - up8 pos / 8 : Nat) : Int)) (by omega) (by omega), wrap_i64 (by omega) (by omega)]; omega
  refine ⟨rfl, _, h2.c1, _, h2.c3, by decide, fun w5 d => ?_⟩
  rw [e0, e1]
  have h5 := h2.drew d
  have f5 : Fr (· = b) w w5 := f2.trans' (.drew _ d)
  have hl : left s (up8 pos) = 8 * (s.size - up8 pos / 8) := by unfold left; omega
  have e2 : IntKind.i64.wrap ((s.size : Int) - ((up8 pos / 8 : Nat) : Int)) = ((s.size - up8 pos / 8 : Nat) : Int) := by rw [wrap_i64 (by omega) (by omega)]; omega
  refine ⟨fun hneg => .inr ⟨?_, rfl, ⟨a, h5⟩, f5⟩, fun hpos => ⟨_, h5.c0, fun hbig => .inr ⟨?_, rfl, ⟨a, h5⟩, f5⟩, fun hfit => ?_⟩⟩
  · have hneg := of_decide_eq_true hneg; omega
  · have hbig := of_decide_eq_true hbig
    rw [e2] at hbig; omega
  have hpos := of_decide_eq_false hpos
  have hfit := of_decide_eq_false hfit
  rw [e2] at hfit
  obtain ⟨m, rfl⟩ := Int.eq_ofNat_of_zero_le (show 0 ≤ n by omega)
  have e3 : IntKind.i64.wrap (((up8 pos / 8 : Nat) : Int) + (m : Int)) = ((up8 pos / 8 + m : Nat) : Int) := by rw [wrap_i64 (by omega) (by omega)]; omega
  rw [e3]
  refine ⟨wr_blk h5.blk (by simp), ?_⟩
  rintro w7 rfl
  have b1 := set_blk h5.blk 1 (.int .i64 ((up8 pos / 8 + m : Nat) : Int))
  refine ⟨wr_blk b1 (by simp), ?_⟩
  rintro w8 rfl
  have b2 := set_blk b1 2 (.int .u64 0)
  refine ⟨wr_blk b2 (by simp), ?_⟩
  rintro w9 rfl
  have b3 := set_blk b2 3 (.int .i64 0)
  refine ⟨s, by rw [cell_blk b3]; rfl, ⟨by omega, by omega, by omega⟩, .inl ⟨by omega, ?_, ⟨up8 pos / 8 + m, by simp only [Int.toNat_natCast]; omega, by simp only [Int.toNat_natCast]; omega, by omega, h5.ok, ?_⟩, ?_⟩⟩
  · simp only [Int.toNat_natCast]
  · have e4 : up8 pos + 8 * ((m : Int)).toNat = 8 * (up8 pos / 8 + m) := by rw [Int.toNat_natCast]; omega
    rw [e4, RdO, held_zero, Nat.sub_self]
    exact b3
  · exact ((f5.trans' (.set _ _ _ rfl)).trans' (.set _ _ _ rfl)).trans' (.set _ _ _ rfl)
end Go.Proofs.Ytofejgaanpaieaa

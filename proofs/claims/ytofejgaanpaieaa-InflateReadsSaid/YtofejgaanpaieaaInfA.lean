/- The inflater's small functions: bases, a byte more, the fixed tables. Conditions: the state is in order. -/
import Derived.Test.YtofejgaanpaieaaInfM
import Derived.Test.YtofejgaanpaieaaRd2
import Derived.Test.YtofejgaanpaieaaHuffF
import Derived.Test.YtofejgaanpaieaaVcApp
import Derived.Test.YtofejgaanpaieaaInf
set_option linter.unusedVariables false
namespace Go.Proofs.Ytofejgaanpaieaa
open Go Vc BitsM HuffM Go.Proofs

/-- A number out of bytes, lowest first. -/
theorem little_spec (s : ByteArray) (hs : s.size ≤ 8) (w : World) :
    Calls Try.prog F_sums_FromLittle #[.string s] w fun e w' => e = .returned (.int .u64 ((V s s.size : Nat) : Int)) ∧ w' = w := by
  refine vc_sums_FromLittle_ok (R := fun v w' => v = .int .u64 ((V s s.size : Nat) : Int) ∧ w' = w) ?_ (fun v w' h => ⟨by rw [h.1], h.2⟩)
  have hlim : (if 8 < (s.size : Int) then 8 else (s.size : Int)) = (s.size : Int) := by rw [if_neg (by omega)]
  refine ⟨fun a i w5 => ∃ n : Nat, i = (n : Int) ∧ n ≤ s.size ∧ a = ((V s n : Nat) : Int) ∧ w5 = w, fun a i w5 => s.size - i.toNat, ⟨0, rfl, Nat.zero_le _, rfl, rfl⟩, ?_⟩
  rintro a i w5 ⟨n, rfl, hn, rfl, rfl⟩
  rw [hlim]
  refine ⟨fun hlt => ?_, fun hge => ?_⟩
  · have hlt := of_decide_eq_true hlt
    have hv := V_lt s n
    have hb := byt_lt s n
    have hp : 2 ^ (8 * n) ≤ 2 ^ 56 := Nat.pow_le_pow_right (by decide) (by omega)
    have hor := held_or s n 0 (Nat.zero_le _)
    simp only [held, Nat.pow_zero, Nat.div_one, Nat.sub_zero] at hor
    have e1 : IntKind.i64.wrap (8 * (n : Int)) = ((8 * n : Nat) : Int) := by rw [wrap_i64 (by omega) (by omega)]; omega
    have hm : min ((8 * n : Nat) : Int).toNat 64 = 8 * n := by omega
    have hc : (2 : Int) ^ (8 * n) = ((2 ^ (8 * n) : Nat) : Int) := by push_cast; rfl
    have hmul : byt s n * 2 ^ (8 * n) ≤ 255 * 2 ^ 56 := Nat.mul_le_mul (by omega) hp
    have e2 : IntKind.u64.wrap (((BitVec.ofInt 64 ((V s n : Nat) : Int) ||| BitVec.ofInt 64 (IntKind.u64.wrap (IntKind.u64.wrap (byteAt s (n : Int)) * 2 ^ min (IntKind.i64.wrap (8 * (n : Int))).toNat 64))).toNat : Nat) : Int) = ((V s (n + 1) : Nat) : Int) := by
      have hv2 := V_lt s (n + 1)
      have hp2 : 2 ^ (8 * (n + 1)) ≤ 2 ^ 64 := Nat.pow_le_pow_right (by decide) (by omega)
      rw [e1, hm, byteAt_nat, wrap_u64 (x := ((byt s n : Nat) : Int)) (by omega) (by omega), hc, ← Int.natCast_mul, wrap_u64 (x := ((byt s n * 2 ^ (8 * n) : Nat) : Int)) (by omega) (by omega),
        or_nat 64 _ _ (by omega) (by omega), hor, wrap_u64 (by omega) (by omega)]
    refine ⟨⟨by omega, by omega⟩, by rw [e1]; omega, ?_⟩
    rw [e2]
    have e3 : IntKind.i64.wrap ((n : Int) + 1) = ((n + 1 : Nat) : Int) := by rw [wrap_i64 (by omega) (by omega)]; omega
    rw [e3]
    exact ⟨⟨n + 1, rfl, by omega, rfl, rfl⟩, by dsimp only; omega⟩
  · have hge := of_decide_eq_false hge
    have : n = s.size := by omega
    subst this
    exact ⟨rfl, rfl⟩

def orderV : Value := .agg #[.int .i64 16, .int .i64 17, .int .i64 18, .int .i64 0, .int .i64 8, .int .i64 7, .int .i64 9, .int .i64 6, .int .i64 10, .int .i64 5, .int .i64 11, .int .i64 4, .int .i64 12, .int .i64 3, .int .i64 13, .int .i64 2, .int .i64 14, .int .i64 1, .int .i64 15]
theorem lbase_spec (i : Nat) (hi : i ≤ 28) (w : World) :
    Calls Try.prog F_inflate_lengthBase #[.int .i64 i] w fun e w' => e = .returned (.tuple #[.int .i64 (((InfM.lenBase i).1 : Nat) : Int), .int .i64 (((InfM.lenBase i).2 : Nat) : Int)]) ∧ w' = w := by
  refine vc_inflate_lengthBase_ok (R := fun v w' => v = .tuple #[.int .i64 (((InfM.lenBase i).1 : Nat) : Int), .int .i64 (((InfM.lenBase i).2 : Nat) : Int)] ∧ w' = w) ?_ (fun v w' h => ⟨by rw [h.1], h.2⟩)
  have hall : ∀ i, i ≤ 28 → (i = 28 → InfM.lenBase i = (258, 0)) ∧ (i ≠ 28 → i < 8 → InfM.lenBase i = (3 + i, 0)) ∧ (i ≠ 28 → ¬ i < 8 →
      (0 : Int) ≤ IntKind.i64.wrap (IntKind.i64.wrap (Int.tdiv (i : Int) 4) - 1) ∧
      IntKind.i64.wrap (3 + IntKind.i64.wrap (IntKind.i64.wrap (4 + Int.tmod (i : Int) 4) * 2 ^ min (IntKind.i64.wrap (IntKind.i64.wrap (Int.tdiv (i : Int) 4) - 1)).toNat 64)) = (((InfM.lenBase i).1 : Nat) : Int) ∧
      IntKind.i64.wrap (IntKind.i64.wrap (Int.tdiv (i : Int) 4) - 1) = (((InfM.lenBase i).2 : Nat) : Int)) := by decide +kernel
  obtain ⟨h1, h2, h3⟩ := hall i hi
  refine ⟨fun h => ?_, fun h => ⟨fun h' => ?_, fun h' => ?_⟩⟩
  · have : i = 28 := by have := eq_of_beq h; omega
    rw [h1 this]; exact ⟨rfl, rfl⟩
  · have hn : i ≠ 28 := fun hh => by subst hh; simp at h
    have hl : i < 8 := by have := of_decide_eq_true h'; omega
    rw [h2 hn hl, wrap_i64 (by omega) (by omega)]
    exact ⟨by simp, rfl⟩
  · have hn : i ≠ 28 := fun hh => by subst hh; simp at h
    have hl : ¬ i < 8 := by have := of_decide_eq_false h'; omega
    obtain ⟨ha, hb, hc⟩ := h3 hn hl
    refine ⟨by decide, by decide, ha, ?_⟩
    rw [hb, hc]; exact ⟨rfl, rfl⟩
theorem dbase_spec (i : Nat) (hi : i ≤ 29) (w : World) :
    Calls Try.prog F_inflate_distBase #[.int .i64 i] w fun e w' => e = .returned (.tuple #[.int .i64 (((InfM.distBase i).1 : Nat) : Int), .int .i64 (((InfM.distBase i).2 : Nat) : Int)]) ∧ w' = w := by
  refine vc_inflate_distBase_ok (R := fun v w' => v = .tuple #[.int .i64 (((InfM.distBase i).1 : Nat) : Int), .int .i64 (((InfM.distBase i).2 : Nat) : Int)] ∧ w' = w) ?_ (fun v w' h => ⟨by rw [h.1], h.2⟩)
  have hall : ∀ i, i ≤ 29 → (i < 4 → InfM.distBase i = (1 + i, 0)) ∧ (¬ i < 4 →
      (0 : Int) ≤ IntKind.i64.wrap (IntKind.i64.wrap (Int.tdiv (i : Int) 2) - 1) ∧
      IntKind.i64.wrap (1 + IntKind.i64.wrap (IntKind.i64.wrap (2 + Int.tmod (i : Int) 2) * 2 ^ min (IntKind.i64.wrap (IntKind.i64.wrap (Int.tdiv (i : Int) 2) - 1)).toNat 64)) = (((InfM.distBase i).1 : Nat) : Int) ∧
      IntKind.i64.wrap (IntKind.i64.wrap (Int.tdiv (i : Int) 2) - 1) = (((InfM.distBase i).2 : Nat) : Int)) := by decide +kernel
  obtain ⟨h2, h3⟩ := hall i hi
  refine ⟨fun h' => ?_, fun h' => ?_⟩
  · have hl : i < 4 := by have := of_decide_eq_true h'; omega
    rw [h2 hl, wrap_i64 (by omega) (by omega)]
    exact ⟨by simp, rfl⟩
  · have hl : ¬ i < 4 := by have := of_decide_eq_false h'; omega
    obtain ⟨ha, hb, hc⟩ := h3 hl
    refine ⟨by decide, by decide, ha, ?_⟩
    rw [hb, hc]; exact ⟨rfl, rfl⟩

/-- A stream that is being read, in order: what came out, the place. -/
structure St (w : World) (base b rb : Nat) (sl : Sl) (s : ByteArray) (off p : Nat) (out : List UInt8) (most : Nat) : Prop where
  blk : w.heap[b]? = some (.cells #[.pointer (some ⟨rb, 0, none⟩), .slice sl.a sl.len sl.cap, .int .i64 (most : Int)] T_inflate_state (0, 0))
  own : Own w base T_uint8 sl (byteV out)
  rd : Rd w rb s (8 * off + p) off
  hb : b < base
  hrb : rb < base
  ne : rb ≠ b
  hbase : base ≤ w.heap.size
  fit : out.length ≤ most
  small : most ≤ 65536
/-- The blocks that are written. -/
def SX (b rb : Nat) (sl : Sl) (k : Nat) : Prop := k = b ∨ k = rb ∨ At sl k
section
variable {w w2 : World} {base b rb off p most : Nat} {sl : Sl} {s : ByteArray} {out : List UInt8}
theorem St.c0 (h : St w base b rb sl s off p out most) : w.cell? ⟨b, 0, none⟩ = some (.pointer (some ⟨rb, 0, none⟩)) := by rw [cell_blk h.blk]; rfl
theorem St.c1 (h : St w base b rb sl s off p out most) : w.cell? ⟨b, 1, none⟩ = some (.slice sl.a sl.len sl.cap) := by rw [cell_blk h.blk]; rfl
theorem St.c2 (h : St w base b rb sl s off p out most) : w.cell? ⟨b, 2, none⟩ = some (.int .i64 (most : Int)) := by rw [cell_blk h.blk]; rfl
theorem St.len (h : St w base b rb sl s off p out most) : sl.len = out.length := by rw [h.own.len, List.length_map]
/-- The reader went on. -/
theorem St.read (h : St w base b rb sl s off p out most) {p' : Nat} (hf : Fr (· = rb) w w2) (hr : Rd w2 rb s (8 * off + p') off) : St w2 base b rb sl s off p' out most :=
  ⟨hf.keep h.blk (fun e => h.ne e.symm), h.own.keep hf (fun x hx e => by have := (h.own.blk hx).1; have := h.hrb; omega), hr, h.hb, h.hrb, h.ne, Nat.le_trans h.hbase hf.size, h.fit, h.small⟩
theorem St.keep (h : St w base b rb sl s off p out most) {X : Nat → Prop} (hf : Fr X w w2) (hx : ∀ k, k < w.heap.size → ¬ X k) : St w2 base b rb sl s off p out most :=
  ⟨hf.keep h.blk (hx _ (lt_blk h.blk)), h.own.keep hf (fun x hxx => hx _ (h.own.blk hxx).2), h.rd.keep hf (hx _ h.rd.lt), h.hb, h.hrb, h.ne, Nat.le_trans h.hbase hf.size, h.fit, h.small⟩
theorem St.drew (h : St w base b rb sl s off p out most) (d : Drew w w2) : St w2 base b rb sl s off p out most := h.keep (.drew (fun _ => False) d) (by simp)
/-- Bytes more. -/
theorem St.more (h : St w base b rb sl s off p out most) {sl' : Sl} {out' : List UInt8} {w3 : World} (ho : Own w2 base T_uint8 sl' (byteV out')) (hf : Fr (At sl) w w2) (h3 : w3 = w2.setCell ⟨b, 1, none⟩ (.slice sl'.a sl'.len sl'.cap)) (hfit : out'.length ≤ most) :
    Wr w2 ⟨b, 1, none⟩ ∧ St w3 base b rb sl' s off p out' most ∧ Fr (SX b rb sl) w w3 := by
  have hnb : ¬ At sl b := fun ⟨y, hy, e⟩ => by have := (h.own.blk hy).1; have := h.hb; omega
  have hnr : ¬ At sl rb := fun ⟨y, hy, e⟩ => by have := (h.own.blk hy).1; have := h.hrb; omega
  have hb2 := hf.keep h.blk hnb
  have hs : Fr (· = b) w2 w3 := h3 ▸ Fr.set (· = b) _ (a := ⟨b, 1, none⟩) (.slice sl'.a sl'.len sl'.cap) rfl
  refine ⟨wr_blk hb2 (by simp), ⟨?_, ho.keep hs (fun x hx e => by have := (ho.blk hx).1; have := h.hb; omega), (h.rd.keep hf hnr).keep hs h.ne, h.hb, h.hrb, h.ne, Nat.le_trans h.hbase (Nat.le_trans hf.size hs.size), hfit, h.small⟩,
    (hf.mono (Y := SX b rb sl) fun k _ hk => .inr (.inr hk)).trans' (hs.mono fun k _ hk => .inl hk)⟩
  rw [h3]; exact set_blk hb2 1 _
end
end Go.Proofs.Ytofejgaanpaieaa

/- What each method of the bit writer does, for every writer that is in order. Conditions: there are fewer than 2 to the 40th bits; a code's bits are a number of 32 bits. -/
import Derived.Test.YtofejgaanpaieaaBitW
import Derived.Test.YtofejgaanpaieaaVcApp
import Derived.Test.YtofejgaanpaieaaBitinW
set_option linter.unusedVariables false
namespace Go.Proofs.Ytofejgaanpaieaa
open Go Vc BitsM Go.Proofs

theorem elU8 : El Try.prog T_S_uint8 T_uint8 (.int .u8 0) 1 := ⟨by kernel_rfl, by kernel_rfl, rfl⟩
/-- A writer that has l, of which m bytes are out. -/
structure WrAt (w : World) (b : Nat) (sl : Sl) (l : List Bool) (m : Nat) : Prop where
  lo : 8 * m ≤ l.length
  blk : w.heap[b]? = some (.cells #[.slice sl.a sl.len sl.cap, .int .u64 ((num (l.drop (8 * m)) : Nat) : Int), .int .i64 ((l.length - 8 * m : Nat) : Int)] T_bitin_Writer (0, 0))
  own : Own w (b + 1) T_uint8 sl (byteV (bytesOf l m))
/-- A writer in order. -/
def Wrt (w : World) (b : Nat) (sl : Sl) (l : List Bool) : Prop := WrAt w b sl l (l.length / 8) ∧ l.length ≤ 1099511627776
/-- The blocks that a writer's methods write. -/
def WX (b : Nat) (sl : Sl) (k : Nat) : Prop := k = b ∨ At sl k
section
variable {w w2 : World} {b : Nat} {sl : Sl} {l : List Bool} {m : Nat}
theorem WrAt.c0 (h : WrAt w b sl l m) : w.cell? ⟨b, 0, none⟩ = some (.slice sl.a sl.len sl.cap) := by rw [cell_blk h.blk]; rfl
theorem WrAt.c1 (h : WrAt w b sl l m) : w.cell? ⟨b, 1, none⟩ = some (.int .u64 ((num (l.drop (8 * m)) : Nat) : Int)) := by rw [cell_blk h.blk]; rfl
theorem WrAt.c2 (h : WrAt w b sl l m) : w.cell? ⟨b, 2, none⟩ = some (.int .i64 ((l.length - 8 * m : Nat) : Int)) := by rw [cell_blk h.blk]; rfl
theorem WrAt.keep (h : WrAt w b sl l m) {X : Nat → Prop} (hf : Fr X w w2) (hx : ¬ X b) (hs : ∀ y, sl.a = some y → ¬ X y.block) : WrAt w2 b sl l m := ⟨h.lo, hf.keep h.blk hx, h.own.keep hf hs⟩
theorem WrAt.drew (h : WrAt w b sl l m) (d : Drew w w2) : WrAt w2 b sl l m := h.keep (.drew (fun _ => False) d) (by simp) (by simp)
theorem Wrt.keep (h : Wrt w b sl l) {X : Nat → Prop} (hf : Fr X w w2) (hx : ¬ X b) (hs : ∀ y, sl.a = some y → ¬ X y.block) : Wrt w2 b sl l := ⟨h.1.keep hf hx hs, h.2⟩
theorem Wrt.lt (h : Wrt w b sl l) : b < w.heap.size := lt_blk h.1.blk
/-- A writer that has nothing. -/
theorem Wrt.zero {w : World} {b : Nat} (h : w.heap[b]? = some (.cells #[.slice none 0 0, .int .u64 0, .int .i64 0] T_bitin_Writer)) : Wrt w b ⟨none, 0, 0⟩ [] :=
  ⟨⟨by simp, h, .nil _ _ _⟩, by simp⟩
theorem num_or (l : List Bool) (y : Nat) : num l ||| (y * 2 ^ l.length) = num l + 2 ^ l.length * y := by
  rw [Nat.mul_comm y, Nat.or_comm, ← Nat.two_pow_add_eq_or_of_lt (num_lt l), Nat.add_comm]
end

/-- The lowest n bits of x are put. -/
theorem wbits_spec {w : World} {b : Nat} {sl : Sl} {l : List Bool} (h : Wrt w b sl l) {x n : Nat} (hx : x < 4294967296) (hn : n ≤ 32) (hl : l.length + n ≤ 1099511627776) :
    Calls Try.prog F_bitin_Writer_Bits #[.pointer (some ⟨b, 0, none⟩), .int .u32 x, .int .i64 n] w fun e w' =>
      e = .returned (.tuple #[]) ∧ ∃ sl', Wrt w' b sl' (l ++ lowB n x) ∧ Fr (WX b sl) w w' ∧ Since w sl sl' := by
  refine vc_bitin_Writer_Bits_ok (R := fun v w' => v = .tuple #[] ∧ ∃ sl', Wrt w' b sl' (l ++ lowB n x) ∧ Fr (WX b sl) w w' ∧ Since w sl sl') ?_ (fun v w' h => ⟨by rw [h.1], h.2⟩)
  refine ⟨fun hlt => absurd (of_decide_eq_true hlt) (by omega), fun _ => ⟨fun hgt => absurd (of_decide_eq_true hgt) (by omega), fun _ => ?_⟩⟩
  intro w1 d1
  obtain ⟨h, _⟩ := h
  have h1 := h.drew d1
  have hlen : (l.drop (8 * (l.length / 8))).length = l.length - 8 * (l.length / 8) := List.length_drop
  have hnum := num_lt (l.drop (8 * (l.length / 8)))
  rw [hlen] at hnum
  have hp1 : 2 ^ (l.length - 8 * (l.length / 8)) ≤ 2 ^ 7 := Nat.pow_le_pow_right (by decide) (by omega)
  refine ⟨_, h1.c1, by omega, _, h1.c2, by omega, wr_blk h1.blk (by simp), ?_⟩
  have hhold : IntKind.u64.wrap (((BitVec.ofInt 64 ((num (l.drop (8 * (l.length / 8))) : Nat) : Int) ||| BitVec.ofInt 64 (IntKind.u64.wrap (IntKind.u64.wrap (((BitVec.ofInt 64 (IntKind.u64.wrap (x : Int)) &&& BitVec.ofInt 64 (IntKind.u64.wrap (IntKind.u64.wrap (1 * 2 ^ min ((n : Int)).toNat 64) - 1))).toNat : Nat) : Int) * 2 ^ min ((l.length - 8 * (l.length / 8) : Nat) : Int).toNat 64))).toNat : Nat) : Int) = ((num ((l ++ lowB n x).drop (8 * (l.length / 8))) : Nat) : Int) := by
    have hm : min ((n : Int)).toNat 64 = n := by omega
    have hm2 : min ((l.length - 8 * (l.length / 8) : Nat) : Int).toNat 64 = l.length - 8 * (l.length / 8) := by omega
    have hp : 2 ^ n ≤ 2 ^ 32 := Nat.pow_le_pow_right (by decide) hn
    have h1 := Nat.two_pow_pos n
    have hc : (2 : Int) ^ n = ((2 ^ n : Nat) : Int) := by push_cast; rfl
    have hmask : IntKind.u64.wrap (IntKind.u64.wrap (1 * 2 ^ min ((n : Int)).toNat 64) - 1) = ((2 ^ n - 1 : Nat) : Int) := by
      rw [hm, Int.one_mul, hc, wrap_u64 (x := ((2 ^ n : Nat) : Int)) (by omega) (by omega), wrap_u64 (by omega) (by omega)]
      omega
    have hand : x &&& (2 ^ n - 1) = x % 2 ^ n := Nat.and_two_pow_sub_one_eq_mod x n
    have hxm : x % 2 ^ n < 2 ^ n := Nat.mod_lt _ h1
    rw [hmask, wrap_u64 (x := (x : Int)) (by omega) (by omega), and_nat 64 _ _ (by omega) (by omega), hand, hm2]
    have hc2 : (2 : Int) ^ (l.length - 8 * (l.length / 8)) = ((2 ^ (l.length - 8 * (l.length / 8)) : Nat) : Int) := by push_cast; rfl
    have hmul : x % 2 ^ n * 2 ^ (l.length - 8 * (l.length / 8)) ≤ 2 ^ 32 * 2 ^ 7 := Nat.mul_le_mul (by omega) hp1
    rw [wrap_u64 (x := ((x % 2 ^ n : Nat) : Int)) (by omega) (by omega), hc2, ← Int.natCast_mul, wrap_u64 (x := ((x % 2 ^ n * 2 ^ (l.length - 8 * (l.length / 8)) : Nat) : Int)) (by omega) (by omega)]
    rw [or_nat 64 _ _ (by omega) (by omega)]
    have hor := num_or (l.drop (8 * (l.length / 8))) (x % 2 ^ n)
    rw [hlen] at hor
    rw [hor, List.drop_append_of_le_length (by omega), num_append, num_lowB, hlen]
    have : 2 ^ (l.length - 8 * (l.length / 8)) * (x % 2 ^ n) ≤ 2 ^ 32 * 2 ^ 7 := by rw [Nat.mul_comm]; exact hmul
    exact wrap_u64 (by omega) (by omega)
  rw [hhold]
  rintro w4 rfl
  have b1 := set_blk h1.blk 1 (.int .u64 ((num ((l ++ lowB n x).drop (8 * (l.length / 8))) : Nat) : Int))
  refine ⟨((l.length - 8 * (l.length / 8) : Nat) : Int), by rw [cell_blk b1]; rfl, wr_blk b1 (by simp), ?_⟩
  have e2 : IntKind.i64.wrap (((l.length - 8 * (l.length / 8) : Nat) : Int) + (n : Int)) = (((l ++ lowB n x).length - 8 * (l.length / 8) : Nat) : Int) := by
    rw [List.length_append, lowB_length, wrap_i64 (by omega) (by omega)]; omega
  rw [e2]
  rintro w6 rfl
  have b2 := set_blk b1 2 (.int .i64 (((l ++ lowB n x).length - 8 * (l.length / 8) : Nat) : Int))
  have hLl : (l ++ lowB n x).length = l.length + n := by rw [List.length_append, lowB_length]
  have hbo : bytesOf (l ++ lowB n x) (l.length / 8) = bytesOf l (l.length / 8) := bytesOf_append _ _ _ (by omega)
  generalize l ++ lowB n x = L at b1 b2 hLl hbo ⊢
  have hfr : Fr (· = b) w _ := ((Fr.drew (· = b) d1).trans' (.set (· = b) _ (a := ⟨b, 1, none⟩) (.int .u64 ((num (L.drop (8 * (l.length / 8))) : Nat) : Int)) rfl)).trans' (.set (· = b) _ (a := ⟨b, 2, none⟩) (.int .i64 ((L.length - 8 * (l.length / 8) : Nat) : Int)) rfl)
  refine ⟨fun w9 => ∃ sl' m', WrAt w9 b sl' L m' ∧ L.length < 8 * m' + 64 ∧ l.length / 8 ≤ m' ∧ Fr (WX b sl) w w9 ∧ Since w sl sl', fun w9 => match w9.cell? ⟨b, 2, none⟩ with | some (.int _ n) => n.toNat | _ => 0, ⟨sl, l.length / 8, ⟨by omega, b2, ?_⟩, by omega, Nat.le_refl _, hfr.mono (fun _ _ h => .inl h), .refl _ _⟩, ?_⟩
  · rw [hbo]
    exact h.own.keep hfr (fun y hy => by have := (h.own.blk hy).1; omega)
  rintro w9 ⟨sl', m', h9, hhi, hmm, hf9, hs9⟩
  refine ⟨_, h9.c2, fun hge => ?_, fun hlt => ?_⟩
  · have hge := of_decide_eq_true hge
    have hge' : 8 * m' + 8 ≤ L.length := by omega
    intro w11 d11
    have h11 := h9.drew d11
    have hf11 : Fr (WX b sl) w w11 := hf9.trans' (.drew _ d11)
    refine ⟨fun w => w.heap[b]? = w11.heap[b]?, rfl, sl', fun w hw => by rw [cell_blk (hw.trans h11.blk)]; rfl, _, fun w hw => by rw [cell_blk (hw.trans h11.blk)]; rfl, ?_⟩
    intro w17 hw17
    have hne : b < w11.heap.size := lt_blk h11.blk
    have hbyte : IntKind.u8.wrap ((num (L.drop (8 * m')) : Nat) : Int) = (((BitsM.byteOf L m').toNat : Nat) : Int) := by
      rw [wrap_u8_mod, byteOf_nat, num_take]; rfl
    rw [hbyte] at hw17
    have hbl : (byteV (bytesOf L m')).length = m' := by rw [List.length_map, bytesOf_length]
    refine ⟨by rw [hw17]; exact alloc_old _ _ hne, ?_⟩
    obtain ⟨w18, l19, hr, ho18, hf18, hs18⟩ := append_one' elU8 h11.own (v := .int .u8 (((BitsM.byteOf L m').toNat : Nat) : Int)) rfl (by rw [hbl]; unfold maxLen; omega) (by rw [hbl]; omega) hne hw17
    have hb18 : w18.heap[b]? = w11.heap[b]? := hf18.blk b hne (fun ⟨y, hy, e⟩ => by have := (h11.own.blk hy).1; omega)
    have k18 := hb18.trans h11.blk
    refine ⟨w18, l19, hr, hb18, wr_blk k18 (by simp), ?_⟩
    rintro w20 rfl
    have c1 := set_blk k18 0 (.slice l19.a l19.len l19.cap)
    refine ⟨((num (L.drop (8 * m')) : Nat) : Int), by rw [cell_blk c1]; rfl, by decide, wr_blk c1 (by simp), ?_⟩
    have e3 : Int.fdiv ((num (L.drop (8 * m')) : Nat) : Int) (2 ^ min (Int.toNat 8) 64) = ((num (L.drop (8 * (m' + 1))) : Nat) : Int) := by
      have hp : (2 : Int) ^ min (Int.toNat 8) 64 = ((2 ^ 8 : Nat) : Int) := rfl
      rw [hp, show 8 * (m' + 1) = 8 * m' + 8 by omega, ← List.drop_drop, num_drop (L.drop (8 * m')), Int.fdiv_eq_ediv_of_nonneg _ (Int.natCast_nonneg _), ← Int.natCast_ediv]
    rw [e3]
    rintro w22 rfl
    have c2 := set_blk c1 1 (.int .u64 ((num (L.drop (8 * (m' + 1))) : Nat) : Int))
    refine ⟨((L.length - 8 * m' : Nat) : Int), by rw [cell_blk c2]; rfl, wr_blk c2 (by simp), ?_⟩
    have e4 : IntKind.i64.wrap (((L.length - 8 * m' : Nat) : Int) - 8) = ((L.length - 8 * (m' + 1) : Nat) : Int) := by rw [wrap_i64 (by omega) (by omega)]; omega
    rw [e4]
    rintro w24 rfl
    have c3 := set_blk c2 2 (.int .i64 ((L.length - 8 * (m' + 1) : Nat) : Int))
    have hf24 : Fr (· = b) w18 _ := ((Fr.set (· = b) _ (a := ⟨b, 0, none⟩) (.slice l19.a l19.len l19.cap) rfl).trans' (.set (· = b) _ (a := ⟨b, 1, none⟩) (.int .u64 ((num (L.drop (8 * (m' + 1))) : Nat) : Int)) rfl)).trans' (.set (· = b) _ (a := ⟨b, 2, none⟩) (.int .i64 ((L.length - 8 * (m' + 1) : Nat) : Int)) rfl)
    have hfin : WrAt _ b l19 L (m' + 1) := ⟨by omega, c3, by
      have := ho18.keep hf24 (fun y hy => by have := (ho18.blk hy).1; omega)
      rw [bytesOf_succ, byteV, List.map_append]; exact this⟩
    refine ⟨⟨l19, m' + 1, hfin, by omega, by omega, ?_, ?_⟩, ?_⟩
    · refine (hf11.trans hf18 ?_).trans hf24 (fun k _ hk => .inl hk)
      rintro k hk ⟨y, hy, rfl⟩
      rcases hs9 y hy with ⟨z, hz, hzb⟩ | hn
      · exact .inr ⟨z, hz, hzb.symm⟩
      · omega
    · exact hs9.trans (w' := w11) hs18 hf11.size
    · have q1 := hfin.c2
      have q2 := h9.c2
      simp only [q1, q2, Int.toNat_natCast]
      omega
  · have hlt := of_decide_eq_false hlt
    have : m' = L.length / 8 := by have := h9.lo; omega
    subst this
    exact ⟨rfl, sl', ⟨h9, by omega⟩, hf9, hs9⟩
theorem wbits_bad {w : World} {b : Nat} {x n : Int} (hn : n < 0 ∨ 32 < n) :
    Calls Try.prog F_bitin_Writer_Bits #[.pointer (some ⟨b, 0, none⟩), .int .u32 x, .int .i64 n] w fun e w' => e = .returned (.tuple #[]) ∧ w' = w := by
  refine vc_bitin_Writer_Bits_ok (R := fun v w' => v = .tuple #[] ∧ w' = w) ?_ (fun v w' h => ⟨by rw [h.1], h.2⟩)
  refine ⟨fun _ => ⟨rfl, rfl⟩, fun h1 => ⟨fun _ => ⟨rfl, rfl⟩, fun h2 => ?_⟩⟩
  have h1 := of_decide_eq_false h1; have h2 := of_decide_eq_false h2
  omega
theorem WX.back {w : World} {b : Nat} {sl sl' : Sl} (h : Since w sl sl') {k : Nat} (hk : k < w.heap.size) (hx : WX b sl' k) : WX b sl k := by
  rcases hx with h1 | ⟨y, hy, rfl⟩
  · exact .inl h1
  · rcases h y hy with ⟨z, hz, hb⟩ | hn
    · exact .inr ⟨z, hz, hb.symm⟩
    · omega

/-- A code's bits are put, the highest first. -/
theorem wcode_spec {w : World} {b : Nat} {sl : Sl} {l : List Bool} (h : Wrt w b sl l) {x n : Nat} (hx : x < 4294967296) (h1 : 1 ≤ n) (hn : n ≤ 32) (hl : l.length + n ≤ 1099511627776) :
    Calls Try.prog F_bitin_Writer_Code #[.pointer (some ⟨b, 0, none⟩), .int .u32 x, .int .i64 n] w fun e w' =>
      e = .returned (.tuple #[]) ∧ ∃ sl', Wrt w' b sl' (l ++ (lowB n x).reverse) ∧ Fr (WX b sl) w w' ∧ Since w sl sl' := by
  refine vc_bitin_Writer_Code_ok (R := fun v w' => v = .tuple #[] ∧ ∃ sl', Wrt w' b sl' (l ++ (lowB n x).reverse) ∧ Fr (WX b sl) w w' ∧ Since w sl sl') ?_ (fun v w' h => ⟨by rw [h.1], h.2⟩)
  refine ⟨fun hlt => absurd (of_decide_eq_true hlt) (by omega), fun _ => ⟨fun hgt => absurd (of_decide_eq_true hgt) (by omega), fun _ => ?_⟩⟩
  refine ⟨fun i w' => ∃ (k : Nat) (sl' : Sl), k ≤ n ∧ i = (k : Int) - 1 ∧ Wrt w' b sl' (l ++ ((lowB n x).drop k).reverse) ∧ Fr (WX b sl) w w' ∧ Since w sl sl', fun i _ => (i + 1).toNat,
    ⟨n, sl, Nat.le_refl _, by rw [wrap_i64 (by omega) (by omega)], by rw [List.drop_eq_nil_of_le (by rw [lowB_length]; omega)]; simpa using h, .refl _ _, .refl _ _⟩, ?_⟩
  rintro i w4 ⟨k, sl', hk, rfl, h4, hf, hs⟩
  refine ⟨fun h => ?_, fun h => ?_⟩
  · have h := of_decide_eq_true h
    have hm : min ((k : Int) - 1).toNat 32 = k - 1 := by omega
    have hp : ((2 : Int) ^ (k - 1)) = ((2 ^ (k - 1) : Nat) : Int) := by push_cast; rfl
    rw [hm, hp, Int.fdiv_eq_ediv_of_nonneg _ (Int.natCast_nonneg _), ← Int.natCast_ediv]
    refine ⟨by omega, ?_⟩
    have hxl : x / 2 ^ (k - 1) ≤ x := Nat.div_le_self _ _
    have hlen : (l ++ ((lowB n x).drop k).reverse).length = l.length + (n - k) := by rw [List.length_append, List.length_reverse, List.length_drop, lowB_length]
    refine (wbits_spec h4 (x := x / 2 ^ (k - 1)) (n := 1) (by omega) (by decide) (by omega)).mono ?_
    rintro e w6 ⟨rfl, sl2, h6, f6, s6⟩
    have e1 : IntKind.i64.wrap ((k : Int) - 1 - 1) = ((k - 1 : Nat) : Int) - 1 := by rw [wrap_i64 (by omega) (by omega)]; omega
    rw [e1]
    refine ⟨rfl, ⟨k - 1, sl2, by omega, rfl, ?_, hf.trans f6 (fun q hq hx => WX.back hs hq hx), hs.trans s6 hf.size⟩, by dsimp only; omega⟩
    have hlt : k - 1 < (lowB n x).length := by rw [lowB_length]; omega
    have hd : (lowB n x).drop (k - 1) = (lowB n x)[k - 1] :: (lowB n x).drop k := by
      rw [List.drop_eq_getElem_cons hlt, show k - 1 + 1 = k by omega]
    have hb : lowB 1 (x / 2 ^ (k - 1)) = [(lowB n x)[k - 1]] := by
      have h1 := lowB_get n x (k - 1) (by omega)
      rw [List.getElem?_eq_getElem hlt] at h1
      simp only [Option.some.injEq] at h1
      rw [h1, Nat.testBit_eq_decide_div_mod_eq]
      simp only [lowB, List.cons.injEq, and_true]
      rfl
    rw [hb, List.append_assoc] at h6
    rw [hd, List.reverse_cons]
    exact h6
  · have h := of_decide_eq_false h
    have : k = 0 := by omega
    subst this
    exact ⟨rfl, sl', h4, hf, hs⟩
theorem wcode_bad {w : World} {b : Nat} {x n : Int} (hn : n < 1 ∨ 32 < n) :
    Calls Try.prog F_bitin_Writer_Code #[.pointer (some ⟨b, 0, none⟩), .int .u32 x, .int .i64 n] w fun e w' => e = .returned (.tuple #[]) ∧ w' = w := by
  refine vc_bitin_Writer_Code_ok (R := fun v w' => v = .tuple #[] ∧ w' = w) ?_ (fun v w' h => ⟨by rw [h.1], h.2⟩)
  refine ⟨fun _ => ⟨rfl, rfl⟩, fun h1 => ⟨fun _ => ⟨rfl, rfl⟩, fun h2 => ?_⟩⟩
  have h1 := of_decide_eq_false h1; have h2 := of_decide_eq_false h2
  omega

/-- The byte that has been begun is filled. -/
theorem walign_spec {w : World} {b : Nat} {sl : Sl} {l : List Bool} (h : Wrt w b sl l) (hl : l.length + 8 ≤ 1099511627776) :
    Calls Try.prog F_bitin_Writer_Align #[.pointer (some ⟨b, 0, none⟩)] w fun e w' =>
      e = .returned (.tuple #[]) ∧ ∃ sl', Wrt w' b sl' (fill8 l) ∧ Fr (WX b sl) w w' ∧ Since w sl sl' := by
  refine vc_bitin_Writer_Align_ok (R := fun v w' => v = .tuple #[] ∧ ∃ sl', Wrt w' b sl' (fill8 l) ∧ Fr (WX b sl) w w' ∧ Since w sl sl') ?_ (fun v w' h => ⟨by rw [h.1], h.2⟩)
  refine ⟨_, h.1.c2, fun hgt => ⟨_, h.1.c2, ?_⟩, fun hle => ?_⟩
  · have hgt := of_decide_eq_true hgt
    have e1 : IntKind.i64.wrap (8 - ((l.length - 8 * (l.length / 8) : Nat) : Int)) = ((8 - l.length % 8 : Nat) : Int) := by rw [wrap_i64 (by omega) (by omega)]; omega
    rw [e1]
    refine (wbits_spec h (x := 0) (n := 8 - l.length % 8) (by decide) (by omega) (by omega)).mono ?_
    rintro e w4 ⟨rfl, sl', h4, f4, s4⟩
    rw [fill8_lowB l (by omega)] at h4
    exact ⟨rfl, rfl, sl', h4, f4, s4⟩
  · have hle := of_decide_eq_false hle
    rw [fill8_whole l (by omega)]
    exact ⟨rfl, sl, h, .refl _ _, .refl _ _⟩

/-- Whole bytes are put, behind an Align. -/
theorem wbytes_spec {w : World} {b : Nat} {sl : Sl} {l : List Bool} (h : Wrt w b sl l) (s : ByteArray) (hl : l.length + 8 + 8 * s.size ≤ 1099511627776) :
    Calls Try.prog F_bitin_Writer_Bytes #[.pointer (some ⟨b, 0, none⟩), .string s] w fun e w' =>
      e = .returned (.tuple #[]) ∧ ∃ sl', Wrt w' b sl' (fill8 l ++ sbits s.data.toList) ∧ Fr (WX b sl) w w' ∧ Since w sl sl' := by
  refine vc_bitin_Writer_Bytes_ok (R := fun v w' => v = .tuple #[] ∧ ∃ sl', Wrt w' b sl' (fill8 l ++ sbits s.data.toList) ∧ Fr (WX b sl) w w' ∧ Since w sl sl') ?_ (fun v w' h => ⟨by rw [h.1], h.2⟩)
  refine (walign_spec h (by omega)).mono ?_
  rintro e w2 ⟨rfl, sl2, h2, f2, s2⟩
  have hfl := fill8_length l
  have hss : s.data.toList.length = s.size := by simp
  have hq : (fill8 l).length / 8 = (l.length + 7) / 8 := by omega
  obtain ⟨g, _⟩ := h2
  rw [hq] at g
  have hb2 := lt_blk g.blk
  have hxl : (byteV (bytesOf (fill8 l) ((l.length + 7) / 8))).length = (l.length + 7) / 8 := by rw [List.length_map, bytesOf_length]
  obtain ⟨w4, l5, hr, ho, hf, hs⟩ := append_str (u := T_string) elU8 (by kernel_rfl) g.own s (by rw [hxl]; omega) hb2
  refine ⟨rfl, sl2, g.c0, w4, l5, hr, ?_⟩
  have k4 := hf.keep g.blk (fun ⟨y, hy, e⟩ => by have := (g.own.blk hy).1; omega)
  refine ⟨wr_blk k4 (by simp), ?_⟩
  rintro w6 rfl
  have c0 := set_blk k4 0 (.slice l5.a l5.len l5.cap)
  have hd0 : (fill8 l).drop (8 * ((l.length + 7) / 8)) = [] := List.drop_eq_nil_of_le (by omega)
  have hL : (fill8 l ++ sbits s.data.toList).length = 8 * ((l.length + 7) / 8 + s.size) := by rw [List.length_append, sbits_length, hss]; omega
  have hset : Fr (· = b) w4 _ := Fr.set (· = b) _ (a := ⟨b, 0, none⟩) (.slice l5.a l5.len l5.cap) rfl
  refine ⟨rfl, l5, ⟨⟨by omega, ?_, ?_⟩, by omega⟩, (f2.trans hf (fun k hk hx => WX.back s2 hk (.inr hx))).trans hset (fun k _ hk => .inl hk), s2.trans hs f2.size⟩
  · have hd1 : (fill8 l ++ sbits s.data.toList).drop (8 * ((fill8 l ++ sbits s.data.toList).length / 8)) = [] := List.drop_eq_nil_of_le (by omega)
    have hn0 : (fill8 l).length - 8 * ((l.length + 7) / 8) = 0 := by omega
    have hn1 : (fill8 l ++ sbits s.data.toList).length - 8 * ((fill8 l ++ sbits s.data.toList).length / 8) = 0 := by omega
    rw [hd1, hn1]
    rw [hd0, hn0] at c0
    exact c0
  · have hbs := bytesOf_sbits (fill8 l) ((l.length + 7) / 8) hfl s.data.toList s.data.toList.length (Nat.le_refl _)
    rw [List.take_length, hss] at hbs
    rw [show (fill8 l ++ sbits s.data.toList).length / 8 = (l.length + 7) / 8 + s.size by omega, hbs, byteV, List.map_append]
    exact ho.keep hset (fun y hy => by have := (ho.blk hy).1; omega)

/-- The bytes. -/
theorem wtext_spec {w : World} {b : Nat} {sl : Sl} {l : List Bool} (h : Wrt w b sl l) :
    Calls Try.prog F_bitin_Writer_Text #[.pointer (some ⟨b, 0, none⟩)] w fun e w' => e = .returned (.string ⟨(textOf l).toArray⟩) ∧ Fr (fun _ => False) w w' := by
  refine vc_bitin_Writer_Text_ok (R := fun v w' => v = .string ⟨(textOf l).toArray⟩ ∧ Fr (fun _ => False) w w') ?_ (fun v w' h => ⟨by rw [h.1], h.2⟩)
  obtain ⟨g, hl⟩ := h
  have hlen : (bytesOf l (l.length / 8)).length = sl.len := by rw [g.own.len, List.length_map]
  refine ⟨_, g.c2, fun hgt => ?_, fun hle => ?_⟩
  · have hgt := of_decide_eq_true hgt
    intro w2 d
    have g2 := g.drew d
    have hc : ∀ w', Fr (fun _ => False) w2 w' → (convert T_S_uint8 T_string (.slice sl.a sl.len sl.cap)).run Try.prog w' = .ok (.string ⟨(bytesOf l (l.length / 8)).toArray⟩) w' := fun w' f =>
      bytes_str elU8.sl (by kernel_rfl) (by kernel_rfl) _ ((g2.keep f (by simp) (by simp)).own.reads) hlen
    refine ⟨Fr (fun _ => False) w2, .refl _ _, sl, fun w' f => (g2.keep f (by simp) (by simp)).c0, _, fun w' f => (g2.keep f (by simp) (by simp)).c1, _, fun w' f => hc w' f, ?_⟩
    rintro w10 rfl
    have f10 : Fr (fun _ => False) w2 _ := Fr.alloc (fun _ => False) w2 (.cells #[.int .u8 (IntKind.u8.wrap ((num (l.drop (8 * (l.length / 8))) : Nat) : Int))] T_uint8)
    refine ⟨f10, ?_⟩
    have hbyte : IntKind.u8.wrap ((num (l.drop (8 * (l.length / 8))) : Nat) : Int) = (((BitsM.byteOf l (l.length / 8)).toNat : Nat) : Int) := by
      rw [wrap_u8_mod, byteOf_nat, num_take]; rfl
    rw [hbyte] at f10 ⊢
    have hr : Reads (w2.alloc (.cells #[.int .u8 (((BitsM.byteOf l (l.length / 8)).toNat : Nat) : Int)] T_uint8)) (some ⟨w2.heap.size, 0, none⟩) (byteV [BitsM.byteOf l (l.length / 8)]) := by
      intro i v hv
      refine ⟨_, rfl, ?_⟩
      rw [add_lit, cell_blk (alloc_new _ _), ← hv, Nat.zero_add]
      cases i <;> simp
    refine ⟨_, _, bytes_str elU8.sl (by kernel_rfl) (by kernel_rfl) _ hr rfl, f10, ?_, ?_, (Fr.drew (fun _ => False) d).trans' f10⟩
    · show (bytesOf l (l.length / 8)).toArray.size + 1 ≤ _
      rw [List.size_toArray, bytesOf_length]; omega
    · congr 1
      unfold textOf
      rw [show (l.length + 7) / 8 = l.length / 8 + 1 by omega, bytesOf_succ]
      apply ByteArray.ext
      rw [ByteArray.data_append]
      simp
  · have hle := of_decide_eq_false hle
    refine ⟨sl, g.c0, w, _, bytes_str elU8.sl (by kernel_rfl) (by kernel_rfl) _ g.own.reads hlen, ?_, .refl _ _⟩
    unfold textOf
    rw [show (l.length + 7) / 8 = l.length / 8 by omega]
end Go.Proofs.Ytofejgaanpaieaa

/- Sums and numbers as bytes: what the functions of the program and of the reference say. Conditions: the numbers are within their kinds. -/
import Derived.Test.YtofejgaanpaieaaInfX
import Derived.Test.YtofejgaanpaieaaGenA
set_option linter.unusedVariables false
namespace SumM
/-- One byte more. -/
def adl1 (x : Nat × Nat) (c : UInt8) : Nat × Nat := ((x.1 + c.toNat) % 65521, (x.2 + (x.1 + c.toNat) % 65521) % 65521)
def adl (l : List UInt8) : Nat × Nat := l.foldl adl1 (1, 0)
/-- Adler's sum. -/
def adler (l : List UInt8) : Nat := 65536 * (adl l).2 + (adl l).1
theorem adl_snoc (l : List UInt8) (c : UInt8) : adl (l ++ [c]) = adl1 (adl l) c := by
  unfold adl; rw [List.foldl_append]; rfl
theorem adl_lt (l : List UInt8) : (adl l).1 < 65521 ∧ (adl l).2 < 65521 := by
  rcases List.eq_nil_or_concat l with rfl | ⟨r, c, rfl⟩
  · decide
  · rw [List.concat_eq_append, adl_snoc]
    exact ⟨Nat.mod_lt _ (by decide), Nat.mod_lt _ (by decide)⟩
theorem adler_lt (l : List UInt8) : adler l < 4294967296 := by
  have := adl_lt l
  unfold adler; omega
/-- The highest first, of n bytes. -/
def bigB (n x : Nat) : List UInt8 := (List.range n).map fun i => UInt8.ofNat (x / 256 ^ (n - 1 - i))
/-- The lowest first. -/
def littleB (n x : Nat) : List UInt8 := (List.range n).map fun i => UInt8.ofNat (x / 256 ^ i)
theorem bigB_length (n x : Nat) : (bigB n x).length = n := by simp [bigB]
theorem littleB_length (n x : Nat) : (littleB n x).length = n := by simp [littleB]
theorem littleB_succ (n x : Nat) : littleB (n + 1) x = littleB n x ++ [UInt8.ofNat (x / 256 ^ n)] := by
  unfold littleB; rw [List.range_succ, List.map_append]; rfl
theorem big_little (n x : Nat) : (littleB n x).reverse = bigB n x := by
  refine List.ext_getElem (by simp [bigB, littleB]) fun k h1 h2 => ?_
  rw [bigB_length] at h2
  simp only [List.getElem_reverse, littleB, bigB, List.getElem_map, List.getElem_range, List.length_map, List.length_range]
/-- The number of bytes, the highest first. -/
def num8 (l : List UInt8) : Nat := l.foldl (fun x c => 256 * x + c.toNat) 0
theorem num8_snoc (l : List UInt8) (c : UInt8) : num8 (l ++ [c]) = 256 * num8 l + c.toNat := by
  unfold num8; rw [List.foldl_append]; rfl
theorem num8_lt : ∀ (n : Nat) (l : List UInt8), l.length = n → num8 l < 256 ^ n
  | 0, l, h => by
    have : l = [] := List.length_eq_zero_iff.1 h
    subst this; decide
  | n + 1, l, h => by
    rcases List.eq_nil_or_concat l with rfl | ⟨r, c, rfl⟩
    · cases h
    · rw [List.concat_eq_append] at h ⊢
      rw [List.length_append, List.length_singleton] at h
      have h1 := num8_lt n r (by omega)
      have h2 := c.toNat_lt
      rw [num8_snoc, Nat.pow_succ]
      omega
theorem ofNat_eq {x y : Nat} (h : x % 256 = y % 256) : UInt8.ofNat x = UInt8.ofNat y := by
  rw [← UInt8.toNat_inj]; simpa using h
theorem bigB_succ (n x : Nat) : bigB (n + 1) x = bigB n (x / 256) ++ [UInt8.ofNat x] := by
  unfold bigB
  rw [List.range_succ, List.map_append]
  congr 1
  · refine List.map_congr_left fun i hi => ?_
    have hi := List.mem_range.1 hi
    rw [Nat.div_div_eq_div_mul, show n + 1 - 1 - i = (n - 1 - i) + 1 by omega, Nat.pow_succ, Nat.mul_comm]
  · simp
/-- A number of so many bytes says these bytes. -/
theorem bigB_num8 : ∀ (n : Nat) (l : List UInt8), l.length = n → bigB n (num8 l) = l
  | 0, l, h => by
    have : l = [] := List.length_eq_zero_iff.1 h
    subst this; rfl
  | n + 1, l, h => by
    rcases List.eq_nil_or_concat l with rfl | ⟨r, c, rfl⟩
    · cases h
    · rw [List.concat_eq_append] at h ⊢
      rw [List.length_append, List.length_singleton] at h
      have h2 := c.toNat_lt
      rw [num8_snoc, bigB_succ, show (256 * num8 r + c.toNat) / 256 = num8 r by omega, bigB_num8 n r (by omega)]
      congr 2
      rw [← UInt8.toNat_inj]
      simp
theorem num8_bigB : ∀ (n x : Nat), x < 256 ^ n → num8 (bigB n x) = x
  | 0, x, h => by have : x = 0 := by simpa using h
                  subst this; rfl
  | n + 1, x, h => by
    rw [Nat.pow_succ] at h
    rw [bigB_succ, num8_snoc, num8_bigB n (x / 256) (by omega)]
    simp; omega
end SumM
namespace Go.Proofs.Ytofejgaanpaieaa
open Go Vc BitsM SumM Go.Proofs

theorem take_byt (s : ByteArray) {n : Nat} (h : n < s.size) : s.data.toList.take (n + 1) = s.data.toList.take n ++ [UInt8.ofNat (byt s n)] := by
  have hlt : n < s.data.toList.length := by simp only [Array.length_toList]; exact h
  have hb : byt s n = (s.data.toList[n]).toNat := by unfold byt; rw [List.getElem?_eq_getElem hlt]; rfl
  rw [List.take_succ_eq_append_getElem hlt, hb, UInt8.ofNat_toNat]
theorem take_size (s : ByteArray) : s.data.toList.take s.size = s.data.toList := List.take_of_length_le (by simp)
theorem toNat_byt (s : ByteArray) (n : Nat) : (UInt8.ofNat (byt s n)).toNat = byt s n := by
  have := byt_lt s n
  simp; omega
/-- 'FromBig'. -/
theorem frombig_spec (s : ByteArray) (hs : s.size ≤ 8) (w : World) :
    Calls Try.prog F_sums_FromBig #[.string s] w fun e w' => e = .returned (.int .u64 ((num8 s.data.toList : Nat) : Int)) ∧ w' = w := by
  refine vc_sums_FromBig_ok (R := fun v w' => v = .int .u64 ((num8 s.data.toList : Nat) : Int) ∧ w' = w) ?_ (fun v w' h => ⟨by rw [h.1], h.2⟩)
  refine ⟨fun a i w5 => ∃ n : Nat, i = (n : Int) ∧ n ≤ s.size ∧ a = ((num8 (s.data.toList.take n) : Nat) : Int) ∧ w5 = w, fun a i w5 => s.size - i.toNat, ⟨0, rfl, Nat.zero_le _, rfl, rfl⟩, ?_⟩
  rintro a i w5 ⟨n, rfl, hn, rfl, hw⟩
  replace hw := hw.symm
  subst hw
  refine ⟨fun hlt => ?_, fun hge => ?_⟩
  · have hlt := of_decide_eq_true hlt
    have hb := byt_lt s n
    have hl : (s.data.toList.take n).length = n := by rw [List.length_take]; simp; omega
    have hv := num8_lt n _ hl
    have hp : 256 ^ n ≤ 256 ^ 7 := Nat.pow_le_pow_right (by decide) (by omega)
    have hsn := num8_snoc (s.data.toList.take n) (UInt8.ofNat (byt s n))
    rw [← take_byt s (by omega), toNat_byt] at hsn
    have hor : 2 ^ 8 * num8 (s.data.toList.take n) ||| byt s n = 2 ^ 8 * num8 (s.data.toList.take n) + byt s n := (Nat.two_pow_add_eq_or_of_lt hb _).symm
    generalize num8 (s.data.toList.take n) = x at hsn hv hor ⊢
    have e0 : (x : Int) * 2 ^ min (Int.toNat 8) 64 = ((2 ^ 8 * x : Nat) : Int) := by
      rw [show (2 : Int) ^ min (Int.toNat 8) 64 = ((2 ^ 8 : Nat) : Int) from rfl, ← Int.natCast_mul, Nat.mul_comm]
    have e2 : IntKind.u64.wrap (((BitVec.ofInt 64 (IntKind.u64.wrap ((x : Int) * 2 ^ min (Int.toNat 8) 64)) ||| BitVec.ofInt 64 (IntKind.u64.wrap (byteAt s (n : Int)))).toNat : Nat) : Int) = ((num8 (s.data.toList.take (n + 1)) : Nat) : Int) := by
      rw [e0, byteAt_nat, wrap_u64 (x := ((2 ^ 8 * x : Nat) : Int)) (by omega) (by omega), wrap_u64 (x := ((byt s n : Nat) : Int)) (by omega) (by omega), or_nat 64 _ _ (by omega) (by omega), hor, wrap_u64 (by omega) (by omega), hsn]
    have e3 : IntKind.i64.wrap ((n : Int) + 1) = ((n + 1 : Nat) : Int) := by rw [wrap_i64 (by omega) (by omega)]; omega
    refine ⟨by decide, ⟨by omega, by omega⟩, ?_⟩
    rw [e2, e3]
    exact ⟨⟨n + 1, rfl, by omega, rfl, rfl⟩, by dsimp only; omega⟩
  · have hge := of_decide_eq_false hge
    have : n = s.size := by omega
    subst this
    rw [take_size]
    exact ⟨rfl, rfl⟩
theorem byteV_wrap (l : List UInt8) (z : Int) (hz : 0 ≤ z) : byteV l ++ [.int .u8 (IntKind.u8.wrap z)] = byteV (l ++ [UInt8.ofNat z.toNat]) := by
  obtain ⟨x, rfl⟩ := Int.eq_ofNat_of_zero_le hz
  rw [wrap_u8_mod, show ((x : Int) % 256) = ((x % 256 : Nat) : Int) by omega, byteV_snoc l (x % 256) (Nat.mod_lt _ (by decide)), Int.toNat_natCast, ofNat_eq (Nat.mod_mod _ _)]
theorem shift_byte (x k : Nat) : Int.fdiv (x : Int) (2 ^ min (((8 * k : Nat) : Int)).toNat 64) = (if k ≤ 8 then ((x / 256 ^ k : Nat) : Int) else ((x / 2 ^ 64 : Nat) : Int)) := by
  have hc : ∀ j : Nat, (2 : Int) ^ j = ((2 ^ j : Nat) : Int) := fun j => by push_cast; rfl
  split
  · rw [show min (((8 * k : Nat) : Int)).toNat 64 = 8 * k by omega, hc, Int.fdiv_eq_ediv_of_nonneg _ (Int.natCast_nonneg _), ← Int.natCast_ediv, Nat.pow_mul]
  · rw [show min (((8 * k : Nat) : Int)).toNat 64 = 64 by omega, hc, Int.fdiv_eq_ediv_of_nonneg _ (Int.natCast_nonneg _), ← Int.natCast_ediv]
theorem bigB_get {n x i : Nat} (h : i < n) : (bigB n x).take (i + 1) = (bigB n x).take i ++ [UInt8.ofNat (x / 256 ^ (n - 1 - i))] := by
  rw [List.take_succ_eq_append_getElem (by rw [bigB_length]; exact h)]
  simp [bigB]
theorem pow_big {x k : Nat} (hx : x < 18446744073709551616) (h : 8 ≤ k) : x / 256 ^ k = 0 := by
  refine Nat.div_eq_of_lt ?_
  have : 256 ^ 8 ≤ 256 ^ k := Nat.pow_le_pow_right (by decide) h
  omega
/-- 'Big'. -/
theorem big_spec (x n : Nat) (hx : x < 18446744073709551616) (hn : n ≤ 1000) (w : World) :
    Calls Try.prog F_sums_Big #[.int .u64 (x : Int), .int .i64 (n : Int)] w fun e w' => e = .returned (.string ⟨(bigB n x).toArray⟩) ∧ Fr (fun _ => False) w w' := by
  refine vc_sums_Big_ok (R := fun v w' => v = .string ⟨(bigB n x).toArray⟩ ∧ Fr (fun _ => False) w w') ?_ (fun v w' h => ⟨by rw [h.1], h.2⟩)
  have hlim : (if (0 : Int) > (n : Int) then 0 else (n : Int)) = (n : Int) := by rw [if_neg (by omega)]
  refine ⟨fun l i w' => ∃ k : Nat, i = (k : Int) ∧ k ≤ n ∧ Own w' w.heap.size T_uint8 l (byteV ((bigB n x).take k)) ∧ Fr (fun _ => False) w w', fun l i w' => n - i.toNat, ⟨0, rfl, Nat.zero_le _, .nil _ _ _, .refl _ _⟩, ?_⟩
  rintro l3 i w5 ⟨k, rfl, hk, ho, hf⟩
  rw [hlim]
  have e3 : IntKind.i64.wrap ((k : Int) + 1) = ((k + 1 : Nat) : Int) := by rw [wrap_i64 (by omega) (by omega)]; omega
  rw [e3]
  have hln : (byteV ((bigB n x).take k)).length = k := by simp [byteV, bigB_length]; omega
  refine ⟨fun hlt => ?_, fun hge => ?_⟩
  · have hlt := of_decide_eq_true hlt
    have step : ∀ z : Int, byteV ((bigB n x).take k) ++ [.int .u8 z] = byteV ((bigB n x).take (k + 1)) → ∀ w6, w6 = w5.alloc (.cells #[.int .u8 z] T_uint8) → ∃ w7 l8, (Builtin.append_ #[T_S_uint8, T_S_uint8] T_S_uint8 #[.slice l3.a l3.len l3.cap, .slice (some ⟨w5.heap.size, 0, none⟩) 1 1]).run Try.prog w6 = .ok (.slice l8.a l8.len l8.cap) w7 ∧
        ((∃ j : Nat, ((k + 1 : Nat) : Int) = (j : Int) ∧ j ≤ n ∧ Own w7 w.heap.size T_uint8 l8 (byteV ((bigB n x).take j)) ∧ Fr (fun _ => False) w w7) ∧ n - ((k + 1 : Nat) : Int).toNat < n - ((k : Int)).toNat) := fun z hz w6 h6 => by
      obtain ⟨w7, l8, hr, ho7, hf7, _⟩ := append_one' elByte ho (v := .int .u8 z) rfl (by rw [hln]; unfold maxLen; omega) (by rw [hln]; omega) hf.size h6
      rw [hz] at ho7
      exact ⟨w7, l8, hr, ⟨k + 1, rfl, by omega, ho7, hf.trans hf7 fun q hq ⟨y, hy, e⟩ => by have := (ho.blk hy).1; omega⟩, by omega⟩
    refine ⟨fun h8 => step 0 ?_, fun h8 => ?_⟩
    · have h8 := of_decide_eq_true h8
      rw [wrap_i64 (by omega) (by omega)] at h8
      rw [bigB_get (by omega), pow_big hx (by omega)]
      exact byteV_snoc _ 0 (by decide)
    · have h8 := of_decide_eq_false h8
      rw [wrap_i64 (by omega) (by omega)] at h8
      have e4 : IntKind.i64.wrap (8 * IntKind.i64.wrap (IntKind.i64.wrap ((n : Int) - 1) - (k : Int))) = ((8 * (n - 1 - k) : Nat) : Int) := by
        rw [wrap_i64 (x := (n : Int) - 1) (by omega) (by omega), wrap_i64 (x := (n : Int) - 1 - (k : Int)) (by omega) (by omega), wrap_i64 (by omega) (by omega)]; omega
      rw [e4, shift_byte, if_pos (by omega)]
      refine ⟨by omega, step _ ?_⟩
      rw [byteV_wrap _ _ (Int.natCast_nonneg _), Int.toNat_natCast, bigB_get (by omega)]
  · have hge := of_decide_eq_false hge
    have : k = n := by omega
    subst this
    rw [List.take_of_length_le (by rw [bigB_length]; omega)] at ho
    exact ⟨_, _, bytes_str (e := T_uint8) (by kernel_rfl) (by kernel_rfl) (by kernel_rfl) l3.cap ho.reads (by rw [ho.len]; simp [byteV]), rfl, hf⟩
theorem littleB_get {n x i : Nat} (h : i < n) : (littleB n x).take (i + 1) = (littleB n x).take i ++ [UInt8.ofNat (x / 256 ^ i)] := by
  rw [List.take_succ_eq_append_getElem (by rw [littleB_length]; exact h)]
  simp [littleB]
/-- 'Little'. -/
theorem littleS_spec (x n : Nat) (hx : x < 18446744073709551616) (hn : n ≤ 1000) (w : World) :
    Calls Try.prog F_sums_Little #[.int .u64 (x : Int), .int .i64 (n : Int)] w fun e w' => e = .returned (.string ⟨(littleB n x).toArray⟩) ∧ Fr (fun _ => False) w w' := by
  refine vc_sums_Little_ok (R := fun v w' => v = .string ⟨(littleB n x).toArray⟩ ∧ Fr (fun _ => False) w w') ?_ (fun v w' h => ⟨by rw [h.1], h.2⟩)
  have hlim : (if (0 : Int) > (n : Int) then 0 else (n : Int)) = (n : Int) := by rw [if_neg (by omega)]
  refine ⟨fun l i w' => ∃ k : Nat, i = (k : Int) ∧ k ≤ n ∧ Own w' w.heap.size T_uint8 l (byteV ((littleB n x).take k)) ∧ Fr (fun _ => False) w w', fun l i w' => n - i.toNat, ⟨0, rfl, Nat.zero_le _, .nil _ _ _, .refl _ _⟩, ?_⟩
  rintro l3 i w5 ⟨k, rfl, hk, ho, hf⟩
  rw [hlim]
  have e3 : IntKind.i64.wrap ((k : Int) + 1) = ((k + 1 : Nat) : Int) := by rw [wrap_i64 (by omega) (by omega)]; omega
  rw [e3]
  have hln : (byteV ((littleB n x).take k)).length = k := by simp [byteV, littleB_length]; omega
  refine ⟨fun hlt => ?_, fun hge => ?_⟩
  · have hlt := of_decide_eq_true hlt
    have step : ∀ z : Int, byteV ((littleB n x).take k) ++ [.int .u8 z] = byteV ((littleB n x).take (k + 1)) → ∀ w6, w6 = w5.alloc (.cells #[.int .u8 z] T_uint8) → ∃ w7 l8, (Builtin.append_ #[T_S_uint8, T_S_uint8] T_S_uint8 #[.slice l3.a l3.len l3.cap, .slice (some ⟨w5.heap.size, 0, none⟩) 1 1]).run Try.prog w6 = .ok (.slice l8.a l8.len l8.cap) w7 ∧
        ((∃ j : Nat, ((k + 1 : Nat) : Int) = (j : Int) ∧ j ≤ n ∧ Own w7 w.heap.size T_uint8 l8 (byteV ((littleB n x).take j)) ∧ Fr (fun _ => False) w w7) ∧ n - ((k + 1 : Nat) : Int).toNat < n - ((k : Int)).toNat) := fun z hz w6 h6 => by
      obtain ⟨w7, l8, hr, ho7, hf7, _⟩ := append_one' elByte ho (v := .int .u8 z) rfl (by rw [hln]; unfold maxLen; omega) (by rw [hln]; omega) hf.size h6
      rw [hz] at ho7
      exact ⟨w7, l8, hr, ⟨k + 1, rfl, by omega, ho7, hf.trans hf7 fun q hq ⟨y, hy, e⟩ => by have := (ho.blk hy).1; omega⟩, by omega⟩
    refine ⟨fun h8 => step 0 ?_, fun h8 => ?_⟩
    · have h8 := of_decide_eq_true h8
      rw [littleB_get (by omega), pow_big hx (by omega)]
      exact byteV_snoc _ 0 (by decide)
    · have h8 := of_decide_eq_false h8
      have e4 : IntKind.i64.wrap (8 * (k : Int)) = ((8 * k : Nat) : Int) := by rw [wrap_i64 (by omega) (by omega)]; omega
      rw [e4, shift_byte, if_pos (by omega)]
      refine ⟨by omega, step _ ?_⟩
      rw [byteV_wrap _ _ (Int.natCast_nonneg _), Int.toNat_natCast, littleB_get (by omega)]
  · have hge := of_decide_eq_false hge
    have : k = n := by omega
    subst this
    rw [List.take_of_length_le (by rw [littleB_length]; omega)] at ho
    exact ⟨_, _, bytes_str (e := T_uint8) (by kernel_rfl) (by kernel_rfl) (by kernel_rfl) l3.cap ho.reads (by rw [ho.len]; simp [byteV]), rfl, hf⟩
/-- Adler's sum as the program keeps it: the first number is one less than it is told. -/
def AdlC (w : World) (b : Nat) (l : List UInt8) : Prop := ∃ a : Nat, a < 65521 ∧ (a + 1) % 65521 = (adl l).1 ∧ w.heap[b]? = some (.cells #[.int .u32 (a : Int), .int .u32 ((adl l).2 : Int)] T_sums_Adler (0, 0))
theorem AdlC.drew {w w' : World} {b : Nat} {l : List UInt8} (h : AdlC w b l) (d : Drew w w') : AdlC w' b l := by
  obtain ⟨a, h1, h2, h3⟩ := h
  exact ⟨a, h1, h2, (Fr.drew (fun _ => False) d).keep h3 (by simp)⟩
theorem adlerW_spec {w : World} {b : Nat} {l : List UInt8} (h : AdlC w b l) (s : ByteArray) (hs : s.size ≤ 1099511627776) :
    Calls Try.prog F_sums_Adler_Write #[.pointer (some ⟨b, 0, none⟩), .string s] w fun e w' => e = .returned (.tuple #[]) ∧ AdlC w' b (l ++ s.data.toList) ∧ Fr (· = b) w w' := by
  refine vc_sums_Adler_Write_ok (R := fun v w' => v = .tuple #[] ∧ AdlC w' b (l ++ s.data.toList) ∧ Fr (· = b) w w') ?_ (fun v w' h => ⟨by rw [h.1], h.2⟩)
  refine ⟨fun i w' => ∃ n : Nat, i = (n : Int) ∧ n ≤ s.size ∧ AdlC w' b (l ++ s.data.toList.take n) ∧ Fr (· = b) w w', fun i w' => s.size - i.toNat, ⟨0, rfl, Nat.zero_le _, by simpa using h, .refl _ _⟩, ?_⟩
  rintro i w4 ⟨n, rfl, hn, hA, hf⟩
  refine ⟨fun hlt w5 d5 => ?_, fun hge => ?_⟩
  · have hlt := of_decide_eq_true hlt
    have hb := byt_lt s n
    obtain ⟨a, ha, h1, h2⟩ := hA.drew d5
    have hlt2 := adl_lt (l ++ s.data.toList.take n)
    have hsn := adl_snoc (l ++ s.data.toList.take n) (UInt8.ofNat (byt s n))
    rw [List.append_assoc, ← take_byt s (by omega)] at hsn
    simp only [adl1, toNat_byt] at hsn
    generalize adl (l ++ s.data.toList.take n) = x at h1 h2 hlt2 hsn
    have e1 : Int.tmod (IntKind.u32.wrap ((a : Int) + IntKind.u32.wrap (byteAt s (n : Int)))) 65521 = (((a + byt s n) % 65521 : Nat) : Int) := by
      rw [byteAt_nat, wrap_u32 (x := ((byt s n : Nat) : Int)) (by omega) (by omega), wrap_u32 (by omega) (by omega), Int.tmod_eq_emod_of_nonneg (by omega)]; omega
    refine ⟨_, by rw [cell_blk h2]; rfl, ⟨by omega, by omega⟩, by decide, wr_blk h2 (by simp), fun w7 h7 w8 d8 => ?_⟩
    rw [e1] at h7
    have hf7 : Fr (· = b) w5 w7 := h7 ▸ Fr.set (· = b) _ (a := ⟨b, 0, none⟩) (.int .u32 (((a + byt s n) % 65521 : Nat) : Int)) rfl
    have hb7 := set_blk h2 0 (.int .u32 (((a + byt s n) % 65521 : Nat) : Int))
    rw [← h7] at hb7
    have hb8 := (Fr.drew (fun _ => False) d8).keep hb7 (by simp)
    have hr : (a + byt s n) % 65521 < 65521 := Nat.mod_lt _ (by decide)
    have hr1 : ((a + byt s n) % 65521 + 1) % 65521 = (x.1 + byt s n) % 65521 := by omega
    generalize (a + byt s n) % 65521 = a2 at hb8 hr hr1
    have e2 : Int.tmod (IntKind.u32.wrap (IntKind.u32.wrap ((x.2 : Int) + (a2 : Int)) + 1)) 65521 = (((x.2 + a2 + 1) % 65521 : Nat) : Int) := by
      rw [wrap_u32 (x := (x.2 : Int) + (a2 : Int)) (by omega) (by omega), wrap_u32 (by omega) (by omega), Int.tmod_eq_emod_of_nonneg (by omega)]; omega
    refine ⟨_, by rw [cell_blk hb8]; rfl, _, by rw [cell_blk hb8]; rfl, by decide, wr_blk hb8 (by simp), fun w11 h11 => ?_⟩
    rw [e2] at h11
    have hf11 : Fr (· = b) w8 w11 := h11 ▸ Fr.set (· = b) _ (a := ⟨b, 1, none⟩) (.int .u32 (((x.2 + a2 + 1) % 65521 : Nat) : Int)) rfl
    have hb11 := set_blk hb8 1 (.int .u32 (((x.2 + a2 + 1) % 65521 : Nat) : Int))
    rw [← h11] at hb11
    have e3 : IntKind.i64.wrap ((n : Int) + 1) = ((n + 1 : Nat) : Int) := by rw [wrap_i64 (by omega) (by omega)]; omega
    rw [e3]
    refine ⟨⟨n + 1, rfl, by omega, ⟨a2, hr, by rw [hsn]; exact hr1, ?_⟩, (((hf.trans' (.drew _ d5)).trans' hf7).trans' (.drew _ d8)).trans' hf11⟩, by dsimp only; omega⟩
    rw [hsn, hb11]
    dsimp only
    rw [show (x.2 + (x.1 + byt s n) % 65521) % 65521 = (x.2 + a2 + 1) % 65521 by omega]
    rfl
  · have hge := of_decide_eq_false hge
    have : n = s.size := by omega
    subst this
    rw [take_size] at hA
    exact ⟨rfl, hA, hf⟩
theorem adlerS_spec {w : World} {b : Nat} {l : List UInt8} (h : AdlC w b l) :
    Calls Try.prog F_sums_Adler_Sum #[.pointer (some ⟨b, 0, none⟩)] w fun e w' => e = .returned (.int .u32 ((adler l : Nat) : Int)) ∧ Drew w w' := by
  refine vc_sums_Adler_Sum_ok (R := fun v w' => v = .int .u32 ((adler l : Nat) : Int) ∧ Drew w w') ?_ (fun v w' h => ⟨by rw [h.1], h.2⟩)
  obtain ⟨a, ha, h1, h2⟩ := h
  have hlt := adl_lt l
  refine ⟨_, by rw [cell_blk h2]; rfl, by decide, _, by rw [cell_blk h2]; rfl, by decide, fun w3 d3 => ⟨?_, d3⟩⟩
  have e1 : Int.tmod (IntKind.u32.wrap ((a : Int) + 1)) 65521 = (((adl l).1 : Nat) : Int) := by
    rw [wrap_u32 (by omega) (by omega), Int.tmod_eq_emod_of_nonneg (by omega)]; omega
  have e2 : (((adl l).2 : Nat) : Int) * 2 ^ min (Int.toNat 16) 32 = ((2 ^ 16 * (adl l).2 : Nat) : Int) := by
    rw [show (2 : Int) ^ min (Int.toNat 16) 32 = ((2 ^ 16 : Nat) : Int) from rfl, ← Int.natCast_mul, Nat.mul_comm]
  have hor : 2 ^ 16 * (adl l).2 ||| (adl l).1 = 2 ^ 16 * (adl l).2 + (adl l).1 := (Nat.two_pow_add_eq_or_of_lt (by omega) _).symm
  rw [e1, e2, wrap_u32 (x := ((2 ^ 16 * (adl l).2 : Nat) : Int)) (by omega) (by omega), or_nat 32 _ _ (by omega) (by omega), hor, wrap_u32 (by omega) (by omega)]
  rfl
/-- 'Adler32'. -/
theorem adler_spec (s : ByteArray) (hs : s.size ≤ 1099511627776) (w : World) :
    Calls Try.prog F_sums_Adler32 #[.string s] w fun e w' => e = .returned (.int .u32 ((adler s.data.toList : Nat) : Int)) ∧ Fr (fun _ => False) w w' := by
  refine vc_sums_Adler32_ok (R := fun v w' => v = .int .u32 ((adler s.data.toList : Nat) : Int) ∧ Fr (fun _ => False) w w') ?_ (fun v w' h => ⟨by rw [h.1], h.2⟩)
  intro w1 h1
  have hf1 : Fr (fun _ => False) w w1 := h1 ▸ Fr.alloc _ _ _
  have hA : AdlC w1 w.heap.size [] := ⟨0, by decide, rfl, by rw [h1]; exact alloc_new _ _⟩
  refine (adlerW_spec hA s hs).mono ?_
  rintro e w3 ⟨rfl, h3, hf3⟩
  refine ⟨rfl, (adlerS_spec h3).mono ?_⟩
  rintro e w5 ⟨rfl, d5⟩
  exact ⟨_, rfl, rfl, (hf1.trans hf3 (fun k hk h => by omega)).trans' (.drew _ d5)⟩
/-- The reference's 'Adler32'. -/
theorem radler_spec (s : ByteArray) (hs : s.size ≤ 1099511627776) (w : World) :
    Calls Try.prog F_cartularyref01_Adler32 #[.string s] w fun e w' => e = .returned (.int .u32 ((adler s.data.toList : Nat) : Int)) ∧ w' = w := by
  refine vc_cartularyref01_Adler32_ok (R := fun v w' => v = .int .u32 ((adler s.data.toList : Nat) : Int) ∧ w' = w) ?_ (fun v w' h => ⟨by rw [h.1], h.2⟩)
  refine ⟨fun a b i w' => ∃ n : Nat, i = (n : Int) ∧ n ≤ s.size ∧ a = ((adl (s.data.toList.take n)).1 : Int) ∧ b = ((adl (s.data.toList.take n)).2 : Int) ∧ w' = w, fun _ _ i _ => s.size - i.toNat, ⟨0, rfl, Nat.zero_le _, rfl, rfl, rfl⟩, ?_⟩
  rintro a b i w6 ⟨n, rfl, hn, rfl, rfl, hw⟩
  replace hw := hw.symm
  subst hw
  have hlt2 := adl_lt (s.data.toList.take n)
  refine ⟨fun hlt => ?_, fun hge => ?_⟩
  · have hlt := of_decide_eq_true hlt
    have hb := byt_lt s n
    have hsn := adl_snoc (s.data.toList.take n) (UInt8.ofNat (byt s n))
    rw [← take_byt s (by omega)] at hsn
    simp only [adl1, toNat_byt] at hsn
    generalize adl (s.data.toList.take n) = x at hlt2 hsn ⊢
    have e1 : Int.tmod (IntKind.i64.wrap ((x.1 : Int) + IntKind.i64.wrap (byteAt s (n : Int)))) 65521 = (((x.1 + byt s n) % 65521 : Nat) : Int) := by
      rw [byteAt_nat, wrap_i64 (x := ((byt s n : Nat) : Int)) (by omega) (by omega), wrap_i64 (by omega) (by omega), Int.tmod_eq_emod_of_nonneg (by omega)]; omega
    have hr : (x.1 + byt s n) % 65521 < 65521 := Nat.mod_lt _ (by decide)
    have e2 : Int.tmod (IntKind.i64.wrap ((x.2 : Int) + (((x.1 + byt s n) % 65521 : Nat) : Int))) 65521 = (((x.2 + (x.1 + byt s n) % 65521) % 65521 : Nat) : Int) := by
      generalize (x.1 + byt s n) % 65521 = y at hr
      rw [wrap_i64 (by omega) (by omega), Int.tmod_eq_emod_of_nonneg (by omega)]; omega
    have e3 : IntKind.i64.wrap ((n : Int) + 1) = ((n + 1 : Nat) : Int) := by rw [wrap_i64 (by omega) (by omega)]; omega
    rw [e1, e2, e3]
    exact ⟨⟨by omega, by omega⟩, by decide, by decide, ⟨n + 1, rfl, by omega, by rw [hsn], by rw [hsn], rfl⟩, by dsimp only; omega⟩
  · have hge := of_decide_eq_false hge
    have : n = s.size := by omega
    subst this
    rw [take_size] at hlt2 ⊢
    refine ⟨?_, rfl⟩
    have hv : adler s.data.toList = 65536 * (adl s.data.toList).2 + (adl s.data.toList).1 := rfl
    rw [hv]
    generalize adl s.data.toList = x at hlt2 ⊢
    rw [wrap_i64 (x := 65536 * _) (by omega) (by omega), wrap_i64 (by omega) (by omega), wrap_u32 (by omega) (by omega)]
    congr 1
/-- The reference's 'Little'. -/
theorem rlittle_spec (x n : Nat) (hx : x < 18446744073709551616) (hn : n ≤ 1000) (w : World) :
    Calls Try.prog F_cartularyref01_Little #[.int .u64 (x : Int), .int .i64 (n : Int)] w fun e w' => e = .returned (.string ⟨(littleB n x).toArray⟩) ∧ Fr (fun _ => False) w w' := by
  refine vc_cartularyref01_Little_ok (R := fun v w' => v = .string ⟨(littleB n x).toArray⟩ ∧ Fr (fun _ => False) w w') ?_ (fun v w' h => ⟨by rw [h.1], h.2⟩)
  intro w1 h1
  have hf1 : Fr (fun _ => False) w w1 := h1 ▸ Fr.alloc _ _ _
  have ho1 : Own w1 w.heap.size T_uint8 ⟨some ⟨w.heap.size, 0, none⟩, 0, 0⟩ (byteV []) := h1 ▸ own_empty w T_uint8
  refine ⟨fun y l i w' => ∃ k : Nat, i = (k : Int) ∧ k ≤ n ∧ y = ((x / 256 ^ k : Nat) : Int) ∧ Own w' w.heap.size T_uint8 l (byteV (littleB k x)) ∧ Fr (fun _ => False) w w', fun _ _ i _ => n - i.toNat, ⟨0, rfl, Nat.zero_le _, by simp, ho1, hf1⟩, ?_⟩
  rintro y l i w7 ⟨k, rfl, hk, rfl, ho, hf⟩
  have e3 : IntKind.i64.wrap ((k : Int) + 1) = ((k + 1 : Nat) : Int) := by rw [wrap_i64 (by omega) (by omega)]; omega
  rw [e3]
  refine ⟨fun hlt => ⟨by decide, fun w8 h8 => ?_⟩, fun hge => ?_⟩
  · have hlt := of_decide_eq_true hlt
    have hx2 : x / 256 ^ k ≤ x := Nat.div_le_self _ _
    have hsu := littleB_succ k x
    have hdd : x / 256 ^ (k + 1) = x / 256 ^ k / 256 := by rw [Nat.pow_succ, Nat.div_div_eq_div_mul]
    generalize x / 256 ^ k = z at h8 hx2 hsu hdd ⊢
    have e1 : IntKind.u8.wrap (Int.tmod (z : Int) 256) = ((z % 256 : Nat) : Int) := by rw [Int.tmod_eq_emod_of_nonneg (by omega), wrap_u8 (by omega) (by omega)]; omega
    have e2 : IntKind.u64.wrap (Int.tdiv (z : Int) 256) = ((z / 256 : Nat) : Int) := by rw [Int.tdiv_eq_ediv_of_nonneg (by omega), wrap_u64 (by omega) (by omega)]; omega
    rw [e1] at h8
    have hln : (byteV (littleB k x)).length = k := by simp [byteV, littleB_length]
    obtain ⟨w9, l10, hr, ho9, hf9, _⟩ := append_one' elByte ho (v := .int .u8 ((z % 256 : Nat) : Int)) rfl (by rw [hln]; unfold maxLen; omega) (by rw [hln]; omega) hf.size h8
    rw [byteV_snoc _ _ (Nat.mod_lt _ (by decide)), ofNat_eq (Nat.mod_mod _ _), ← hsu] at ho9
    rw [e2]
    exact ⟨w9, l10, hr, by decide, ⟨k + 1, rfl, by omega, by rw [hdd], ho9, hf.trans hf9 fun q hq ⟨y, hy, e⟩ => by have := (ho.blk hy).1; omega⟩, by dsimp only; omega⟩
  · have hge := of_decide_eq_false hge
    have : k = n := by omega
    subst this
    exact ⟨_, _, bytes_str (e := T_uint8) (by kernel_rfl) (by kernel_rfl) (by kernel_rfl) l.cap ho.reads (by rw [ho.len]; simp [byteV]), rfl, hf⟩
/-- The reference's 'Turn'. -/
theorem rturn_spec (s : ByteArray) (hs : s.size ≤ 1000) (w : World) :
    Calls Try.prog F_cartularyref01_Turn #[.string s] w fun e w' => e = .returned (.string ⟨s.data.toList.reverse.toArray⟩) ∧ Fr (fun _ => False) w w' := by
  refine vc_cartularyref01_Turn_ok (R := fun v w' => v = .string ⟨s.data.toList.reverse.toArray⟩ ∧ Fr (fun _ => False) w w') ?_ (fun v w' h => ⟨by rw [h.1], h.2⟩)
  intro w1 h1
  have hf1 : Fr (fun _ => False) w w1 := h1 ▸ Fr.alloc _ _ _
  have ho1 : Own w1 w.heap.size T_uint8 ⟨some ⟨w.heap.size, 0, none⟩, 0, 0⟩ (byteV []) := h1 ▸ own_empty w T_uint8
  have hsl : s.data.toList.length = s.size := by simp
  refine ⟨fun l i w' => ∃ k : Nat, i = (k : Int) - 1 ∧ k ≤ s.size ∧ Own w' w.heap.size T_uint8 l (byteV (s.data.toList.drop k).reverse) ∧ Fr (fun _ => False) w w', fun _ i _ => (i + 1).toNat, ⟨s.size, by rw [wrap_i64 (by omega) (by omega)], Nat.le_refl _, by rw [List.drop_of_length_le (by omega)]; exact ho1, hf1⟩, ?_⟩
  rintro l i w6 ⟨k, rfl, hk, ho, hf⟩
  refine ⟨fun hlt => ?_, fun hge => ?_⟩
  · have hlt := of_decide_eq_true hlt
    obtain ⟨j, rfl⟩ : ∃ j, k = j + 1 := ⟨k - 1, by omega⟩
    have e1 : ((j + 1 : Nat) : Int) - 1 = (j : Int) := by omega
    rw [e1, byteAt_nat]
    have hb := byt_lt s j
    refine ⟨⟨by omega, by omega⟩, fun w7 h7 => ?_⟩
    have hln : (byteV (s.data.toList.drop (j + 1)).reverse).length = s.size - (j + 1) := by simp [byteV]
    obtain ⟨w8, l9, hr, ho8, hf8, _⟩ := append_one' elByte ho (v := .int .u8 ((byt s j : Nat) : Int)) rfl (by rw [hln]; unfold maxLen; omega) (by rw [hln]; omega) hf.size h7
    have hjl : j < s.data.toList.length := by omega
    have hbj : byt s j = (s.data.toList[j]).toNat := by unfold byt; rw [List.getElem?_eq_getElem hjl]; rfl
    rw [byteV_snoc _ _ hb, show (s.data.toList.drop (j + 1)).reverse ++ [UInt8.ofNat (byt s j)] = (s.data.toList.drop j).reverse by
      rw [List.drop_eq_getElem_cons hjl, List.reverse_cons, hbj, UInt8.ofNat_toNat]] at ho8
    refine ⟨w8, l9, hr, ⟨j, ?_, by omega, ho8, hf.trans hf8 fun q hq ⟨y, hy, e⟩ => by have := (ho.blk hy).1; omega⟩, ?_⟩
    · rw [wrap_i64 (by omega) (by omega)]
    · dsimp only; rw [wrap_i64 (by omega) (by omega)]; omega
  · have hge := of_decide_eq_false hge
    have : k = 0 := by omega
    subst this
    exact ⟨_, _, bytes_str (e := T_uint8) (by kernel_rfl) (by kernel_rfl) (by kernel_rfl) l.cap ho.reads (by rw [ho.len]; simp [byteV]), rfl, hf⟩
/-- The reference's 'Big'. -/
theorem rbig_spec (x n : Nat) (hx : x < 18446744073709551616) (hn : n ≤ 1000) (w : World) :
    Calls Try.prog F_cartularyref01_Big #[.int .u64 (x : Int), .int .i64 (n : Int)] w fun e w' => e = .returned (.string ⟨(bigB n x).toArray⟩) ∧ Fr (fun _ => False) w w' := by
  refine vc_cartularyref01_Big_ok (R := fun v w' => v = .string ⟨(bigB n x).toArray⟩ ∧ Fr (fun _ => False) w w') ?_ (fun v w' h => ⟨by rw [h.1], h.2⟩)
  refine (rlittle_spec x n hx hn w).mono ?_
  rintro e w2 ⟨rfl, hf2⟩
  refine ⟨_, rfl, (rturn_spec _ (by simp [ByteArray.size, littleB_length]; omega) w2).mono ?_⟩
  rintro e w5 ⟨rfl, hf5⟩
  exact ⟨_, rfl, by rw [← big_little], hf2.trans' hf5⟩
end Go.Proofs.Ytofejgaanpaieaa

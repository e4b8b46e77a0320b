/- Texts of this seat in one: made by a program of ours. -/
import Derived.Test.YtoagdpjickippaaPackidxBuildsQ0
import Derived.Test.YtoagdpjickippaaProg
import Derived.Shelf.Small.Strs
import Derived.Sort.Walk0
import Derived.Laws.CopyRow
/- The shapes of the types of this seat, a row a type. No condition. -/
namespace Go.Proofs.Ytoagdpjickippaa
open Vc
def tyL : List Sh := [
  .tup [],
  .one (.any),
  .one (.int .i64),
  .one (.int .i64),
  .one (.bool),
  .one (.int .u8),
  .one (.int .u8),
  .agg [.int .i64, .int .i64, .bool, .int .u8],
  .agg [.int .i64, .int .i64, .bool, .int .u8],
  .one (.str),
  .one (.str),
  .one (.str),
  .one (.int .u64),
  .agg [.str, .int .u64],
  .agg [.str, .int .u64],
  .one (.ptr),
  .one (.ptr),
  .one (.ptr),
  .agg [.ptr],
  .agg [.ptr],
  .one (.any),
  .one (.int .i32),
  .one (.slice),
  .one (.int .i64),
  .tup [(.one (.str)), (.one (.int .i64))],
  .one (.any),
  .one (.any),
  .one (.ptr),
  .tup [(.one (.ptr)), (.one (.int .i64))],
  .one (.any),
  .one (.int .u32),
  .agg [.str, .int .i64, .int .u32],
  .agg [.str, .int .i64, .int .u32],
  .tup [(.agg [.str, .int .i64, .int .u32]), (.one (.int .i64))],
  .one (.any),
  .one (.slice),
  .one (.any),
  .one (.any),
  .one (.any),
  .one (.slice),
  .tup [(.one (.slice)), (.one (.str)), (.one (.int .i64))],
  .one (.any),
  .one (.any),
  .one (.any),
  .agg [.str, .int .i64, .int .u32],
  .one (.any),
  .one (.any),
  .one (.any),
  .one (.any),
  .one (.any),
  .one (.any),
  .one (.any),
  .one (.any),
  .one (.any),
  .tup [(.one (.str)), (.one (.bool))],
  .one (.any),
  .one .any,
  .one (.any),
  .one (.int .u64),
  .one (.any),
  .one (.any),
  .one .any,
  .one .any,
  .one .any,
  .one (.any),
  .tup [(.one (.int .i64)), (.one (.bool))],
  .one (.any),
  .one (.any),
  .one (.slice),
  .one (.slice),
  .one (.any),
  .one (.any),
  .one (.any),
  .one (.any),
  .one (.any),
  .one (.int .u64),
  .one (.any),
  .one (.slice),
  .agg [.slice, .str, .int .u64],
  .agg [.slice, .str, .int .u64],
  .agg [.slice, .str, .int .u64],
  .agg [.slice, .str, .int .u64],
  .one (.any),
  .one (.any),
  .one (.any),
  .one (.any),
  .one (.any),
  .one (.any),
  .one (.int .i64),
  .tup [(.one (.int .i64)), (.one (.int .i64))],
  .one (.any),
  .one (.any),
  .one (.any),
  .one (.any),
  .one (.any),
  .one (.any),
  .one (.ptr),
  .one (.any),
  .one (.any),
  .one (.any),
  .one (.any),
  .one (.int .u64),
  .one (.any),
  .one (.any),
  .one (.any),
  .one (.ptr),
  .one (.any),
  .one (.ptr),
  .one (.any),
  .one .any,
  .one (.any),
  .one (.ptr),
  .tup [(.one (.int .i64)), (.one (.int .i64))],
  .one (.any),
  .agg [.ptr, .ptr, .ptr, .str],
  .agg [.ptr, .ptr, .ptr, .str],
  .agg [],
  .agg [],
  .agg [],
  .one (.int .u8),
  .one (.int .u8),
  .one (.any),
  .one (.ptr),
  .one (.int .i32),
  .one (.int .i32),
  .agg [.int .u64, .int .u64, .int .u32, .int .u8, .int .u8, .int .u8, .int .u8, .any, .ptr, .int .i32, .int .i32],
  .agg [.int .u64, .int .u64, .int .u32, .int .u8, .int .u8, .int .u8, .int .u8, .any, .ptr, .int .i32, .int .i32],
  .one (.any)]
def nth : List Sh → Nat → Sh
  | [], _ => .one .any
  | s :: _, 0 => s
  | _ :: r, n + 1 => nth r n
def ty (n : Nat) : Sh := nth tyL n
abbrev F_main_main : Nat := 0
abbrev F_gosem_cut : Nat := 1
abbrev F_gosem_cut_init : Nat := 2
abbrev F_cartularylaw12_PackidxFinds : Nat := 3
abbrev F_cartularylaw12_PackidxReads : Nat := 4
abbrev F_cartularylaw12_PackidxBuilds : Nat := 5
abbrev F_packidx_Build : Nat := 6
abbrev F_cartularylaw12_awake : Nat := 7
abbrev F_packidx_Parse : Nat := 8
abbrev F_packidx_Idx_Find : Nat := 9
abbrev F_packidx_Idx_Match : Nat := 10
abbrev F_cartularylaw01_Few : Nat := 11
abbrev F_cartularyref12_Parse : Nat := 12
abbrev F_cartularylaw12_is : Nat := 13
abbrev F_cartularyref12_Check : Nat := 14
abbrev F_cartularyref12_Text : Nat := 15
abbrev F_cartularyref12_Sorted : Nat := 16
abbrev F_slices_Clone : Nat := 17
abbrev F_slices_SortFunc : Nat := 18
abbrev F_packidx_Build_1 : Nat := 19
abbrev F_strings_Compare : Nat := 20
abbrev F_sums_Id : Nat := 21
abbrev F_sums_Unhex : Nat := 22
abbrev F_sums_Big : Nat := 23
abbrev F_sha_Sum1 : Nat := 24
abbrev F_packidx_Idx_Len : Nat := 25
abbrev F_sums_FromBig : Nat := 26
abbrev F_sums_Hex : Nat := 27
abbrev F_slices_BinarySearchFunc : Nat := 28
abbrev F_packidx_Idx_Find_1 : Nat := 29
abbrev F_packidx_Idx_Match_1 : Nat := 30
abbrev F_strings_HasPrefix : Nat := 31
abbrev F_cartularyref01_Number : Nat := 32
abbrev F_cartularyref01_Hex : Nat := 33
abbrev F_cartularyref02_Sum1 : Nat := 34
abbrev F_packidx_Idx_Sum : Nat := 35
abbrev F_packidx_Idx_At : Nat := 36
abbrev F_cartularyref07_Begins : Nat := 37
abbrev F_cartularyref07_Same : Nat := 38
abbrev F_cartularyref09_Id : Nat := 39
abbrev F_cartularyref01_Unhex : Nat := 40
abbrev F_cartularyref01_Big : Nat := 41
abbrev F_slices_pdqsortCmpFunc : Nat := 42
abbrev F_bits_Len : Nat := 43
abbrev F_bytealg_CompareString : Nat := 44
abbrev F_sums_digit : Nat := 45
abbrev F_sha_Hash1_Write : Nat := 46
abbrev F_sha_Hash1_Sum : Nat := 47
abbrev F_stringslite_HasPrefix : Nat := 48
abbrev F_cartularyref02_Pad : Nat := 49
abbrev F_cartularyref02_words : Nat := 50
abbrev F_cartularyref02_turn : Nat := 51
abbrev F_cartularyref02_out : Nat := 52
abbrev F_cartularyref01_Hexed : Nat := 53
abbrev F_cartularyref01_Turn : Nat := 54
abbrev F_cartularyref01_Little : Nat := 55
abbrev F_slices_insertionSortCmpFunc : Nat := 56
abbrev F_slices_heapSortCmpFunc : Nat := 57
abbrev F_slices_breakPatternsCmpFunc : Nat := 58
abbrev F_slices_choosePivotCmpFunc : Nat := 59
abbrev F_slices_reverseRangeCmpFunc : Nat := 60
abbrev F_slices_partialInsertionSortCmpFunc : Nat := 61
abbrev F_slices_partitionEqualCmpFunc : Nat := 62
abbrev F_slices_partitionCmpFunc : Nat := 63
abbrev F_bits_Len32 : Nat := 64
abbrev F_bits_Len64 : Nat := 65
abbrev F_bytealg_abigen_runtime_cmpstring : Nat := 66
abbrev F_sha_hash_write : Nat := 67
abbrev F_sha_start1 : Nat := 68
abbrev F_sha_block1 : Nat := 69
abbrev F_sha_hash_sum : Nat := 70
abbrev F_slices_siftDownCmpFunc : Nat := 71
abbrev F_slices_nextPowerOfTwo : Nat := 72
abbrev F_slices_xorshift_Next : Nat := 73
abbrev F_slices_medianAdjacentCmpFunc : Nat := 74
abbrev F_slices_medianCmpFunc : Nat := 75
abbrev F_sha_word : Nat := 76
abbrev F_bits_RotateLeft32 : Nat := 77
abbrev F_slices_order2CmpFunc : Nat := 78
abbrev F_runtime_boundsError_Error : Nat := 79
abbrev F_runtime_boundsError_RuntimeError : Nat := 80
abbrev F_runtime_errorString_Error : Nat := 81
abbrev F_runtime_errorString_RuntimeError : Nat := 82
abbrev F_runtime_plainError_Error : Nat := 83
abbrev F_runtime_plainError_RuntimeError : Nat := 84
abbrev F_runtime_errorAddressString_Error : Nat := 85
abbrev F_runtime_errorAddressString_RuntimeError : Nat := 86
abbrev F_runtime_TypeAssertionError_Error : Nat := 87
abbrev F_runtime_TypeAssertionError_RuntimeError : Nat := 88
abbrev F_runtime_PanicNilError_Error : Nat := 89
abbrev F_runtime_PanicNilError_RuntimeError : Nat := 90
abbrev F_abi_Type_Align : Nat := 91
abbrev F_maps_unhashableTypeError_Error : Nat := 92
abbrev F_maps_unhashableTypeError_RuntimeError : Nat := 93
abbrev F_abi_Kind_String : Nat := 94
abbrev T_int64 : Nat := 2
abbrev T_int : Nat := 3
abbrev T_bool : Nat := 4
abbrev T_uint8 : Nat := 5
abbrev T_abi_BoundsErrorCode : Nat := 6
abbrev T_runtime_boundsError : Nat := 8
abbrev T_string : Nat := 9
abbrev T_runtime_errorString : Nat := 10
abbrev T_runtime_plainError : Nat := 11
abbrev T_uintptr : Nat := 12
abbrev T_runtime_errorAddressString : Nat := 14
abbrev T_P_runtime_TypeAssertionError : Nat := 15
abbrev T_P_runtime_PanicNilError : Nat := 16
abbrev T_P_abi_Type : Nat := 17
abbrev T_maps_unhashableTypeError : Nat := 19
abbrev T_int32 : Nat := 21
abbrev T_S_packidx_Row : Nat := 22
abbrev T_api_Errno : Nat := 23
abbrev T_P_packidx_Idx : Nat := 27
abbrev T_uint32 : Nat := 30
abbrev T_packidx_Row : Nat := 32
abbrev T_S_string : Nat := 35
abbrev T_S_cartularyref12_Row : Nat := 39
abbrev T_cartularyref12_Row : Nat := 44
abbrev T_256_int : Nat := 56
abbrev T_uint64 : Nat := 58
abbrev T_257_int : Nat := 61
abbrev T_packidx_Idx : Nat := 63
abbrev T_S_uint8 : Nat := 68
abbrev T_S_uint64 : Nat := 69
abbrev T_uint : Nat := 75
abbrev T_S_uint32 : Nat := 77
abbrev T_sha_hash : Nat := 79
abbrev T_sha_Hash1 : Nat := 81
abbrev T_slices_sortedHint : Nat := 88
abbrev T_P_sha_Hash1 : Nat := 96
abbrev T_slices_xorshift : Nat := 101
abbrev T_P_int : Nat := 105
abbrev T_P_sha_hash : Nat := 107
abbrev T_sha_block : Nat := 108
abbrev T_80_uint32 : Nat := 109
abbrev T_P_slices_xorshift : Nat := 111
abbrev T_runtime_TypeAssertionError : Nat := 115
abbrev T_0_P_runtime_PanicNilError : Nat := 116
abbrev T_runtime_PanicNilError : Nat := 118
abbrev T_abi_TFlag : Nat := 119
abbrev T_abi_Kind : Nat := 120
abbrev T_P_uint8 : Nat := 122
abbrev T_abi_NameOff : Nat := 123
abbrev T_abi_TypeOff : Nat := 124
abbrev T_abi_Type : Nat := 126
abbrev G_bytealg_MaxLen : Nat := 0
end Go.Proofs.Ytoagdpjickippaa

/- Slices of bytes of this seat. No condition. -/
set_option linter.unusedVariables false
namespace Go.Proofs.Ytoagdpjickippaa
open Go Vc Go.Proofs

theorem elByte : El Try.prog T_S_uint8 T_uint8 (.int .u8 0) 1 := ⟨by kernel_rfl, by kernel_rfl, rfl⟩
theorem elByteH : El Try.prog T_S_uint8 T_uint8 (.int .u8 0) 1 := elByte
theorem own_empty (w : World) (e : TypeId) : Own (w.alloc (.cells #[] e)) w.heap.size e ⟨some ⟨w.heap.size, 0, none⟩, 0, 0⟩ [] :=
  ⟨rfl, .inr ⟨w.heap.size, #[], rfl, Nat.le_refl _, alloc_new _ _, Nat.le_refl _, Nat.zero_le _, rfl, rfl⟩⟩
theorem byteV_one (l : List UInt8) : ∀ u ∈ byteV l, u.oneCell' = true := fun u h => by
  obtain ⟨b, _, rfl⟩ := List.mem_map.1 h; rfl
end Go.Proofs.Ytoagdpjickippaa

/- Numbers as bytes, Adler's sum: in plain. No condition. -/
set_option linter.unusedVariables false
namespace SumM
/-- One byte more. -/
def adl1 (x : Nat × Nat) (c : UInt8) : Nat × Nat := ((x.1 + c.toNat) % 65521, (x.2 + (x.1 + c.toNat) % 65521) % 65521)
def adl (l : List UInt8) : Nat × Nat := l.foldl adl1 (1, 0)
/-- Adler's sum. -/
def adler (l : List UInt8) : Nat := 65536 * (adl l).2 + (adl l).1
theorem adl_snoc (l : List UInt8) (c : UInt8) : adl (l ++ [c]) = adl1 (adl l) c := by
  unfold adl; rw [List.foldl_append]; rfl
theorem adl_lt (l : List UInt8) : (adl l).1 < 65521 ∧ (adl l).2 < 65521 := by
  rcases List.eq_nil_or_concat l with rfl | ⟨r, c, rfl⟩
  · decide
  · rw [List.concat_eq_append, adl_snoc]
    exact ⟨Nat.mod_lt _ (by decide), Nat.mod_lt _ (by decide)⟩
theorem adler_lt (l : List UInt8) : adler l < 4294967296 := by
  have := adl_lt l
  unfold adler; omega
/-- The highest first, of n bytes. -/
def bigB (n x : Nat) : List UInt8 := (List.range n).map fun i => UInt8.ofNat (x / 256 ^ (n - 1 - i))
/-- The lowest first. -/
def littleB (n x : Nat) : List UInt8 := (List.range n).map fun i => UInt8.ofNat (x / 256 ^ i)
theorem bigB_length (n x : Nat) : (bigB n x).length = n := by simp [bigB]
theorem littleB_length (n x : Nat) : (littleB n x).length = n := by simp [littleB]
theorem littleB_succ (n x : Nat) : littleB (n + 1) x = littleB n x ++ [UInt8.ofNat (x / 256 ^ n)] := by
  unfold littleB; rw [List.range_succ, List.map_append]; rfl
theorem big_little (n x : Nat) : (littleB n x).reverse = bigB n x := by
  refine List.ext_getElem (by simp [bigB, littleB]) fun k h1 h2 => ?_
  rw [bigB_length] at h2
  simp only [List.getElem_reverse, littleB, bigB, List.getElem_map, List.getElem_range, List.length_map, List.length_range]
/-- The number of bytes, the highest first. -/
def num8 (l : List UInt8) : Nat := l.foldl (fun x c => 256 * x + c.toNat) 0
theorem num8_snoc (l : List UInt8) (c : UInt8) : num8 (l ++ [c]) = 256 * num8 l + c.toNat := by
  unfold num8; rw [List.foldl_append]; rfl
theorem num8_lt : ∀ (n : Nat) (l : List UInt8), l.length = n → num8 l < 256 ^ n
  | 0, l, h => by
    have : l = [] := List.length_eq_zero_iff.1 h
    subst this; decide
  | n + 1, l, h => by
    rcases List.eq_nil_or_concat l with rfl | ⟨r, c, rfl⟩
    · cases h
    · rw [List.concat_eq_append] at h ⊢
      rw [List.length_append, List.length_singleton] at h
      have h1 := num8_lt n r (by omega)
      have h2 := c.toNat_lt
      rw [num8_snoc, Nat.pow_succ]
      omega
theorem ofNat_eq {x y : Nat} (h : x % 256 = y % 256) : UInt8.ofNat x = UInt8.ofNat y := by
  rw [← UInt8.toNat_inj]; simpa using h
theorem bigB_succ (n x : Nat) : bigB (n + 1) x = bigB n (x / 256) ++ [UInt8.ofNat x] := by
  unfold bigB
  rw [List.range_succ, List.map_append]
  congr 1
  · refine List.map_congr_left fun i hi => ?_
    have hi := List.mem_range.1 hi
    rw [Nat.div_div_eq_div_mul, show n + 1 - 1 - i = (n - 1 - i) + 1 by omega, Nat.pow_succ, Nat.mul_comm]
  · simp
/-- A number of so many bytes says these bytes. -/
theorem bigB_num8 : ∀ (n : Nat) (l : List UInt8), l.length = n → bigB n (num8 l) = l
  | 0, l, h => by
    have : l = [] := List.length_eq_zero_iff.1 h
    subst this; rfl
  | n + 1, l, h => by
    rcases List.eq_nil_or_concat l with rfl | ⟨r, c, rfl⟩
    · cases h
    · rw [List.concat_eq_append] at h ⊢
      rw [List.length_append, List.length_singleton] at h
      have h2 := c.toNat_lt
      rw [num8_snoc, bigB_succ, show (256 * num8 r + c.toNat) / 256 = num8 r by omega, bigB_num8 n r (by omega)]
      congr 2
      rw [← UInt8.toNat_inj]
      simp
theorem num8_bigB : ∀ (n x : Nat), x < 256 ^ n → num8 (bigB n x) = x
  | 0, x, h => by have : x = 0 := by simpa using h
                  subst this; rfl
  | n + 1, x, h => by
    rw [Nat.pow_succ] at h
    rw [bigB_succ, num8_snoc, num8_bigB n (x / 256) (by omega)]
    simp; omega
end SumM
namespace Go.Proofs.Ytoagdpjickippaa
open Go Vc SumM Go.Proofs

theorem take_byt (s : ByteArray) {n : Nat} (h : n < s.size) : s.data.toList.take (n + 1) = s.data.toList.take n ++ [UInt8.ofNat (byt s n)] := by
  have hlt : n < s.data.toList.length := by simp only [Array.length_toList]; exact h
  have hb : byt s n = (s.data.toList[n]).toNat := by unfold byt; rw [List.getElem?_eq_getElem hlt]; rfl
  rw [List.take_succ_eq_append_getElem hlt, hb, UInt8.ofNat_toNat]
theorem take_size (s : ByteArray) : s.data.toList.take s.size = s.data.toList := List.take_of_length_le (by simp)
theorem toNat_byt (s : ByteArray) (n : Nat) : (UInt8.ofNat (byt s n)).toNat = byt s n := by
  have := byt_lt s n
  simp; omega
theorem byteV_wrap (l : List UInt8) (z : Int) (hz : 0 ≤ z) : byteV l ++ [.int .u8 (IntKind.u8.wrap z)] = byteV (l ++ [UInt8.ofNat z.toNat]) := by
  obtain ⟨x, rfl⟩ := Int.eq_ofNat_of_zero_le hz
  rw [wrap_u8_mod, show ((x : Int) % 256) = ((x % 256 : Nat) : Int) by omega, byteV_snoc l (x % 256) (Nat.mod_lt _ (by decide)), Int.toNat_natCast, ofNat_eq (Nat.mod_mod _ _)]
theorem shift_byte (x k : Nat) : Int.fdiv (x : Int) (2 ^ min (((8 * k : Nat) : Int)).toNat 64) = (if k ≤ 8 then ((x / 256 ^ k : Nat) : Int) else ((x / 2 ^ 64 : Nat) : Int)) := by
  have hc : ∀ j : Nat, (2 : Int) ^ j = ((2 ^ j : Nat) : Int) := fun j => by push_cast; rfl
  split
  · rw [show min (((8 * k : Nat) : Int)).toNat 64 = 8 * k by omega, hc, Int.fdiv_eq_ediv_of_nonneg _ (Int.natCast_nonneg _), ← Int.natCast_ediv, Nat.pow_mul]
  · rw [show min (((8 * k : Nat) : Int)).toNat 64 = 64 by omega, hc, Int.fdiv_eq_ediv_of_nonneg _ (Int.natCast_nonneg _), ← Int.natCast_ediv]
theorem bigB_get {n x i : Nat} (h : i < n) : (bigB n x).take (i + 1) = (bigB n x).take i ++ [UInt8.ofNat (x / 256 ^ (n - 1 - i))] := by
  rw [List.take_succ_eq_append_getElem (by rw [bigB_length]; exact h)]
  simp [bigB]
theorem pow_big {x k : Nat} (hx : x < 18446744073709551616) (h : 8 ≤ k) : x / 256 ^ k = 0 := by
  refine Nat.div_eq_of_lt ?_
  have : 256 ^ 8 ≤ 256 ^ k := Nat.pow_le_pow_right (by decide) h
  omega
theorem littleB_get {n x i : Nat} (h : i < n) : (littleB n x).take (i + 1) = (littleB n x).take i ++ [UInt8.ofNat (x / 256 ^ i)] := by
  rw [List.take_succ_eq_append_getElem (by rw [littleB_length]; exact h)]
  simp [littleB]
end Go.Proofs.Ytoagdpjickippaa

/- Indexes of packs in plain: what bytes say, what bytes rows have, and that these say the rows again. No condition. -/
set_option linter.unusedVariables false
namespace PkM
open SumM

/-- A row: the name's bytes, the place, the sum. -/
abbrev Rw := List UInt8 × Nat × Nat
def sl (L : List UInt8) (i n : Nat) : List UInt8 := (L.drop i).take n
def magic : List UInt8 := [255, 116, 79, 99, 0, 0, 0, 2]
def hd0 (l : List UInt8) : Nat := (l.headD 0).toNat
def fan (L : List UInt8) (i : Nat) : Nat := num8 (sl L (8 + 4 * i) 4)
def fanB (L : List UInt8) (c : Nat) : Nat := if c = 0 then 0 else fan L (c - 1)
def farL (L : List UInt8) (n : Nat) : List UInt8 := sl L (1032 + 28 * n) (L.length - 40 - (1032 + 28 * n))
def placeE (far : List UInt8) (v : Nat) : Except Nat Nat := if v < 2147483648 then .ok v else if far.length / 8 ≤ v - 2147483648 then .error 3 else .ok (num8 (sl far (8 * (v - 2147483648)) 8))
def stepE (L : List UInt8) (n i : Nat) : Except Nat Rw :=
  if 0 < i ∧ ¬ sl L (1032 + 20 * i - 20) 20 < sl L (1032 + 20 * i) 20 then .error 3
  else if i < fanB L (hd0 (sl L (1032 + 20 * i) 20)) then .error 3
  else if fanB L (hd0 (sl L (1032 + 20 * i) 20) + 1) ≤ i then .error 3
  else match placeE (farL L n) (num8 (sl L (1032 + 24 * n + 4 * i) 4)) with
    | .error e => .error e
    | .ok a => if 1099511627776 < a then .error 2 else .ok (sl L (1032 + 20 * i) 20, a, num8 (sl L (1032 + 20 * n + 4 * i) 4))
def rowsE (L : List UInt8) (n : Nat) : Nat → Nat → Except Nat (List Rw)
  | _, 0 => .ok []
  | i, k + 1 => match stepE L n i with
    | .error e => .error e
    | .ok r => match rowsE L n (i + 1) k with
      | .error e => .error e
      | .ok rs => .ok (r :: rs)
def parseE (D : List UInt8 → List UInt8) (L : List UInt8) : Except Nat (List Rw × List UInt8) :=
  if L.length < 1072 then .error 6
  else if L.take 8 ≠ magic then .error 3
  else if ∃ i, i < 255 ∧ fan L (i + 1) < fan L i then .error 3
  else if 1000 < fan L 255 then .error 2
  else if L.length < 1072 + 28 * fan L 255 then .error 6
  else if (L.length - (1072 + 28 * fan L 255)) % 8 ≠ 0 then .error 3
  else match rowsE L (fan L 255) 0 (fan L 255) with
    | .error e => .error e
    | .ok rows => if D (L.take (L.length - 20)) ≠ L.drop (L.length - 20) then .error 5 else .ok (rows, sl L (L.length - 40) 20)
def cnt (l : List Rw) (c : Nat) : Nat := (l.filter fun r => decide (hd0 r.1 ≤ c)).length
def isFar (far : Int) (r : Rw) : Bool := decide (far ≤ (r.2.1 : Int)) || decide (2147483648 ≤ r.2.1)
def nearV (far : Int) : Nat → List Rw → List Nat
  | _, [] => []
  | k, r :: rs => if isFar far r = true then (2147483648 + k) :: nearV far (k + 1) rs else r.2.1 :: nearV far k rs
def bodyT (far : Int) (l : List Rw) (sum : List UInt8) : List UInt8 :=
  magic ++ ((List.range 256).flatMap (fun c => bigB 4 (cnt l c)) ++ (l.flatMap (·.1) ++ (l.flatMap (fun r => bigB 4 r.2.2) ++ ((nearV far 0 l).flatMap (bigB 4) ++ ((l.filter (isFar far)).flatMap (fun r => bigB 8 r.2.1) ++ sum)))))
def textT (D : List UInt8 → List UInt8) (far : Int) (l : List Rw) (sum : List UInt8) : List UInt8 := bodyT far l sum ++ D (bodyT far l sum)
/-- Rows that an index holds. -/
structure Good (l : List Rw) : Prop where
  raw : ∀ r ∈ l, r.1.length = 20
  place : ∀ r ∈ l, r.2.1 ≤ 1099511627776
  crc : ∀ r ∈ l, r.2.2 < 4294967296
  rise : l.Pairwise fun x y => x.1 < y.1
  few : l.length ≤ 1000
theorem sl_len {L : List UInt8} {i n : Nat} (h : i + n ≤ L.length) : (sl L i n).length = n := by
  unfold sl; rw [List.length_take, List.length_drop]; omega
theorem sl_mid (P Q R : List UInt8) {j m : Nat} (h : j + m ≤ Q.length) : sl (P ++ (Q ++ R)) (P.length + j) m = sl Q j m := by
  unfold sl
  rw [← List.drop_drop, List.drop_left, List.drop_append_of_le_length (by omega), List.take_append_of_le_length (by rw [List.length_drop]; omega)]
theorem flat_size {α : Type} {f : α → List UInt8} {k : Nat} : ∀ (l : List α), (∀ x ∈ l, (f x).length = k) → (l.flatMap f).length = k * l.length
  | [], _ => by simp
  | x :: r, h => by
    rw [List.flatMap_cons, List.length_append, h x (.head _), flat_size r fun y hy => h y (.tail _ hy), List.length_cons, Nat.mul_succ]; omega
theorem sl_flat {α : Type} {f : α → List UInt8} {k : Nat} : ∀ (l : List α) (i : Nat) (x : α), (∀ x ∈ l, (f x).length = k) → l[i]? = some x → sl (l.flatMap f) (k * i) k = f x
  | y :: r, 0, x, h, hx => by
    simp only [List.getElem?_cons_zero, Option.some.injEq] at hx
    subst hx
    unfold sl
    rw [Nat.mul_zero, List.drop_zero, List.flatMap_cons, List.take_left' (h y (.head _))]
  | y :: r, i + 1, x, h, hx => by
    have := sl_flat r i x (fun z hz => h z (.tail _ hz)) (by simpa using hx)
    unfold sl at this ⊢
    rw [List.flatMap_cons, Nat.mul_succ, Nat.add_comm, ← List.drop_drop, List.drop_left' (h y (.head _))]
    exact this
  | [], i, x, _, hx => by simp at hx
theorem nearV_len (far : Int) : ∀ (k : Nat) (l : List Rw), (nearV far k l).length = l.length
  | _, [] => rfl
  | k, r :: rs => by
    rw [nearV]
    split
    · rw [List.length_cons, nearV_len far (k + 1) rs, List.length_cons]
    · rw [List.length_cons, nearV_len far k rs, List.length_cons]
theorem nearV_at (far : Int) : ∀ (k : Nat) (l : List Rw) (i : Nat) (r : Rw), l[i]? = some r →
    (isFar far r = true → (nearV far k l)[i]? = some (2147483648 + k + ((l.take i).filter (isFar far)).length) ∧ (l.filter (isFar far))[((l.take i).filter (isFar far)).length]? = some r) ∧
    (isFar far r = false → (nearV far k l)[i]? = some r.2.1)
  | k, x :: rs, 0, r, h => by
    simp only [List.getElem?_cons_zero, Option.some.injEq] at h
    subst h
    rw [nearV]
    refine ⟨fun hf => ?_, fun hf => ?_⟩
    · rw [if_pos hf, List.filter_cons_of_pos hf]; simp
    · rw [if_neg (by rw [hf]; decide)]; rfl
  | k, x :: rs, i + 1, r, h => by
    rw [nearV]
    by_cases hx : isFar far x = true
    · obtain ⟨h1, h2⟩ := nearV_at far (k + 1) rs i r (by simpa using h)
      rw [if_pos hx, List.take_succ_cons, List.filter_cons_of_pos hx, List.filter_cons_of_pos hx]
      refine ⟨fun hf => ?_, fun hf => by rw [List.getElem?_cons_succ]; exact h2 hf⟩
      obtain ⟨h3, h4⟩ := h1 hf
      rw [List.getElem?_cons_succ, h3, List.length_cons, List.getElem?_cons_succ]
      exact ⟨by congr 1; omega, h4⟩
    · obtain ⟨h1, h2⟩ := nearV_at far k rs i r (by simpa using h)
      rw [if_neg hx, List.take_succ_cons, List.filter_cons_of_neg hx, List.filter_cons_of_neg hx]
      refine ⟨fun hf => ?_, fun hf => by rw [List.getElem?_cons_succ]; exact h2 hf⟩
      rw [List.getElem?_cons_succ]
      exact h1 hf
  | k, [], i, r, h => by simp at h
theorem nearV_lt (far : Int) : ∀ (k : Nat) (l : List Rw), k + l.length ≤ 1000000 → (∀ r ∈ l, r.2.1 < 2147483648 ∨ isFar far r = true) → ∀ v ∈ nearV far k l, v < 4294967296
  | k, [], _, _, v, hv => by simp [nearV] at hv
  | k, r :: rs, hk, h, v, hv => by
    rw [List.length_cons] at hk
    rw [nearV] at hv
    split at hv
    · rcases List.mem_cons.1 hv with rfl | hv
      · omega
      · exact nearV_lt far (k + 1) rs (by omega) (fun x hx => h x (.tail _ hx)) v hv
    · rename_i hf
      rcases List.mem_cons.1 hv with rfl | hv
      · rcases h r (.head _) with h | h
        · omega
        · exact absurd h hf
      · exact nearV_lt far k rs (by omega) (fun x hx => h x (.tail _ hx)) v hv
theorem near_far {far : Int} {r : Rw} (h : isFar far r = false) : r.2.1 < 2147483648 := by
  unfold isFar at h
  rw [Bool.or_eq_false_iff] at h
  have := of_decide_eq_false h.2
  omega
theorem cnt_le (l : List Rw) (c : Nat) : cnt l c ≤ l.length := List.length_filter_le _ _
theorem cnt_mono (l : List Rw) (c : Nat) : cnt l c ≤ cnt l (c + 1) := by
  unfold cnt
  rw [← List.countP_eq_length_filter, ← List.countP_eq_length_filter]
  refine List.countP_mono_left fun x _ h => ?_
  have := of_decide_eq_true h
  exact decide_eq_true (by omega)
theorem cnt_all (l : List Rw) : cnt l 255 = l.length := by
  unfold cnt
  rw [List.filter_eq_self.2]
  intro r _
  have := (r.1.headD 0).toNat_lt
  exact decide_eq_true (by unfold hd0; omega)
theorem head_le {a b : List UInt8} (ha : a.length = 20) (hb : b.length = 20) (h : a < b) : hd0 a ≤ hd0 b := by
  match a, b, ha, hb with
  | x :: a, y :: b, _, _ =>
    rw [List.cons_lt_cons_iff] at h
    show x.toNat ≤ y.toNat
    rcases h with h | ⟨h, _⟩
    · rw [UInt8.lt_iff_toNat_lt] at h; omega
    · rw [h]; exact Nat.le_refl _
theorem head_rise {l : List Rw} (h : Good l) {i j : Nat} {x y : Rw} (hx : l[i]? = some x) (hy : l[j]? = some y) (hij : i ≤ j) : hd0 x.1 ≤ hd0 y.1 := by
  rcases Nat.lt_or_ge i j with hlt | hge
  · obtain ⟨hi, rfl⟩ := List.getElem?_eq_some_iff.1 hx
    obtain ⟨hj, rfl⟩ := List.getElem?_eq_some_iff.1 hy
    exact head_le (h.raw _ (List.getElem_mem hi)) (h.raw _ (List.getElem_mem hj)) ((List.pairwise_iff_getElem.1 h.rise) i j hi hj hlt)
  · rw [show i = j by omega, hy] at hx
    cases hx; exact Nat.le_refl _
theorem cnt_hi {l : List Rw} (h : Good l) {i : Nat} {x : Rw} (hx : l[i]? = some x) : i < cnt l (hd0 x.1) := by
  have hi := (List.getElem?_eq_some_iff.1 hx).1
  have h1 : l.take (i + 1) = (l.take (i + 1)).filter fun r => decide (hd0 r.1 ≤ hd0 x.1) := by
    refine (List.filter_eq_self.2 fun r hr => ?_).symm
    obtain ⟨j, hj⟩ := List.mem_iff_getElem?.1 hr
    rw [List.getElem?_take] at hj
    split at hj
    · exact decide_eq_true (head_rise h hj hx (by omega))
    · cases hj
  have h2 := congrArg List.length h1
  rw [List.length_take] at h2
  unfold cnt
  have h4 : l.filter (fun r => decide (hd0 r.1 ≤ hd0 x.1)) = (l.take (i + 1)).filter (fun r => decide (hd0 r.1 ≤ hd0 x.1)) ++ (l.drop (i + 1)).filter (fun r => decide (hd0 r.1 ≤ hd0 x.1)) := by rw [← List.filter_append, List.take_append_drop]
  rw [h4, List.length_append, ← h2]; omega
theorem cnt_lo {l : List Rw} (h : Good l) {i c : Nat} {x : Rw} (hx : l[i]? = some x) (hc : c < hd0 x.1) : cnt l c ≤ i := by
  have hi := (List.getElem?_eq_some_iff.1 hx).1
  have h1 : (l.drop i).filter (fun r => decide (hd0 r.1 ≤ c)) = [] := by
    refine List.filter_eq_nil_iff.2 fun r hr => ?_
    obtain ⟨j, hj⟩ := List.mem_iff_getElem?.1 hr
    rw [List.getElem?_drop] at hj
    have := head_rise h hx hj (by omega)
    simp; omega
  unfold cnt
  have h3 : l.filter (fun r => decide (hd0 r.1 ≤ c)) = (l.take i).filter (fun r => decide (hd0 r.1 ≤ c)) ++ (l.drop i).filter (fun r => decide (hd0 r.1 ≤ c)) := by rw [← List.filter_append, List.take_append_drop]
  have h4 := List.length_filter_le (fun r : Rw => decide (hd0 r.1 ≤ c)) (l.take i)
  rw [List.length_take] at h4
  rw [h3, h1, List.append_nil]; omega
section
variable {D : List UInt8 → List UInt8} {far : Int} {l : List Rw} {sum : List UInt8}
theorem body_parts (h : Good l) (hs : sum.length = 20) :
    ((List.range 256).flatMap (fun c => bigB 4 (cnt l c))).length = 1024 ∧ (l.flatMap (·.1)).length = 20 * l.length ∧ (l.flatMap (fun r => bigB 4 r.2.2)).length = 4 * l.length ∧ ((nearV far 0 l).flatMap (bigB 4)).length = 4 * l.length ∧
    ((l.filter (isFar far)).flatMap (fun r => bigB 8 r.2.1)).length = 8 * (l.filter (isFar far)).length ∧ (bodyT far l sum).length = 1052 + 28 * l.length + 8 * (l.filter (isFar far)).length := by
  have h1 := flat_size (f := fun c => bigB 4 (cnt l c)) (k := 4) (List.range 256) fun c _ => bigB_length _ _
  have h2 := flat_size (f := fun r : Rw => r.1) (k := 20) l h.raw
  have h3 := flat_size (f := fun r : Rw => bigB 4 r.2.2) (k := 4) l fun r _ => bigB_length _ _
  have h4 := flat_size (f := bigB 4) (k := 4) (nearV far 0 l) fun r _ => bigB_length _ _
  have h5 := flat_size (f := fun r : Rw => bigB 8 r.2.1) (k := 8) (l.filter (isFar far)) fun r _ => bigB_length _ _
  rw [List.length_range] at h1
  rw [nearV_len] at h4
  refine ⟨h1, h2, h3, h4, h5, ?_⟩
  unfold bodyT
  rw [List.length_append, List.length_append, List.length_append, List.length_append, List.length_append, List.length_append, h1, h2, h3, h4, h5, hs]
  show 8 + _ = _
  omega
/-- What bytes rows have says these rows. -/
theorem parse_text (h : Good l) (hs : sum.length = 20) (hD : ∀ x, (D x).length = 20) : parseE D (textT D far l sum) = .ok (l, sum) := by
  obtain ⟨h1, h2, h3, h4, h5, h6⟩ := body_parts (far := far) (sum := sum) h hs
  obtain ⟨F, hF⟩ : ∃ F, (List.range 256).flatMap (fun c => bigB 4 (cnt l c)) = F := ⟨_, rfl⟩
  obtain ⟨N, hN⟩ : ∃ N, l.flatMap (·.1) = N := ⟨_, rfl⟩
  obtain ⟨C, hC⟩ : ∃ C, l.flatMap (fun r => bigB 4 r.2.2) = C := ⟨_, rfl⟩
  obtain ⟨V, hV⟩ : ∃ V, (nearV far 0 l).flatMap (bigB 4) = V := ⟨_, rfl⟩
  obtain ⟨Q, hQ⟩ : ∃ Q, (l.filter (isFar far)).flatMap (fun r => bigB 8 r.2.1) = Q := ⟨_, rfl⟩
  rw [hF] at h1; rw [hN] at h2; rw [hC] at h3; rw [hV] at h4; rw [hQ] at h5
  obtain ⟨L, hL⟩ : ∃ L, textT D far l sum = L := ⟨_, rfl⟩
  have hbody : bodyT far l sum = magic ++ (F ++ (N ++ (C ++ (V ++ (Q ++ sum))))) := by unfold bodyT; rw [hF, hN, hC, hV, hQ]
  have hLb : L = bodyT far l sum ++ D (bodyT far l sum) := hL.symm
  have hLl : L.length = 1072 + 28 * l.length + 8 * (l.filter (isFar far)).length := by rw [hLb, List.length_append, h6, hD]; omega
  generalize hT : D (bodyT far l sum) = T at hLb
  have hTl : T.length = 20 := by rw [← hT]; exact hD _
  have hm8 : magic.length = 8 := rfl
  have eL : L = magic ++ (F ++ (N ++ (C ++ (V ++ (Q ++ (sum ++ T)))))) := by rw [hLb, hbody]; simp only [List.append_assoc]
  have sF : ∀ {j m}, j + m ≤ F.length → sl L (8 + j) m = sl F j m := fun hj => by rw [eL]; exact sl_mid magic F _ hj
  have sN : ∀ {j m}, j + m ≤ N.length → sl L (1032 + j) m = sl N j m := fun {j m} hj => by
    have := sl_mid (magic ++ F) N (C ++ (V ++ (Q ++ (sum ++ T)))) hj
    rw [List.length_append, hm8, h1, show 8 + 1024 + j = 1032 + j by omega] at this
    rw [eL, ← this, List.append_assoc]
  have sC : ∀ {j m}, j + m ≤ C.length → sl L (1032 + 20 * l.length + j) m = sl C j m := fun {j m} hj => by
    have := sl_mid (magic ++ (F ++ N)) C (V ++ (Q ++ (sum ++ T))) hj
    rw [List.length_append, List.length_append, hm8, h1, h2, show 8 + (1024 + 20 * l.length) + j = 1032 + 20 * l.length + j by omega] at this
    rw [eL, ← this, List.append_assoc, List.append_assoc]
  have sV : ∀ {j m}, j + m ≤ V.length → sl L (1032 + 24 * l.length + j) m = sl V j m := fun {j m} hj => by
    have := sl_mid (magic ++ (F ++ (N ++ C))) V (Q ++ (sum ++ T)) hj
    rw [List.length_append, List.length_append, List.length_append, hm8, h1, h2, h3, show 8 + (1024 + (20 * l.length + 4 * l.length)) + j = 1032 + 24 * l.length + j by omega] at this
    rw [eL, ← this, List.append_assoc, List.append_assoc, List.append_assoc]
  have sQ : ∀ {j m}, j + m ≤ Q.length → sl L (1032 + 28 * l.length + j) m = sl Q j m := fun {j m} hj => by
    have := sl_mid (magic ++ (F ++ (N ++ (C ++ V)))) Q (sum ++ T) hj
    rw [List.length_append, List.length_append, List.length_append, List.length_append, hm8, h1, h2, h3, h4, show 8 + (1024 + (20 * l.length + (4 * l.length + 4 * l.length))) + j = 1032 + 28 * l.length + j by omega] at this
    rw [eL, ← this, List.append_assoc, List.append_assoc, List.append_assoc, List.append_assoc]
  have hfan : ∀ i, i < 256 → fan L i = cnt l i := fun i hi => by
    unfold fan
    rw [sF (by omega), ← hF, sl_flat (k := 4) (List.range 256) i i (fun c _ => bigB_length _ _) (by rw [List.getElem?_range hi])]
    refine num8_bigB 4 _ ?_
    have h7 := cnt_le l i
    have h8 := h.few
    have : (256 : Nat) ^ 4 = 4294967296 := rfl
    omega
  have hn : fan L 255 = l.length := by rw [hfan 255 (by omega), cnt_all]
  have hfar : farL L l.length = Q := by
    unfold farL
    rw [show L.length - 40 - (1032 + 28 * l.length) = Q.length by omega]
    have := sQ (j := 0) (m := Q.length) (by omega)
    rw [Nat.add_zero] at this
    rw [this]; unfold sl; rw [List.drop_zero, List.take_length]
  have hraw : ∀ i r, l[i]? = some r → sl L (1032 + 20 * i) 20 = r.1 := fun i r hr => by
    have hi := (List.getElem?_eq_some_iff.1 hr).1
    rw [sN (by omega), ← hN, sl_flat (f := fun r : Rw => r.1) (k := 20) l i r h.raw hr]
  have hstep : ∀ i r, l[i]? = some r → stepE L l.length i = .ok r := fun i r hr => by
    have hi := (List.getElem?_eq_some_iff.1 hr).1
    have hrm : r ∈ l := List.mem_of_getElem? hr
    unfold stepE
    rw [hraw i r hr]
    have hc : hd0 r.1 < 256 := (r.1.headD 0).toNat_lt
    have e1 : fanB L (hd0 r.1 + 1) = cnt l (hd0 r.1) := by unfold fanB; rw [if_neg (by omega)]; exact hfan _ hc
    have e2 : fanB L (hd0 r.1) ≤ i := by
      unfold fanB
      split
      · exact Nat.zero_le _
      · rw [hfan _ (by omega)]; exact cnt_lo h hr (by omega)
    have hno : ¬ (0 < i ∧ ¬ sl L (1032 + 20 * i - 20) 20 < r.1) := fun hh => by
      refine hh.2 ?_
      have h0 := hh.1
      have hp : l[i - 1]? = some l[i - 1] := List.getElem?_eq_getElem (by omega)
      have := hraw (i - 1) _ hp
      rw [show 1032 + 20 * i - 20 = 1032 + 20 * (i - 1) by omega, this]
      have h7 := (List.pairwise_iff_getElem.1 h.rise) (i - 1) i (by omega) hi (by omega)
      rw [(List.getElem?_eq_some_iff.1 hr).2] at h7
      exact h7
    rw [if_neg hno, if_neg (by omega), if_neg (by rw [e1]; have := cnt_hi h hr; omega)]
    have hval : ∃ v, (nearV far 0 l)[i]? = some v ∧ v < 4294967296 ∧ placeE Q v = .ok r.2.1 := by
      obtain ⟨g1, g2⟩ := nearV_at far 0 l i r hr
      by_cases hf : isFar far r = true
      · obtain ⟨g3, g4⟩ := g1 hf
        have hk := (List.getElem?_eq_some_iff.1 g4).1
        have hk2 := List.length_filter_le (isFar far) l
        have := h.few
        refine ⟨_, g3, by omega, ?_⟩
        generalize ((l.take i).filter (isFar far)).length = k at g4 hk ⊢
        unfold placeE
        rw [if_neg (by omega), show 2147483648 + 0 + k - 2147483648 = k by omega, if_neg (by omega), ← hQ, sl_flat (k := 8) (l.filter (isFar far)) k r (fun r _ => bigB_length _ _) g4]
        rw [num8_bigB 8 _ (by have := h.place r hrm; have : (256 : Nat) ^ 8 = 18446744073709551616 := rfl; omega)]
      · have hf : isFar far r = false := by simpa using hf
        have := near_far hf
        refine ⟨_, g2 hf, by omega, ?_⟩
        unfold placeE
        rw [if_pos this]
    obtain ⟨v, hv, hvl, hp⟩ := hval
    have ev : num8 (sl L (1032 + 24 * l.length + 4 * i) 4) = v := by
      rw [sV (by omega), ← hV, sl_flat (k := 4) (nearV far 0 l) i v (fun c _ => bigB_length _ _) hv]
      exact num8_bigB 4 _ hvl
    have ec : num8 (sl L (1032 + 20 * l.length + 4 * i) 4) = r.2.2 := by
      rw [sC (by omega), ← hC, sl_flat (f := fun r : Rw => bigB 4 r.2.2) (k := 4) l i r (fun c _ => bigB_length _ _) hr]
      exact num8_bigB 4 _ (h.crc r hrm)
    rw [hfar, ev, hp, ec]
    simp only
    rw [if_neg (by have := h.place r hrm; omega)]
  have hrows : ∀ k i, i + k = l.length → rowsE L l.length i k = .ok (l.drop i) := by
    intro k
    induction k with
    | zero => intro i hik; rw [rowsE, List.drop_eq_nil_of_le (by omega)]
    | succ k ih =>
      intro i hik
      have hi : i < l.length := by omega
      rw [rowsE, hstep i l[i] (List.getElem?_eq_getElem hi), ih (i + 1) (by omega)]
      simp only
      rw [← List.drop_eq_getElem_cons hi]
  rw [hL]
  unfold parseE
  have hmag : L.take 8 = magic := by rw [eL, List.take_left' hm8]
  have hmono : ¬ ∃ i, i < 255 ∧ fan L (i + 1) < fan L i := fun ⟨i, hi, hlt⟩ => by
    rw [hfan _ (by omega), hfan _ (by omega)] at hlt
    have := cnt_mono l i
    omega
  rw [hn, if_neg (by omega), if_neg (fun hh => hh hmag), if_neg hmono, if_neg (by have := h.few; omega), if_neg (by omega), if_neg (by omega), hrows l.length 0 (by omega)]
  simp only
  have hbl : L.length - 20 = (bodyT far l sum).length := by omega
  rw [if_neg, List.drop_zero]
  · have : sl L (L.length - 40) 20 = sum := by
      have h7 := sl_mid (magic ++ (F ++ (N ++ (C ++ (V ++ Q))))) sum T (j := 0) (m := 20) (by omega)
      rw [List.length_append, List.length_append, List.length_append, List.length_append, List.length_append, hm8, h1, h2, h3, h4, h5, Nat.add_zero] at h7
      rw [show L.length - 40 = 8 + (1024 + (20 * l.length + (4 * l.length + (4 * l.length + 8 * (l.filter (isFar far)).length)))) by omega, eL]
      simp only [List.append_assoc] at h7
      rw [h7]; unfold sl; rw [List.drop_zero, List.take_of_length_le (by omega)]
    rw [this]
  · rw [hbl, hLb, List.take_left, List.drop_left, hT]
    exact fun hh => hh rfl
end
end PkM

/- Digits of bytes in plain; append of what is new. No condition. -/
set_option linter.unusedVariables false
namespace Vc
open Go
theorem append_new {P : Program} {t e : TypeId} {z : Value} {bytes : Nat} {w : World} {base : Nat} {l : Sl} {xs : List Value} (el : El P t e z bytes) (h : Own w base e l xs) {news : List Value} (h1 : ∀ u ∈ news, u.oneCell' = true)
    (hm : xs.length + news.length ≤ maxLen) (hb : (xs.length + news.length) * bytes ≤ 140737488355328) (hbase : base ≤ w.heap.size) {w2 : World} (hw2 : w2 = w.alloc (.cells news.toArray e)) {m : Nat} (hlen : news.length = m) :
    ∃ w' l', (Builtin.append_ #[t, t] t #[.slice l.a l.len l.cap, .slice (some ⟨w.heap.size, 0, none⟩) m m]).run P w2 = .ok (.slice l'.a l'.len l'.cap) w' ∧ Own w' base e l' (xs ++ news) ∧
      Fr (At l) w w' ∧ Since w l l' := by
  subst hw2
  have h2 : Own (w.alloc (.cells news.toArray e)) base e l xs := h.keep (.alloc (fun _ => False) _ _) (by simp)
  obtain ⟨w', l', hr, ho, hf, hs⟩ := append_all' el h2 (src := some ⟨w.heap.size, 0, none⟩) m (news := news) (fun i v hv => ⟨_, rfl, by rw [add_lit, Nat.zero_add, cell_blk (alloc_new w _)]; simpa using hv⟩) h1 hm hb (by simp; omega) hlen
  refine ⟨w', l', hr, ho, (Fr.alloc _ _ _).trans' hf, fun y hy => ?_⟩
  rcases hs y hy with hx | hn
  · exact .inl hx
  · simp only [World.alloc, Array.size_push] at hn
    exact .inr (by omega)
end Vc
namespace HexM
/-- A digit. -/
def hx (n : Nat) : Nat := if n < 10 then 48 + n else 87 + n
theorem hx_lt {n : Nat} (h : n < 16) : hx n < 256 := by unfold hx; split <;> omega
def hexL (l : List UInt8) : List UInt8 := l.flatMap fun c => [UInt8.ofNat (hx (c.toNat / 16)), UInt8.ofNat (hx (c.toNat % 16))]
theorem hexL_snoc (l : List UInt8) (c : UInt8) : hexL (l ++ [c]) = hexL l ++ [UInt8.ofNat (hx (c.toNat / 16)), UInt8.ofNat (hx (c.toNat % 16))] := by simp [hexL]
theorem hexL_length (l : List UInt8) : (hexL l).length = 2 * l.length := by
  induction l with
  | nil => rfl
  | cons c l ih => simp only [hexL, List.flatMap_cons, List.length_append, List.length_cons, List.length_nil] at ih ⊢; omega
/-- A digit's number. -/
def dg (c : Nat) : Option Nat := if 48 ≤ c ∧ c ≤ 57 then some (c - 48) else if 97 ≤ c ∧ c ≤ 102 then some (c - 87) else none
theorem dg_lt {c n : Nat} (h : dg c = some n) : n < 16 := by
  unfold dg at h
  split at h
  · cases h; omega
  · split at h
    · cases h; omega
    · cases h
theorem dg_hx {n : Nat} (h : n < 16) : dg (hx n) = some n := by
  unfold hx dg
  split
  · rw [if_pos (by omega)]; congr 1; omega
  · rw [if_neg (by omega), if_pos (by omega)]; congr 1; omega
theorem hx_dg {c n : Nat} (h : dg c = some n) : hx n = c := by
  unfold dg at h
  unfold hx
  split at h
  · cases h; rw [if_pos (by omega)]; omega
  · split at h
    · cases h; rw [if_neg (by omega)]; omega
    · cases h
def unhexL : List UInt8 → Option (List UInt8)
  | [] => some []
  | [_] => none
  | a :: b :: r => match dg a.toNat, dg b.toNat, unhexL r with
    | some x, some y, some l => some (UInt8.ofNat (16 * x + y) :: l)
    | _, _, _ => none
theorem unhexL_len : ∀ (l r : List UInt8), unhexL l = some r → l.length = 2 * r.length
  | [], r, h => by simp only [unhexL, Option.some.injEq] at h; subst h; rfl
  | [_], r, h => by simp [unhexL] at h
  | a :: b :: l, r, h => by
    simp only [unhexL] at h
    split at h
    · rename_i x y q h1 h2 h3
      cases h
      have := unhexL_len l q h3
      simp only [List.length_cons]; omega
    · cases h
theorem unhex_hex : ∀ l : List UInt8, unhexL (hexL l) = some l
  | [] => rfl
  | c :: l => by
    have hc := c.toNat_lt
    have h1 : (UInt8.ofNat (hx (c.toNat / 16))).toNat = hx (c.toNat / 16) := by have := hx_lt (n := c.toNat / 16) (by omega); simp; omega
    have h2 : (UInt8.ofNat (hx (c.toNat % 16))).toNat = hx (c.toNat % 16) := by have := hx_lt (n := c.toNat % 16) (by omega); simp; omega
    have : hexL (c :: l) = UInt8.ofNat (hx (c.toNat / 16)) :: UInt8.ofNat (hx (c.toNat % 16)) :: hexL l := rfl
    rw [this, unhexL, h1, h2, dg_hx (by omega), dg_hx (by omega), unhex_hex l]
    simp only [Option.some.injEq, List.cons.injEq, and_true]
    rw [show 16 * (c.toNat / 16) + c.toNat % 16 = c.toNat by omega, UInt8.ofNat_toNat]
theorem hex_unhex : ∀ (l r : List UInt8), unhexL l = some r → hexL r = l
  | [], r, h => by simp only [unhexL, Option.some.injEq] at h; subst h; rfl
  | [_], r, h => by simp [unhexL] at h
  | a :: b :: l, r, h => by
    simp only [unhexL] at h
    split at h
    · rename_i x y q h1 h2 h3
      cases h
      have hx1 := dg_lt h1
      have hy1 := dg_lt h2
      have e : (UInt8.ofNat (16 * x + y)).toNat = 16 * x + y := by simp; omega
      show UInt8.ofNat (hx ((UInt8.ofNat (16 * x + y)).toNat / 16)) :: UInt8.ofNat (hx ((UInt8.ofNat (16 * x + y)).toNat % 16)) :: hexL q = _
      rw [e, show (16 * x + y) / 16 = x by omega, show (16 * x + y) % 16 = y by omega, hx_dg h1, hx_dg h2, UInt8.ofNat_toNat, UInt8.ofNat_toNat, hex_unhex l q h3]
    · cases h
/-- All are digits. -/
def digits (l : List UInt8) : Bool := l.all fun c => (dg c.toNat).isSome
theorem unhexL_iff : ∀ l : List UInt8, (unhexL l).isSome = (digits l && l.length % 2 == 0)
  | [] => rfl
  | [a] => by simp [unhexL]
  | a :: b :: l => by
    have ih := unhexL_iff l
    have hl : (a :: b :: l).length % 2 = l.length % 2 := by simp only [List.length_cons]; omega
    rw [hl]
    simp only [unhexL, digits, List.all_cons] at ih ⊢
    cases h1 : dg a.toNat <;> cases h2 : dg b.toNat <;> simp
    cases h3 : unhexL l <;> rw [h3] at ih <;> simp at ih ⊢ <;> simpa using ih
/-- An object's name. -/
def isId (l : List UInt8) : Bool := (unhexL l).isSome && l.length == 40
theorem unhexL_take : ∀ (n : Nat) (l : List UInt8) (r : List UInt8), unhexL (l.take (2 * n)) = some r → 2 * n ≤ l.length → ∀ a b : UInt8, l[2 * n]? = some a → l[2 * n + 1]? = some b →
    unhexL (l.take (2 * (n + 1))) = (match dg a.toNat, dg b.toNat with | some x, some y => some (r ++ [UInt8.ofNat (16 * x + y)]) | _, _ => none)
  | 0, l, r, h, _, a, b, ha, hb => by
    match l, ha, hb with
    | a' :: b' :: l, ha, hb =>
      simp only [Nat.mul_zero, List.getElem?_cons_zero, Option.some.injEq] at ha
      simp only [Nat.mul_zero, Nat.zero_add, List.getElem?_cons_succ, List.getElem?_cons_zero, Option.some.injEq] at hb
      subst ha; subst hb
      simp only [Nat.mul_zero, List.take_zero, unhexL, Option.some.injEq] at h
      subst h
      show unhexL [a', b'] = _
      cases h1 : dg a'.toNat <;> cases h2 : dg b'.toNat <;> simp [unhexL, h1, h2]
    | [], ha, _ => simp at ha
    | [_], _, hb => simp at hb
  | n + 1, l, r, h, hl, a, b, ha, hb => by
    match l, hl with
    | a' :: b' :: l, hl =>
      have ha' : l[2 * n]? = some a := by simpa [show 2 * (n + 1) = 2 * n + 1 + 1 by omega] using ha
      have hb' : l[2 * n + 1]? = some b := by simpa [show 2 * (n + 1) + 1 = 2 * n + 1 + 1 + 1 by omega] using hb
      have ht : ∀ k, (a' :: b' :: l).take (2 * (k + 1)) = a' :: b' :: l.take (2 * k) := fun k => by rw [show 2 * (k + 1) = 2 * k + 1 + 1 by omega]; rfl
      rw [ht] at h ⊢
      simp only [unhexL] at h
      split at h
      · rename_i x y q h1 h2 h3
        cases h
        have ih := unhexL_take n l q h3 (by simp only [List.length_cons] at hl; omega) a b ha' hb'
        simp only [unhexL, h1, h2, ih]
        cases dg a.toNat <;> cases dg b.toNat <;> simp
      · cases h
    | [], hl => simp at hl
    | [_], hl => simp only [List.length_cons, List.length_nil] at hl; omega
theorem unhexL_bad : ∀ (n : Nat) (l : List UInt8) (a : UInt8), l[n]? = some a → dg a.toNat = none → unhexL l = none := fun n l a h hd => by
  have := unhexL_iff l
  cases hu : unhexL l with
  | none => rfl
  | some r =>
    exfalso
    rw [hu] at this
    simp only [Option.isSome_some, digits] at this
    have h2 := (Bool.and_eq_true _ _ ▸ this.symm).1
    rw [List.all_eq_true] at h2
    have := h2 a (List.mem_of_getElem? h)
    rw [hd] at this; cases this
end HexM

/- The order of texts in plain. No condition. -/
set_option linter.unusedVariables false
namespace Go.Proofs.Ytoagdpjickippaa
open Go Vc Go.Proofs Go.Lib

theorem cmp_lt : ∀ a b : List UInt8, Lib.compareBytes a b < 0 ↔ a < b
  | [], [] => by simp [Lib.compareBytes]
  | [], _ :: _ => by simp [Lib.compareBytes]
  | _ :: _, [] => by simp [Lib.compareBytes]
  | a :: ra, b :: rb => by
    rw [Lib.compareBytes, List.cons_lt_cons_iff]
    by_cases h1 : a < b
    · rw [if_pos h1]; exact ⟨fun _ => .inl h1, fun _ => by decide⟩
    · rw [if_neg h1]
      by_cases h2 : b < a
      · rw [if_pos h2]
        refine ⟨fun h => absurd h (by decide), fun h => ?_⟩
        rcases h with h | ⟨h, _⟩
        · exact absurd h h1
        · rw [h] at h2; exact absurd h2 (by rw [UInt8.lt_iff_toNat_lt]; omega)
      · rw [if_neg h2, cmp_lt ra rb]
        have : a = b := UInt8.toNat_inj.1 (by rw [UInt8.lt_iff_toNat_lt] at h1 h2; omega)
        exact ⟨fun h => .inr ⟨this, h⟩, fun h => h.resolve_left h1 |>.2⟩
theorem cmp_zero : ∀ a b : List UInt8, Lib.compareBytes a b = 0 ↔ a = b
  | [], [] => by simp [Lib.compareBytes]
  | [], _ :: _ => by simp [Lib.compareBytes]
  | _ :: _, [] => by simp [Lib.compareBytes]
  | a :: ra, b :: rb => by
    rw [Lib.compareBytes]
    by_cases h1 : a < b
    · rw [if_pos h1]
      refine ⟨fun h => absurd h (by decide), fun h => ?_⟩
      cases h; exact absurd h1 (by rw [UInt8.lt_iff_toNat_lt]; omega)
    · rw [if_neg h1]
      by_cases h2 : b < a
      · rw [if_pos h2]
        refine ⟨fun h => absurd h (by decide), fun h => ?_⟩
        cases h; exact absurd h2 (by rw [UInt8.lt_iff_toNat_lt]; omega)
      · rw [if_neg h2, cmp_zero ra rb]
        have : a = b := UInt8.toNat_inj.1 (by rw [UInt8.lt_iff_toNat_lt] at h1 h2; omega)
        subst this
        simp
theorem lt_tri (a b : List UInt8) : a < b ∨ a = b ∨ b < a := by
  rcases Decidable.em (a < b) with h | h
  · exact .inl h
  · rcases Decidable.em (a = b) with h' | h'
    · exact .inr (.inl h')
    · exact .inr (.inr (Std.lt_of_le_of_ne (Std.not_lt.1 h) fun e => h' e.symm))
end Go.Proofs.Ytoagdpjickippaa

/- Rows of an index as the program has them: which are right, in what order they stand, and as what rows of bytes. No condition. -/
set_option linter.unusedVariables false
namespace Go.Proofs.Ytoagdpjickippaa
open Go Vc HexM SumM Go.Proofs

abbrev PRow := ByteArray × Int × Int
def encP (r : PRow) : List Value := [.string r.1, .int .i64 r.2.1, .int .u32 r.2.2]
def okRow (r : PRow) : Prop := isId r.1.data.toList = true ∧ 0 ≤ r.2.1 ∧ r.2.1 ≤ 1099511627776
def Fits (r : PRow) : Prop := 0 ≤ r.2.2 ∧ r.2.2 < 4294967296
def CheckP (rs : List PRow) : Prop := (∀ r ∈ rs, okRow r) ∧ rs.Pairwise fun x y => x.1 ≠ y.1
def RiseP (rs : List PRow) : Prop := rs.Pairwise fun x y => x.1.data.toList < y.1.data.toList
def NearP (rs : List PRow) : Prop := rs.Pairwise fun x y => ¬ y.1.data.toList < x.1.data.toList
def insP (r : PRow) : List PRow → List PRow
  | [] => [r]
  | x :: xs => if r.1.data.toList < x.1.data.toList then r :: x :: xs else x :: insP r xs
def sortP (rs : List PRow) : List PRow := rs.foldl (fun o r => insP r o) []
theorem insP_perm (r : PRow) : ∀ xs, (insP r xs).Perm (r :: xs)
  | [] => .refl _
  | x :: xs => by
    rw [insP]
    split
    · exact .refl _
    · exact ((insP_perm r xs).cons x).trans (List.Perm.swap r x xs)
theorem insP_near (r : PRow) : ∀ xs, NearP xs → NearP (insP r xs)
  | [], _ => List.pairwise_singleton _ _
  | x :: xs, h => by
    obtain ⟨h1, h2⟩ := List.pairwise_cons.1 h
    rw [insP]
    by_cases hl : r.1.data.toList < x.1.data.toList
    · rw [if_pos hl]
      refine List.pairwise_cons.2 ⟨fun y hy => ?_, h⟩
      rcases List.mem_cons.1 hy with rfl | hy
      · exact List.lt_asymm hl
      · intro hh
        exact h1 y hy (List.lt_trans hh hl)
    · rw [if_neg hl]
      refine List.pairwise_cons.2 ⟨fun y hy => ?_, insP_near r xs h2⟩
      rcases List.mem_cons.1 ((insP_perm r xs).subset hy) with rfl | hy
      · exact hl
      · exact h1 y hy
theorem fold_ins : ∀ (rs o : List PRow), NearP o → (rs.foldl (fun o r => insP r o) o).Perm (o ++ rs) ∧ NearP (rs.foldl (fun o r => insP r o) o)
  | [], o, h => ⟨by simp, h⟩
  | r :: rs, o, h => by
    obtain ⟨h1, h2⟩ := fold_ins rs (insP r o) (insP_near r o h)
    refine ⟨h1.trans ?_, h2⟩
    refine ((insP_perm r o).append_right rs).trans ?_
    rw [List.cons_append]
    exact List.perm_middle.symm
theorem sortP_perm (rs : List PRow) : (sortP rs).Perm rs := by simpa [sortP] using (fold_ins rs [] List.Pairwise.nil).1
theorem sortP_near (rs : List PRow) : NearP (sortP rs) := (fold_ins rs [] List.Pairwise.nil).2
theorem near_rise {rs : List PRow} (h : NearP rs) (hd : rs.Pairwise fun x y => x.1 ≠ y.1) : RiseP rs := by
  refine (h.and hd).imp fun {x y} hh => ?_
  obtain ⟨h1, h2⟩ := hh
  rcases lt_tri x.1.data.toList y.1.data.toList with h3 | h3 | h3
  · exact h3
  · exact absurd (bs_ext h3) h2
  · exact absurd h3 h1
theorem riseP_eq {a b : List PRow} (h1 : RiseP a) (h2 : RiseP b) (hp : a.Perm b) : a = b := by
  refine List.Perm.eq_of_pairwise (le := fun x y : PRow => x.1.data.toList < y.1.data.toList) ?_ h1 h2 hp
  intro x y _ _ h3 h4
  exact absurd (List.lt_trans h3 h4) (List.lt_irrefl _)
theorem pw_perm {a b : List PRow} (hp : a.Perm b) (h : a.Pairwise fun x y => x.1 ≠ y.1) : b.Pairwise fun x y => x.1 ≠ y.1 := hp.pairwise h fun h e => h e.symm
theorem checkP_perm {a b : List PRow} (hp : a.Perm b) (h : CheckP a) : CheckP b := ⟨fun r hr => h.1 r (hp.symm.subset hr), pw_perm hp h.2⟩
/-- Neighbours alone are looked at. -/
theorem adj_rise {ys : List PRow} (h : NearP ys) (ha : ∀ i x y, ys[i]? = some x → ys[i + 1]? = some y → x.1 ≠ y.1) : RiseP ys := by
  have key : ∀ d i : Nat, ∀ x y, ys[i]? = some x → ys[i + d + 1]? = some y → x.1.data.toList < y.1.data.toList := by
    intro d
    induction d with
    | zero =>
      intro i x y hx hy
      have h1 := (List.pairwise_iff_getElem.1 h) i (i + 1) (List.getElem?_eq_some_iff.1 hx).1 (List.getElem?_eq_some_iff.1 hy).1 (by omega)
      rw [(List.getElem?_eq_some_iff.1 hx).2, show ys[i + 1]'((List.getElem?_eq_some_iff.1 hy).1) = y from (List.getElem?_eq_some_iff.1 hy).2] at h1
      rcases lt_tri x.1.data.toList y.1.data.toList with h3 | h3 | h3
      · exact h3
      · exact absurd (bs_ext h3) (ha i x y hx hy)
      · exact absurd h3 h1
    | succ d ih =>
      intro i x y hx hy
      have hl := (List.getElem?_eq_some_iff.1 hy).1
      obtain ⟨z, hz⟩ : ∃ z, ys[i + d + 1]? = some z := ⟨_, List.getElem?_eq_getElem (by omega)⟩
      have h1 := ih i x z hx hz
      have hy' : ys[(i + d + 1) + 1]? = some y := hy
      have h2 := (List.pairwise_iff_getElem.1 h) (i + d + 1) (i + d + 1 + 1) (by omega) (by omega) (by omega)
      rw [(List.getElem?_eq_some_iff.1 hz).2, (List.getElem?_eq_some_iff.1 hy').2] at h2
      rcases lt_tri z.1.data.toList y.1.data.toList with h3 | h3 | h3
      · exact List.lt_trans h1 h3
      · rw [← h3]; exact h1
      · exact absurd h3 h2
  unfold RiseP
  rw [List.pairwise_iff_getElem]
  intro i j hi hj hij
  exact key (j - i - 1) i ys[i] ys[j] (List.getElem?_eq_getElem hi) (by rw [show i + (j - i - 1) + 1 = j by omega]; exact List.getElem?_eq_getElem hj)
theorem rise_dist {ys : List PRow} (h : RiseP ys) : ys.Pairwise fun x y => x.1 ≠ y.1 := h.imp fun h e => by rw [e] at h; exact List.lt_irrefl _ h
/-! ### As rows of bytes -/
theorem hx_mono {a b : Nat} (ha : a < 16) (hb : b < 16) : UInt8.ofNat (hx a) < UInt8.ofNat (hx b) ↔ a < b := by
  rw [UInt8.lt_iff_toNat_lt]
  have h1 := hx_lt ha
  have h2 := hx_lt hb
  rw [toNat_of _ h1, toNat_of _ h2]
  unfold hx
  split <;> split <;> omega
theorem hx_inj {a b : Nat} (ha : a < 16) (hb : b < 16) (h : UInt8.ofNat (hx a) = UInt8.ofNat (hx b)) : a = b := by
  rcases Nat.lt_trichotomy a b with h1 | h1 | h1
  · have := (hx_mono ha hb).2 h1
    rw [h] at this
    rw [UInt8.lt_iff_toNat_lt] at this; omega
  · exact h1
  · have := (hx_mono hb ha).2 h1
    rw [h] at this
    rw [UInt8.lt_iff_toNat_lt] at this; omega
theorem hexL_lt : ∀ a b : List UInt8, hexL a < hexL b ↔ a < b
  | [], [] => by simp [hexL]
  | [], y :: b => by
    refine ⟨fun _ => List.nil_lt_cons y b, fun _ => ?_⟩
    show ([] : List UInt8) < _ :: _
    exact List.nil_lt_cons _ _
  | x :: a, [] => by
    refine ⟨fun h => ?_, fun h => absurd h (List.not_lt_nil _)⟩
    exact absurd h (List.not_lt_nil _)
  | x :: a, y :: b => by
    have h1 : hexL (x :: a) = UInt8.ofNat (hx (x.toNat / 16)) :: UInt8.ofNat (hx (x.toNat % 16)) :: hexL a := rfl
    have h2 : hexL (y :: b) = UInt8.ofNat (hx (y.toNat / 16)) :: UInt8.ofNat (hx (y.toNat % 16)) :: hexL b := rfl
    have hx1 := x.toNat_lt
    have hy1 := y.toNat_lt
    rw [h1, h2, List.cons_lt_cons_iff, List.cons_lt_cons_iff, List.cons_lt_cons_iff, hexL_lt a b, hx_mono (by omega) (by omega), hx_mono (by omega) (by omega), UInt8.lt_iff_toNat_lt]
    constructor
    · rintro (h | ⟨h3, h | ⟨h4, h⟩⟩)
      · exact .inl (by omega)
      · have := hx_inj (by omega) (by omega) h3
        exact .inl (by omega)
      · have e1 := hx_inj (by omega) (by omega) h3
        have e2 := hx_inj (by omega) (by omega) h4
        exact .inr ⟨UInt8.toNat_inj.1 (by omega), h⟩
    · rintro (h | ⟨rfl, h⟩)
      · by_cases h5 : x.toNat / 16 < y.toNat / 16
        · exact .inl h5
        · have h6 : x.toNat / 16 = y.toNat / 16 := by omega
          exact .inr ⟨by rw [h6], .inl (by omega)⟩
      · exact .inr ⟨rfl, .inr ⟨rfl, h⟩⟩
def rawB (s : ByteArray) : List UInt8 := (unhexL s.data.toList).getD []
def rawOf (r : PRow) : PkM.Rw := (rawB r.1, r.2.1.toNat, r.2.2.toNat)
def ofRaw (x : PkM.Rw) : PRow := (⟨(hexL x.1).toArray⟩, (x.2.1 : Int), (x.2.2 : Int))
theorem rawB_id {s : ByteArray} (h : isId s.data.toList = true) : unhexL s.data.toList = some (rawB s) ∧ (rawB s).length = 20 ∧ hexL (rawB s) = s.data.toList := by
  unfold isId at h
  rw [Bool.and_eq_true] at h
  obtain ⟨r, hr⟩ := Option.isSome_iff_exists.1 h.1
  have h40 : s.data.toList.length = 40 := eq_of_beq h.2
  have hl := unhexL_len _ _ hr
  have e : rawB s = r := by unfold rawB; rw [hr]; rfl
  rw [e]
  exact ⟨hr, by omega, hex_unhex _ _ hr⟩
theorem of_raw {r : PRow} (h : okRow r) (hf : Fits r) : ofRaw (rawOf r) = r := by
  obtain ⟨h1, h2, h3⟩ := rawB_id h.1
  obtain ⟨a, b, c⟩ := r
  unfold ofRaw rawOf
  have e1 : (⟨(hexL (rawB a)).toArray⟩ : ByteArray) = a := bs_ext (by rw [bs_mk]; exact h3)
  have e2 : ((b.toNat : Nat) : Int) = b := Int.toNat_of_nonneg h.2.1
  have e3 : ((c.toNat : Nat) : Int) = c := Int.toNat_of_nonneg hf.1
  simp only
  rw [e1, e2, e3]
theorem raw_good {ys : List PRow} (h : CheckP ys) (hr : RiseP ys) (hf : ∀ r ∈ ys, Fits r) (hl : ys.length ≤ 1000) : PkM.Good (ys.map rawOf) where
  raw r hm := by
    obtain ⟨y, hy, rfl⟩ := List.mem_map.1 hm
    exact (rawB_id (h.1 y hy).1).2.1
  place r hm := by
    obtain ⟨y, hy, rfl⟩ := List.mem_map.1 hm
    have := (h.1 y hy).2
    show y.2.1.toNat ≤ _
    omega
  crc r hm := by
    obtain ⟨y, hy, rfl⟩ := List.mem_map.1 hm
    have := hf y hy
    show y.2.2.toNat < _
    unfold Fits at this; omega
  rise := by
    rw [List.pairwise_map]
    refine List.Pairwise.imp_of_mem (fun {x y} hx hy hlt => ?_) hr
    show rawB x.1 < rawB y.1
    rw [← hexL_lt, (rawB_id (h.1 x hx).1).2.2, (rawB_id (h.1 y hy).1).2.2]
    exact hlt
  few := by rw [List.length_map]; exact hl
theorem raw_back {ys : List PRow} (h : CheckP ys) (hf : ∀ r ∈ ys, Fits r) : (ys.map rawOf).map ofRaw = ys := by
  rw [List.map_map]
  exact (List.map_congr_left fun r hr => of_raw (h.1 r hr) (hf r hr)).trans (List.map_id _)
theorem of_rise {l : List PkM.Rw} (h : l.Pairwise fun x y => x.1 < y.1) : RiseP (l.map ofRaw) := by
  unfold RiseP
  rw [List.pairwise_map]
  refine h.imp fun {x y} hlt => ?_
  show (⟨(hexL x.1).toArray⟩ : ByteArray).data.toList < (⟨(hexL y.1).toArray⟩ : ByteArray).data.toList
  rw [bs_mk, bs_mk, hexL_lt]; exact hlt
end Go.Proofs.Ytoagdpjickippaa
namespace PkM
open SumM
/-- What is told of an index that is read: the names rise. -/
theorem rows_rise {L : List UInt8} {n : Nat} : ∀ (k i : Nat) (rs : List Rw), rowsE L n i k = .ok rs → rs.length = k ∧ ∀ j r, rs[j]? = some r → stepE L n (i + j) = .ok r
  | 0, i, rs, h => by
    rw [rowsE] at h; cases h
    exact ⟨rfl, fun j r hr => by simp at hr⟩
  | k + 1, i, rs, h => by
    rw [rowsE] at h
    cases hs : stepE L n i with
    | error e => rw [hs] at h; cases h
    | ok r =>
      rw [hs] at h
      simp only at h
      cases hr : rowsE L n (i + 1) k with
      | error e => rw [hr] at h; cases h
      | ok rs' =>
        rw [hr] at h
        simp only at h
        cases h
        obtain ⟨h1, h2⟩ := rows_rise k (i + 1) rs' hr
        refine ⟨by rw [List.length_cons, h1], fun j x hx => ?_⟩
        cases j with
        | zero => simp only [List.getElem?_cons_zero, Option.some.injEq] at hx; subst hx; exact hs
        | succ j =>
          rw [List.getElem?_cons_succ] at hx
          have := h2 j x hx
          rwa [show i + 1 + j = i + (j + 1) by omega] at this
theorem step_ok {L : List UInt8} {n i : Nat} {r : Rw} (h : stepE L n i = .ok r) : r.1 = sl L (1032 + 20 * i) 20 ∧ (0 < i → sl L (1032 + 20 * (i - 1)) 20 < r.1) ∧ r.2.1 ≤ 1099511627776 ∧ r.2.2 = num8 (sl L (1032 + 20 * n + 4 * i) 4) := by
  unfold stepE at h
  split at h
  · cases h
  rename_i h1
  split at h
  · cases h
  split at h
  · cases h
  split at h
  · cases h
  · rename_i a _
    split at h
    · cases h
    · rename_i ha
      cases h
      refine ⟨rfl, fun h0 => ?_, by simp only; omega, rfl⟩
      refine Classical.byContradiction fun hn => h1 ⟨h0, ?_⟩
      rw [show 1032 + 20 * i - 20 = 1032 + 20 * (i - 1) by omega]
      exact hn
theorem rows_sorted {L : List UInt8} {n : Nat} {rs : List Rw} (h : rowsE L n 0 n = .ok rs) (hL : 1072 + 28 * n ≤ L.length) : rs.length = n ∧ (∀ r ∈ rs, r.1.length = 20 ∧ r.2.1 ≤ 1099511627776 ∧ r.2.2 < 4294967296) ∧ rs.Pairwise fun x y => x.1 < y.1 := by
  obtain ⟨h1, h2⟩ := rows_rise n 0 rs h
  have h3 : ∀ j r, rs[j]? = some r → stepE L n j = .ok r := fun j r hr => by have := h2 j r hr; rwa [Nat.zero_add] at this
  refine ⟨h1, fun r hr => ?_, ?_⟩
  · obtain ⟨j, hj⟩ := List.mem_iff_getElem?.1 hr
    have hjl := (List.getElem?_eq_some_iff.1 hj).1
    obtain ⟨a, _, c, d⟩ := step_ok (h3 j r hj)
    refine ⟨by rw [a]; exact sl_len (by omega), c, ?_⟩
    rw [d]
    exact num8_lt 4 _ (sl_len (by omega))
  · have key : ∀ d i : Nat, ∀ x y, rs[i]? = some x → rs[i + d + 1]? = some y → x.1 < y.1 := by
      intro d
      induction d with
      | zero =>
        intro i x y hx hy
        obtain ⟨a, _⟩ := step_ok (h3 i x hx)
        obtain ⟨_, b, _⟩ := step_ok (h3 _ y hy)
        have := b (by omega)
        rw [show i + 0 + 1 - 1 = i by omega] at this
        rw [a]; exact this
      | succ d ih =>
        intro i x y hx hy
        have hl := (List.getElem?_eq_some_iff.1 hy).1
        obtain ⟨z, hz⟩ : ∃ z, rs[i + d + 1]? = some z := ⟨_, List.getElem?_eq_getElem (by omega)⟩
        obtain ⟨a, _⟩ := step_ok (h3 _ z hz)
        obtain ⟨_, b, _⟩ := step_ok (h3 _ y hy)
        have := b (by omega)
        rw [show i + (d + 1) + 1 - 1 = i + d + 1 by omega, ← a] at this
        exact List.lt_trans (ih i x z hx hz) this
    rw [List.pairwise_iff_getElem]
    intro i j hi hj hij
    exact key (j - i - 1) i rs[i] rs[j] (List.getElem?_eq_getElem hi) (by rw [show i + (j - i - 1) + 1 = j by omega]; exact List.getElem?_eq_getElem hj)
end PkM

/- Formulas of 2 Go functions of this seat (written by a program of the author's, vcgen.py), and that each is enough for the call. No condition. -/
set_option linter.unusedVariables false
namespace Go.Proofs.Ytoagdpjickippaa
open Go Vc Go.Proofs
set_option maxRecDepth 100000
/-- sums.FromBig -/
def vc_sums_FromBig (x0 : ByteArray) (w : World) (R : Value → World → Prop) : Prop :=
  ∃ I1 : Int → Int → World → Prop, ∃ I2 : Int → Int → World → Nat, (I1 0 0 w ∧
   ∀ n3 : Int,
   ∀ n4 : Int,
   ∀ w5 : World,
   (I1 n3 n4 w5 →
     (((decide (n4 < (↑(ByteArray.size x0) : Int)) = true →
        ((0 : Int) ≤ (8 : Int) ∧
         ((0 ≤ n4 ∧
           n4 < (↑(ByteArray.size x0) : Int)) ∧
          (I1 (IntKind.wrap IntKind.u64 (↑(BitVec.toNat (BitVec.ofInt 64 (IntKind.wrap IntKind.u64 (n3 * 2 ^ min (Int.toNat 8) 64)) ||| BitVec.ofInt 64 (IntKind.wrap IntKind.u64 (byteAt x0 n4)))) : Int)) (IntKind.wrap IntKind.i64 (n4 + 1)) w5 ∧
           I2 (IntKind.wrap IntKind.u64 (↑(BitVec.toNat (BitVec.ofInt 64 (IntKind.wrap IntKind.u64 (n3 * 2 ^ min (Int.toNat 8) 64)) ||| BitVec.ofInt 64 (IntKind.wrap IntKind.u64 (byteAt x0 n4)))) : Int)) (IntKind.wrap IntKind.i64 (n4 + 1)) w5 < I2 n3 n4 w5))))) ∧
      (decide (n4 < (↑(ByteArray.size x0) : Int)) = false →
        R (Value.int IntKind.u64 n3) w5))))
theorem vc_sums_FromBig_ok {x0 : ByteArray} {w : World} {R : Value → World → Prop} {R' : Ending → World → Prop} (h : vc_sums_FromBig x0 w R) (hR : ∀ v w', R v w' → R' (.returned v) w') :
    Calls Try.prog 26 #[.string x0] w R' :=
  calls_of_body (vs := [(.string x0, false)]) (ty := ty) (ann := ⟨[], [(3, [(3, .int .u64), (7, .int .i64)])], [], []⟩) (c := Try.f26.body.getD .skip) (by kernel_rfl) Try.func26 (by kernel_rfl) (by kernel_rfl) (Eq.mp (by kernel_rfl) h) hR
/-- sums.Big -/
def vc_sums_Big (x0 : Int) (x1 : Int) (w : World) (R : Value → World → Prop) : Prop :=
  ∃ I1 : Sl → Int → World → Prop, ∃ I2 : Sl → Int → World → Nat, (I1 (Sl.mk none 0 0) 0 w ∧
   ∀ l3 : Sl,
   ∀ n4 : Int,
   ∀ w5 : World,
   (I1 l3 n4 w5 →
     ((((decide (n4 < if 0 > x1 then 0 else x1) = true) →
        (((decide (IntKind.wrap IntKind.i64 (x1 - n4) > 8) = true →
           ∀ w6 : World,
           (w6 = World.alloc w5 (Obj.cells (Array.mk [Value.int IntKind.u8 0]) 5) →
             ∃ w7 : World, ∃ l8 : Sl, (Sem.run Try.prog (Builtin.append_ (Array.mk [68, 68]) 68 (Array.mk [Value.slice l3.1 l3.2 l3.3, Value.slice (some (Addr.mk (Array.size (World.heap w5)) 0 none)) 1 1])) w6 = Result.ok (Value.slice l8.1 l8.2 l8.3) w7 ∧
              (I1 (Sl.mk l8.1 l8.2 l8.3) (IntKind.wrap IntKind.i64 (n4 + 1)) w7 ∧
               I2 (Sl.mk l8.1 l8.2 l8.3) (IntKind.wrap IntKind.i64 (n4 + 1)) w7 < I2 l3 n4 w5))))) ∧
         (decide (IntKind.wrap IntKind.i64 (x1 - n4) > 8) = false →
           (0 ≤ IntKind.wrap IntKind.i64 (8 * IntKind.wrap IntKind.i64 (IntKind.wrap IntKind.i64 (x1 - 1) - n4)) ∧
            ∀ w9 : World,
            (w9 = World.alloc w5 (Obj.cells (Array.mk [Value.int IntKind.u8 (IntKind.wrap IntKind.u8 (Int.fdiv x0 (2 ^ min (Int.toNat (IntKind.wrap IntKind.i64 (8 * IntKind.wrap IntKind.i64 (IntKind.wrap IntKind.i64 (x1 - 1) - n4)))) 64)))]) 5) →
              ∃ w10 : World, ∃ l11 : Sl, (Sem.run Try.prog (Builtin.append_ (Array.mk [68, 68]) 68 (Array.mk [Value.slice l3.1 l3.2 l3.3, Value.slice (some (Addr.mk (Array.size (World.heap w5)) 0 none)) 1 1])) w9 = Result.ok (Value.slice l11.1 l11.2 l11.3) w10 ∧
               (I1 (Sl.mk l11.1 l11.2 l11.3) (IntKind.wrap IntKind.i64 (n4 + 1)) w10 ∧
                I2 (Sl.mk l11.1 l11.2 l11.3) (IntKind.wrap IntKind.i64 (n4 + 1)) w10 < I2 l3 n4 w5)))))))) ∧
      ((decide (n4 < if 0 > x1 then 0 else x1) = false) →
        ∃ w12 : World, ∃ s13 : ByteArray, (Sem.run Try.prog (convert 68 9 (Value.slice l3.1 l3.2 l3.3)) w5 = Result.ok (Value.string s13) w12 ∧
         R (Value.string s13) w12)))))
theorem vc_sums_Big_ok {x0 : Int} {x1 : Int} {w : World} {R : Value → World → Prop} {R' : Ending → World → Prop} (h : vc_sums_Big x0 x1 w R) (hR : ∀ v w', R v w' → R' (.returned v) w') :
    Calls Try.prog 23 #[.int .u64 x0, .int .i64 x1] w R' :=
  calls_of_body (vs := [(.int .u64 x0, false), (.int .i64 x1, false)]) (ty := ty) (ann := ⟨[], [(3, [(5, .slice), (9, .int .i64)])], [], []⟩) (c := Try.f23.body.getD .skip) (by kernel_rfl) Try.func23 (by kernel_rfl) (by kernel_rfl) (Eq.mp (by kernel_rfl) h) hR
end Go.Proofs.Ytoagdpjickippaa

/- FromBig and Big. Conditions: the numbers are within their kinds. -/
set_option linter.unusedVariables false
namespace Go.Proofs.Ytoagdpjickippaa
open Go Vc SumM Go.Proofs

/-- 'FromBig'. -/
theorem frombig_spec (s : ByteArray) (hs : s.size ≤ 8) (w : World) :
    Calls Try.prog F_sums_FromBig #[.string s] w fun e w' => e = .returned (.int .u64 ((num8 s.data.toList : Nat) : Int)) ∧ w' = w := by
  refine vc_sums_FromBig_ok (R := fun v w' => v = .int .u64 ((num8 s.data.toList : Nat) : Int) ∧ w' = w) ?_ (fun v w' h => ⟨by rw [h.1], h.2⟩)
  refine ⟨fun a i w5 => ∃ n : Nat, i = (n : Int) ∧ n ≤ s.size ∧ a = ((num8 (s.data.toList.take n) : Nat) : Int) ∧ w5 = w, fun a i w5 => s.size - i.toNat, ⟨0, rfl, Nat.zero_le _, rfl, rfl⟩, ?_⟩
  rintro a i w5 ⟨n, rfl, hn, rfl, hw⟩
  replace hw := hw.symm
  subst hw
  refine ⟨fun hlt => ?_, fun hge => ?_⟩
  · have hlt := of_decide_eq_true hlt
    have hb := byt_lt s n
    have hl : (s.data.toList.take n).length = n := by rw [List.length_take]; simp; omega
    have hv := num8_lt n _ hl
    have hp : 256 ^ n ≤ 256 ^ 7 := Nat.pow_le_pow_right (by decide) (by omega)
    have hsn := num8_snoc (s.data.toList.take n) (UInt8.ofNat (byt s n))
    rw [← take_byt s (by omega), toNat_byt] at hsn
    have hor : 2 ^ 8 * num8 (s.data.toList.take n) ||| byt s n = 2 ^ 8 * num8 (s.data.toList.take n) + byt s n := (Nat.two_pow_add_eq_or_of_lt hb _).symm
    generalize num8 (s.data.toList.take n) = x at hsn hv hor ⊢
    have e0 : (x : Int) * 2 ^ min (Int.toNat 8) 64 = ((2 ^ 8 * x : Nat) : Int) := by
      rw [show (2 : Int) ^ min (Int.toNat 8) 64 = ((2 ^ 8 : Nat) : Int) from rfl, ← Int.natCast_mul, Nat.mul_comm]
    have e2 : IntKind.u64.wrap (((BitVec.ofInt 64 (IntKind.u64.wrap ((x : Int) * 2 ^ min (Int.toNat 8) 64)) ||| BitVec.ofInt 64 (IntKind.u64.wrap (byteAt s (n : Int)))).toNat : Nat) : Int) = ((num8 (s.data.toList.take (n + 1)) : Nat) : Int) := by
      rw [e0, byteAt_nat, wrap_u64 (x := ((2 ^ 8 * x : Nat) : Int)) (by omega) (by omega), wrap_u64 (x := ((byt s n : Nat) : Int)) (by omega) (by omega), or_nat 64 _ _ (by omega) (by omega), hor, wrap_u64 (by omega) (by omega), hsn]
    have e3 : IntKind.i64.wrap ((n : Int) + 1) = ((n + 1 : Nat) : Int) := by rw [wrap_i64 (by omega) (by omega)]; omega
    refine ⟨by decide, ⟨by omega, by omega⟩, ?_⟩
    rw [e2, e3]
    exact ⟨⟨n + 1, rfl, by omega, rfl, rfl⟩, by dsimp only; omega⟩
  · have hge := of_decide_eq_false hge
    have : n = s.size := by omega
    subst this
    rw [take_size]
    exact ⟨rfl, rfl⟩
/-- 'Big'. -/
theorem big_spec (x n : Nat) (hx : x < 18446744073709551616) (hn : n ≤ 1000) (w : World) :
    Calls Try.prog F_sums_Big #[.int .u64 (x : Int), .int .i64 (n : Int)] w fun e w' => e = .returned (.string ⟨(bigB n x).toArray⟩) ∧ Fr (fun _ => False) w w' := by
  refine vc_sums_Big_ok (R := fun v w' => v = .string ⟨(bigB n x).toArray⟩ ∧ Fr (fun _ => False) w w') ?_ (fun v w' h => ⟨by rw [h.1], h.2⟩)
  have hlim : (if (0 : Int) > (n : Int) then 0 else (n : Int)) = (n : Int) := by rw [if_neg (by omega)]
  refine ⟨fun l i w' => ∃ k : Nat, i = (k : Int) ∧ k ≤ n ∧ Own w' w.heap.size T_uint8 l (byteV ((bigB n x).take k)) ∧ Fr (fun _ => False) w w', fun l i w' => n - i.toNat, ⟨0, rfl, Nat.zero_le _, .nil _ _ _, .refl _ _⟩, ?_⟩
  rintro l3 i w5 ⟨k, rfl, hk, ho, hf⟩
  rw [hlim]
  have e3 : IntKind.i64.wrap ((k : Int) + 1) = ((k + 1 : Nat) : Int) := by rw [wrap_i64 (by omega) (by omega)]; omega
  rw [e3]
  have hln : (byteV ((bigB n x).take k)).length = k := by simp [byteV, bigB_length]; omega
  refine ⟨fun hlt => ?_, fun hge => ?_⟩
  · have hlt := of_decide_eq_true hlt
    have step : ∀ z : Int, byteV ((bigB n x).take k) ++ [.int .u8 z] = byteV ((bigB n x).take (k + 1)) → ∀ w6, w6 = w5.alloc (.cells #[.int .u8 z] T_uint8) → ∃ w7 l8, (Builtin.append_ #[T_S_uint8, T_S_uint8] T_S_uint8 #[.slice l3.a l3.len l3.cap, .slice (some ⟨w5.heap.size, 0, none⟩) 1 1]).run Try.prog w6 = .ok (.slice l8.a l8.len l8.cap) w7 ∧
        ((∃ j : Nat, ((k + 1 : Nat) : Int) = (j : Int) ∧ j ≤ n ∧ Own w7 w.heap.size T_uint8 l8 (byteV ((bigB n x).take j)) ∧ Fr (fun _ => False) w w7) ∧ n - ((k + 1 : Nat) : Int).toNat < n - ((k : Int)).toNat) := fun z hz w6 h6 => by
      obtain ⟨w7, l8, hr, ho7, hf7, _⟩ := append_one' elByte ho (v := .int .u8 z) rfl (by rw [hln]; unfold maxLen; omega) (by rw [hln]; omega) hf.size h6
      rw [hz] at ho7
      exact ⟨w7, l8, hr, ⟨k + 1, rfl, by omega, ho7, hf.trans hf7 fun q hq ⟨y, hy, e⟩ => by have := (ho.blk hy).1; omega⟩, by omega⟩
    refine ⟨fun h8 => step 0 ?_, fun h8 => ?_⟩
    · have h8 := of_decide_eq_true h8
      rw [wrap_i64 (by omega) (by omega)] at h8
      rw [bigB_get (by omega), pow_big hx (by omega)]
      exact byteV_snoc _ 0 (by decide)
    · have h8 := of_decide_eq_false h8
      rw [wrap_i64 (by omega) (by omega)] at h8
      have e4 : IntKind.i64.wrap (8 * IntKind.i64.wrap (IntKind.i64.wrap ((n : Int) - 1) - (k : Int))) = ((8 * (n - 1 - k) : Nat) : Int) := by
        rw [wrap_i64 (x := (n : Int) - 1) (by omega) (by omega), wrap_i64 (x := (n : Int) - 1 - (k : Int)) (by omega) (by omega), wrap_i64 (by omega) (by omega)]; omega
      rw [e4, shift_byte, if_pos (by omega)]
      refine ⟨by omega, step _ ?_⟩
      rw [byteV_wrap _ _ (Int.natCast_nonneg _), Int.toNat_natCast, bigB_get (by omega)]
  · have hge := of_decide_eq_false hge
    have : k = n := by omega
    subst this
    rw [List.take_of_length_le (by rw [bigB_length]; omega)] at ho
    exact ⟨_, _, bytes_str (e := T_uint8) (by kernel_rfl) (by kernel_rfl) (by kernel_rfl) l3.cap ho.reads (by rw [ho.len]; simp [byteV]), rfl, hf⟩
end Go.Proofs.Ytoagdpjickippaa

/- A digit of a byte. No condition. -/
set_option linter.unusedVariables false
namespace Go.Proofs.Ytoagdpjickippaa
open Go Vc HexM Go.Proofs

theorem hexdig_at (n : Nat) (h : n < 16) : byteAt ⟨#[48, 49, 50, 51, 52, 53, 54, 55, 56, 57, 97, 98, 99, 100, 101, 102]⟩ (n : Int) = (hx n : Nat) := by
  rw [byteAt_nat]
  have ha : ((List.range 16).all fun n => byt ⟨#[48, 49, 50, 51, 52, 53, 54, 55, 56, 57, 97, 98, 99, 100, 101, 102]⟩ n == hx n) = true := by decide +kernel
  have := List.all_eq_true.1 ha n (List.mem_range.2 h)
  rw [eq_of_beq this]
theorem and15 (n : Nat) (h : n < 256) : n &&& 15 = n % 16 := Nat.and_two_pow_sub_one_eq_mod n 4
end Go.Proofs.Ytoagdpjickippaa

/- Formulas of 1 Go functions of this seat (written by a program of the author's, vcgen.py), and that each is enough for the call. No condition. -/
set_option linter.unusedVariables false
namespace Go.Proofs.Ytoagdpjickippaa
open Go Vc Go.Proofs
set_option maxRecDepth 100000
/-- sums.Hex -/
def vc_sums_Hex (x0 : ByteArray) (w : World) (R : Value → World → Prop) : Prop :=
  ∃ I1 : Sl → Int → World → Prop, ∃ I2 : Sl → Int → World → Nat, (I1 (Sl.mk none 0 0) 0 w ∧
   ∀ l3 : Sl,
   ∀ n4 : Int,
   ∀ w5 : World,
   (I1 l3 n4 w5 →
     (((decide (n4 < (↑(ByteArray.size x0) : Int)) = true →
        ∀ w6 : World,
        (Drew w5 w6 →
          ∃ I7 : World → Prop, (I7 w6 ∧
           ((0 ≤ n4 ∧
             n4 < (↑(ByteArray.size x0) : Int)) ∧
            ((0 : Int) ≤ (4 : Int) ∧
             ((0 ≤ Int.fdiv (byteAt x0 n4) (2 ^ min (Int.toNat 4) 8) ∧
               Int.fdiv (byteAt x0 n4) (2 ^ min (Int.toNat 4) 8) < (↑(ByteArray.size (ByteArray.mk (Array.mk [48, 49, 50, 51, 52, 53, 54, 55, 56, 57, 97, 98, 99, 100, 101, 102]))) : Int)) ∧
              ((0 ≤ n4 ∧
                n4 < (↑(ByteArray.size x0) : Int)) ∧
               ((0 ≤ IntKind.wrap IntKind.u8 (↑(BitVec.toNat (BitVec.ofInt 8 (byteAt x0 n4) &&& BitVec.ofInt 8 15)) : Int) ∧
                 IntKind.wrap IntKind.u8 (↑(BitVec.toNat (BitVec.ofInt 8 (byteAt x0 n4) &&& BitVec.ofInt 8 15)) : Int) < (↑(ByteArray.size (ByteArray.mk (Array.mk [48, 49, 50, 51, 52, 53, 54, 55, 56, 57, 97, 98, 99, 100, 101, 102]))) : Int)) ∧
                ∀ w8 : World,
                (w8 = World.alloc w6 (Obj.cells (Array.mk [Value.int IntKind.u8 (byteAt (ByteArray.mk (Array.mk [48, 49, 50, 51, 52, 53, 54, 55, 56, 57, 97, 98, 99, 100, 101, 102])) (Int.fdiv (byteAt x0 n4) (2 ^ min (Int.toNat 4) 8))), Value.int IntKind.u8 (byteAt (ByteArray.mk (Array.mk [48, 49, 50, 51, 52, 53, 54, 55, 56, 57, 97, 98, 99, 100, 101, 102])) (IntKind.wrap IntKind.u8 (↑(BitVec.toNat (BitVec.ofInt 8 (byteAt x0 n4) &&& BitVec.ofInt 8 15)) : Int)))]) 5) →
                  (I7 w8 ∧
                   ∃ w9 : World, ∃ l10 : Sl, (Sem.run Try.prog (Builtin.append_ (Array.mk [68, 68]) 68 (Array.mk [Value.slice l3.1 l3.2 l3.3, Value.slice (some (Addr.mk (Array.size (World.heap w6)) 0 none)) 2 2])) w8 = Result.ok (Value.slice l10.1 l10.2 l10.3) w9 ∧
                    (I7 w9 ∧
                     (I1 (Sl.mk l10.1 l10.2 l10.3) (IntKind.wrap IntKind.i64 (n4 + 1)) w9 ∧
                      I2 (Sl.mk l10.1 l10.2 l10.3) (IntKind.wrap IntKind.i64 (n4 + 1)) w9 < I2 l3 n4 w5)))))))))))))) ∧
      (decide (n4 < (↑(ByteArray.size x0) : Int)) = false →
        ∃ w11 : World, ∃ s12 : ByteArray, (Sem.run Try.prog (convert 68 9 (Value.slice l3.1 l3.2 l3.3)) w5 = Result.ok (Value.string s12) w11 ∧
         R (Value.string s12) w11)))))
theorem vc_sums_Hex_ok {x0 : ByteArray} {w : World} {R : Value → World → Prop} {R' : Ending → World → Prop} (h : vc_sums_Hex x0 w R) (hR : ∀ v w', R v w' → R' (.returned v) w') :
    Calls Try.prog 27 #[.string x0] w R' :=
  calls_of_body (vs := [(.string x0, false)]) (ty := ty) (ann := ⟨[], [(3, [(3, .slice), (7, .int .i64)])], [(5, .held [(0, true), (1, true), (2, true), (3, true), (4, true), (5, true), (6, true), (7, true), (8, true), (9, true), (10, true), (11, false), (12, false), (13, true)])], []⟩) (c := Try.f27.body.getD .skip) (by kernel_rfl) Try.func27 (by kernel_rfl) (by kernel_rfl) (Eq.mp (by kernel_rfl) h) hR
end Go.Proofs.Ytoagdpjickippaa

/- Hex. Conditions: as named. -/
set_option linter.unusedVariables false
namespace Go.Proofs.Ytoagdpjickippaa
open Go Vc HexM Go.Proofs

/-- 'Hex'. -/
theorem hex_spec (s : ByteArray) (hs : s.size ≤ 1000000000) (w : World) : Calls Try.prog F_sums_Hex #[.string s] w fun e w' => e = .returned (.string ⟨(hexL s.data.toList).toArray⟩) ∧ Fr (fun _ => False) w w' := by
  refine vc_sums_Hex_ok (R := fun v w' => v = .string ⟨(hexL s.data.toList).toArray⟩ ∧ Fr (fun _ => False) w w') ?_ (fun v w' h => ⟨by rw [h.1], h.2⟩)
  refine ⟨fun l n w' => ∃ k : Nat, n = k ∧ k ≤ s.size ∧ Own w' w.heap.size T_uint8 l (byteV (hexL (s.data.toList.take k))) ∧ Fr (fun _ => False) w w', fun _ n _ => s.size - n.toNat, ⟨0, rfl, Nat.zero_le _, .nil _ _ _, .refl _ _⟩, ?_⟩
  rintro l3 n w5 ⟨k, rfl, hk, ho, hf⟩
  have e1 : IntKind.i64.wrap ((k : Int) + 1) = ((k + 1 : Nat) : Int) := by rw [wrap_i64 (by omega) (by omega)]; omega
  rw [e1]
  have hln : (byteV (hexL (s.data.toList.take k))).length = 2 * k := by rw [bv_len, hexL_length, List.length_take, bs_len]; omega
  refine ⟨fun hlt w6 d6 => ?_, fun hge => ?_⟩
  · have hlt := of_decide_eq_true hlt
    have hb := byt_lt s k
    rw [byteAt_nat]
    have e2 : Int.fdiv ((byt s k : Nat) : Int) (2 ^ min (Int.toNat 4) 8) = ((byt s k / 16 : Nat) : Int) := by
      rw [show (2 : Int) ^ min (Int.toNat 4) 8 = ((16 : Nat) : Int) from rfl, Int.fdiv_eq_ediv_of_nonneg _ (Int.natCast_nonneg _), ← Int.natCast_ediv]
    have e3 : IntKind.u8.wrap (((BitVec.ofInt 8 ((byt s k : Nat) : Int) &&& BitVec.ofInt 8 15).toNat : Nat) : Int) = ((byt s k % 16 : Nat) : Int) := by
      rw [show (15 : Int) = ((15 : Nat) : Int) from rfl, and_nat 8 _ _ (by omega) (by decide), and15 _ hb, wrap_u8 (by omega) (by omega)]
    rw [e2, e3, hexdig_at _ (by omega), hexdig_at _ (by omega)]
    refine ⟨fun _ => True, trivial, ⟨by omega, by omega⟩, by decide, ⟨by omega, ?_⟩, ⟨by omega, by omega⟩, ⟨by omega, ?_⟩, fun w8 h8 => ⟨trivial, ?_⟩⟩
    · rw [show ByteArray.size ⟨#[48, 49, 50, 51, 52, 53, 54, 55, 56, 57, 97, 98, 99, 100, 101, 102]⟩ = 16 from rfl]; omega
    · rw [show ByteArray.size ⟨#[48, 49, 50, 51, 52, 53, 54, 55, 56, 57, 97, 98, 99, 100, 101, 102]⟩ = 16 from rfl]; omega
    obtain ⟨w9, l10, hr, ho9, hf9, _⟩ := append_new elByteH (ho.drew d6) (news := [.int .u8 (hx (byt s k / 16) : Nat), .int .u8 (hx (byt s k % 16) : Nat)]) (by simp [Value.oneCell']) (by rw [hln]; simp only [List.length_cons, List.length_nil]; unfold maxLen; omega) (by rw [hln]; simp only [List.length_cons, List.length_nil]; omega) (Nat.le_trans hf.size (by rw [d6.heap]; exact Nat.le_refl _)) h8 rfl
    refine ⟨w9, l10, hr, trivial, ⟨k + 1, rfl, by omega, ?_, ?_⟩, by dsimp only; omega⟩
    · rw [bs_take (by omega), hexL_snoc, toNat_of _ hb]
      have h1 := hx_lt (n := byt s k / 16) (by omega)
      have h2 := hx_lt (n := byt s k % 16) (by omega)
      have : byteV (hexL (s.data.toList.take k)) ++ [.int .u8 (hx (byt s k / 16) : Nat), .int .u8 (hx (byt s k % 16) : Nat)] = byteV (hexL (s.data.toList.take k) ++ [UInt8.ofNat (hx (byt s k / 16)), UInt8.ofNat (hx (byt s k % 16))]) := by
        simp [byteV]; omega
      rw [← this]; exact ho9
    · exact (hf.trans' (.drew _ d6)).trans hf9 fun q hq ⟨y, hy, e⟩ => by
        have := (ho.blk hy).1; omega
  · have hge := of_decide_eq_false hge
    have : k = s.size := by omega
    subst this
    rw [bs_all] at ho
    exact ⟨_, _, bytes_str (e := T_uint8) (by kernel_rfl) (by kernel_rfl) (by kernel_rfl) l3.cap ho.reads (by rw [ho.len, bv_len]), rfl, hf⟩
end Go.Proofs.Ytoagdpjickippaa

/- SHA-1 and SHA-256 on lists. -/
set_option linter.unusedVariables false
namespace ShaM
abbrev W := BitVec 32
def rotl (x : W) (n : Nat) : W := (x <<< n) ||| (x >>> (32 - n))
/-- Four bytes from number i on as a word, the highest first. -/
def be (p : List UInt8) (i : Nat) : W := BitVec.ofNat 32 ((p.getD i 0).toNat * 16777216 + (p.getD (i + 1) 0).toNat * 65536 + (p.getD (i + 2) 0).toNat * 256 + (p.getD (i + 3) 0).toNat)
def words (p : List UInt8) : List W := (List.range 16).map fun i => be p (4 * i)
def ext1 : Nat → List W → List W
  | 0, w => w
  | n + 1, w => ext1 n (w ++ [rotl (w.getD (w.length - 3) 0 ^^^ w.getD (w.length - 8) 0 ^^^ w.getD (w.length - 14) 0 ^^^ w.getD (w.length - 16) 0) 1])
def f1 (i : Nat) (b c d : W) : W := if i < 20 then (b &&& c) ||| (~~~b &&& d) else if i < 40 then b ^^^ c ^^^ d else if i < 60 then (b &&& c) ||| (b &&& d) ||| (c &&& d) else b ^^^ c ^^^ d
def k1 (i : Nat) : W := if i < 20 then 0x5a827999#32 else if i < 40 then 0x6ed9eba1#32 else if i < 60 then 0x8f1bbcdc#32 else 0xca62c1d6#32
/-- One round. -/
def rd1 (i : Nat) (x : W) : List W → List W
  | [a, b, c, d, e] => [rotl a 5 + f1 i b c d + e + k1 i + x, a, rotl b 30, c, d]
  | v => v
def rds1 : Nat → List W → List W → List W
  | _, [], v => v
  | i, x :: r, v => rds1 (i + 1) r (rd1 i x v)
def adds : List W → List W → List W
  | a :: h, b :: v => (a + b) :: adds h v
  | _, _ => []
def block1 (h : List W) (p : List UInt8) : List W := adds h (rds1 0 (ext1 64 (words p)) h)
def blocks (f : List W → List UInt8 → List W) : Nat → List W → List UInt8 → List W
  | 0, h, _ => h
  | n + 1, h, t => blocks f n (f h (t.take 64)) (t.drop 64)
def pad (t : List UInt8) : List UInt8 := t ++ 0x80 :: List.replicate ((119 - t.length % 64) % 64) 0 ++ (List.range 8).map fun i => UInt8.ofNat (t.length * 8 / 2 ^ (56 - 8 * i))
def outw (x : W) : List UInt8 := [UInt8.ofNat (x.toNat / 16777216), UInt8.ofNat (x.toNat / 65536), UInt8.ofNat (x.toNat / 256), UInt8.ofNat x.toNat]
def out (h : List W) : List UInt8 := h.flatMap outw
def start1 : List W := [0x67452301#32, 0xefcdab89#32, 0x98badcfe#32, 0x10325476#32, 0xc3d2e1f0#32]
def sha1 (t : List UInt8) : List UInt8 := out (blocks block1 ((pad t).length / 64) start1 (pad t))

def ext2 : Nat → List W → List W
  | 0, w => w
  | n + 1, w =>
    let x := w.getD (w.length - 15) 0
    let y := w.getD (w.length - 2) 0
    ext2 n (w ++ [w.getD (w.length - 16) 0 + (rotl x 25 ^^^ rotl x 14 ^^^ x >>> 3) + w.getD (w.length - 7) 0 + (rotl y 15 ^^^ rotl y 13 ^^^ y >>> 10)])
def rd2 (k w : W) : List W → List W
  | [a, b, c, d, e, f, g, h] =>
    let x := h + (rotl e 26 ^^^ rotl e 21 ^^^ rotl e 7) + ((e &&& f) ^^^ (~~~e &&& g)) + k + w
    let y := (rotl a 30 ^^^ rotl a 19 ^^^ rotl a 10) + ((a &&& b) ^^^ (a &&& c) ^^^ (b &&& c))
    [x + y, a, b, c, d + x, e, f, g]
  | v => v
def rds2 : List W → List W → List W → List W
  | k :: ks, x :: xs, v => rds2 ks xs (rd2 k x v)
  | _, _, v => v
def block2 (K : List W) (h : List W) (p : List UInt8) : List W := adds h (rds2 K (ext2 48 (words p)) h)
def start2 : List W := [0x6a09e667#32, 0xbb67ae85#32, 0x3c6ef372#32, 0xa54ff53a#32, 0x510e527f#32, 0x9b05688c#32, 0x1f83d9ab#32, 0x5be0cd19#32]
end ShaM
namespace ShaM
def nxt1 (w : List W) : W := rotl (w.getD (w.length - 3) 0 ^^^ w.getD (w.length - 8) 0 ^^^ w.getD (w.length - 14) 0 ^^^ w.getD (w.length - 16) 0) 1
theorem ext1_snoc : ∀ (n : Nat) (w : List W), ext1 (n + 1) w = ext1 n w ++ [nxt1 (ext1 n w)]
  | 0, w => rfl
  | n + 1, w => by
    show ext1 (n + 1) (w ++ [nxt1 w]) = _
    rw [ext1_snoc n]
    rfl
theorem ext1_length : ∀ (n : Nat) (w : List W), (ext1 n w).length = w.length + n
  | 0, w => rfl
  | n + 1, w => by
    show (ext1 n (w ++ [nxt1 w])).length = _
    rw [ext1_length n, List.length_append, List.length_singleton]; omega
def nxt2 (w : List W) : W :=
  let x := w.getD (w.length - 15) 0
  let y := w.getD (w.length - 2) 0
  w.getD (w.length - 16) 0 + (rotl x 25 ^^^ rotl x 14 ^^^ x >>> 3) + w.getD (w.length - 7) 0 + (rotl y 15 ^^^ rotl y 13 ^^^ y >>> 10)
theorem ext2_snoc : ∀ (n : Nat) (w : List W), ext2 (n + 1) w = ext2 n w ++ [nxt2 (ext2 n w)]
  | 0, w => rfl
  | n + 1, w => by
    show ext2 (n + 1) (w ++ [nxt2 w]) = _
    rw [ext2_snoc n]
    rfl
theorem ext2_length : ∀ (n : Nat) (w : List W), (ext2 n w).length = w.length + n
  | 0, w => rfl
  | n + 1, w => by
    show (ext2 n (w ++ [nxt2 w])).length = _
    rw [ext2_length n, List.length_append, List.length_singleton]; omega
theorem words_length (p : List UInt8) : (words p).length = 16 := by simp [words]
theorem words_take (p : List UInt8) {k : Nat} (h : k < 16) : (words p).take (k + 1) = (words p).take k ++ [be p (4 * k)] := by
  have hl : k < (words p).length := by rw [words_length]; exact h
  rw [List.take_succ_eq_append_getElem hl]
  simp [words]
/-- The first k words of a schedule. -/
def E1 (p : List UInt8) (k : Nat) : List W := if k ≤ 16 then (words p).take k else ext1 (k - 16) (words p)
def E2 (p : List UInt8) (k : Nat) : List W := if k ≤ 16 then (words p).take k else ext2 (k - 16) (words p)
theorem E1_length (p : List UInt8) (k : Nat) : (E1 p k).length = k := by
  unfold E1
  split
  · rw [List.length_take, words_length]; omega
  · rw [ext1_length, words_length]; omega
theorem E2_length (p : List UInt8) (k : Nat) : (E2 p k).length = k := by
  unfold E2
  split
  · rw [List.length_take, words_length]; omega
  · rw [ext2_length, words_length]; omega
theorem E1_low (p : List UInt8) {k : Nat} (h : k < 16) : E1 p (k + 1) = E1 p k ++ [be p (4 * k)] := by
  unfold E1; rw [if_pos (by omega), if_pos (by omega), words_take p h]
theorem E2_low (p : List UInt8) {k : Nat} (h : k < 16) : E2 p (k + 1) = E2 p k ++ [be p (4 * k)] := by
  unfold E2; rw [if_pos (by omega), if_pos (by omega), words_take p h]
theorem E1_ext (p : List UInt8) {k : Nat} (h : 16 ≤ k) : E1 p k = ext1 (k - 16) (words p) := by
  unfold E1
  split
  · have : k = 16 := by omega
    subst this
    rw [List.take_of_length_le (by rw [words_length]; omega)]; rfl
  · rfl
theorem E2_ext (p : List UInt8) {k : Nat} (h : 16 ≤ k) : E2 p k = ext2 (k - 16) (words p) := by
  unfold E2
  split
  · have : k = 16 := by omega
    subst this
    rw [List.take_of_length_le (by rw [words_length]; omega)]; rfl
  · rfl
theorem E1_high (p : List UInt8) {k : Nat} (h : 16 ≤ k) : E1 p (k + 1) = E1 p k ++ [nxt1 (E1 p k)] := by
  rw [E1_ext p h, E1_ext p (by omega), show k + 1 - 16 = (k - 16) + 1 by omega, ext1_snoc]
theorem E2_high (p : List UInt8) {k : Nat} (h : 16 ≤ k) : E2 p (k + 1) = E2 p k ++ [nxt2 (E2 p k)] := by
  rw [E2_ext p h, E2_ext p (by omega), show k + 1 - 16 = (k - 16) + 1 by omega, ext2_snoc]
theorem nxt1_at {w : List W} {k : Nat} (h : w.length = k) : nxt1 w = rotl (w.getD (k - 3) 0 ^^^ w.getD (k - 8) 0 ^^^ w.getD (k - 14) 0 ^^^ w.getD (k - 16) 0) 1 := by unfold nxt1; rw [h]
theorem nxt2_at {w : List W} {k : Nat} (h : w.length = k) : nxt2 w = w.getD (k - 16) 0 + (rotl (w.getD (k - 15) 0) 25 ^^^ rotl (w.getD (k - 15) 0) 14 ^^^ w.getD (k - 15) 0 >>> 3) + w.getD (k - 7) 0 + (rotl (w.getD (k - 2) 0) 15 ^^^ rotl (w.getD (k - 2) 0) 13 ^^^ w.getD (k - 2) 0 >>> 10) := by
  unfold nxt2; rw [h]
theorem rds1_step {i : Nat} {l v : List W} (h : i < l.length) : rds1 i (l.drop i) v = rds1 (i + 1) (l.drop (i + 1)) (rd1 i (l.getD i 0) v) := by
  rw [List.drop_eq_getElem_cons h]
  simp [rds1, h]
end ShaM

/- Numbers of 32 and 64 bits as bit vectors. No condition. -/
set_option linter.unusedVariables false
namespace Vc
open Go
section
theorem u_of (x : BitVec 32) : BitVec.ofInt 32 (x.toNat : Int) = x := by
  rw [BitVec.ofInt_natCast]; simp
theorem u_wrap (x : BitVec 32) : IntKind.u32.wrap (x.toNat : Int) = (x.toNat : Int) := by
  have := x.isLt
  exact wrap_u32 (by omega) (by omega)
theorem u_add (x y : BitVec 32) : IntKind.u32.wrap ((x.toNat : Int) + (y.toNat : Int)) = ((x + y).toNat : Int) := by
  rw [wrap_u32_mod, BitVec.toNat_add]; omega
theorem u_shl (x : BitVec 32) (k : Nat) (hk : k ≤ 32) : IntKind.u32.wrap ((x.toNat : Int) * 2 ^ (min k 32)) = ((x <<< k).toNat : Int) := by
  have hp : (2 : Int) ^ k = ((2 ^ k : Nat) : Int) := by push_cast; rfl
  rw [Nat.min_eq_left hk, wrap_u32_mod, BitVec.toNat_shiftLeft, Nat.shiftLeft_eq, hp, ← Int.natCast_mul]
  generalize x.toNat * 2 ^ k = z
  show (z : Int) % 4294967296 = ((z % 4294967296 : Nat) : Int)
  omega
theorem u_shr (x : BitVec 32) (k : Nat) (hk : k ≤ 32) : Int.fdiv (x.toNat : Int) (2 ^ (min k 32)) = ((x >>> k).toNat : Int) := by
  have hp : (2 : Int) ^ k = ((2 ^ k : Nat) : Int) := by push_cast; rfl
  rw [Nat.min_eq_left hk, hp, Int.fdiv_eq_ediv_of_nonneg _ (Int.natCast_nonneg _), ← Int.natCast_ediv, BitVec.toNat_ushiftRight, Nat.shiftRight_eq_div_pow]
end
end Vc

/- Plain facts on bits of a text, the lowest of each byte first. -/
set_option linter.unusedVariables false
namespace BitsM
open Vc
/-- The first n bytes as a number, the first the lowest. -/
def V (s : ByteArray) : Nat → Nat
  | 0 => 0
  | n + 1 => V s n + byt s n * 2 ^ (8 * n)
theorem V_lt (s : ByteArray) : ∀ n, V s n < 2 ^ (8 * n)
  | 0 => by simp [V]
  | n + 1 => by
    have h := V_lt s n
    have hb := byt_lt s n
    have e : 2 ^ (8 * (n + 1)) = 256 * 2 ^ (8 * n) := by rw [Nat.mul_succ, Nat.pow_add]; omega
    have : byt s n * 2 ^ (8 * n) ≤ 255 * 2 ^ (8 * n) := Nat.mul_le_mul_right _ (by omega)
    simp only [V]; omega
/-- What is held: the bits from pos on of the first n bytes. -/
def held (s : ByteArray) (n pos : Nat) : Nat := V s n / 2 ^ pos
theorem held_lt (s : ByteArray) (n pos : Nat) (h : pos ≤ 8 * n) : held s n pos < 2 ^ (8 * n - pos) := by
  unfold held
  rw [Nat.div_lt_iff_lt_mul (Nat.two_pow_pos _), ← Nat.pow_add, Nat.sub_add_cancel h]
  exact V_lt s n
theorem held_succ (s : ByteArray) (n pos : Nat) (h : pos ≤ 8 * n) : held s (n + 1) pos = held s n pos + byt s n * 2 ^ (8 * n - pos) := by
  unfold held
  have e : 2 ^ (8 * n) = 2 ^ (8 * n - pos) * 2 ^ pos := by rw [← Nat.pow_add, Nat.sub_add_cancel h]
  simp only [V]
  rw [e, ← Nat.mul_assoc, Nat.add_mul_div_right _ _ (Nat.two_pow_pos _)]
theorem held_or (s : ByteArray) (n pos : Nat) (h : pos ≤ 8 * n) : held s n pos ||| byt s n * 2 ^ (8 * n - pos) = held s (n + 1) pos := by
  rw [held_succ s n pos h, Nat.or_comm, Nat.mul_comm, Nat.add_comm, ← Nat.two_pow_add_eq_or_of_lt (held_lt s n pos h)]
theorem held_skip (s : ByteArray) (n pos k : Nat) : held s n pos / 2 ^ k = held s n (pos + k) := by
  unfold held; rw [Nat.div_div_eq_div_mul, ← Nat.pow_add]
/-- The next k bits of the whole text, from pos on. -/
def nbits (s : ByteArray) (pos k : Nat) : Nat := V s s.size / 2 ^ pos % 2 ^ k
theorem V_split (s : ByteArray) (n : Nat) : ∀ d, ∃ q, V s (n + d) = V s n + q * 2 ^ (8 * n)
  | 0 => ⟨0, by simp⟩
  | d + 1 => by
    obtain ⟨q, hq⟩ := V_split s n d
    refine ⟨q + byt s (n + d) * 2 ^ (8 * d), ?_⟩
    show V s (n + d) + byt s (n + d) * 2 ^ (8 * (n + d)) = _
    rw [hq, Nat.add_mul, Nat.mul_assoc, ← Nat.pow_add]
    have : 8 * d + 8 * n = 8 * (n + d) := by omega
    rw [this]; omega
theorem held_bits (s : ByteArray) (n pos k : Nat) (hn : n ≤ s.size) (h : pos + k ≤ 8 * n ∨ n = s.size) : held s n pos % 2 ^ k = nbits s pos k := by
  rcases h with h | rfl
  · unfold held nbits
    obtain ⟨q, hq⟩ := V_split s n (s.size - n)
    rw [Nat.add_sub_cancel' hn] at hq
    rw [hq]
    have e : 2 ^ (8 * n) = 2 ^ (8 * n - pos - k) * 2 ^ k * 2 ^ pos := by
      rw [← Nat.pow_add, ← Nat.pow_add]; congr 1; omega
    rw [e, ← Nat.mul_assoc, ← Nat.mul_assoc, Nat.add_mul_div_right _ _ (Nat.two_pow_pos _)]
    rw [Nat.add_mul_mod_self_right]
  · rfl
theorem and_mask (x k : Nat) : x &&& (2 ^ k - 1) = x % 2 ^ k := Nat.and_two_pow_sub_one_eq_mod x k
end BitsM

/- Formulas of 9 Go functions of this seat (written by a program of the author's, vcgen.py), and that each is enough for the call. No condition. -/
set_option linter.unusedVariables false
namespace Go.Proofs.Ytoagdpjickippaa
open Go Vc Go.Proofs
set_option maxRecDepth 100000
/-- sha.word -/
def vc_sha_word (x0 : ByteArray) (w : World) (R : Value → World → Prop) : Prop :=
  (((0 : Int) ≤ (0 : Int) ∧
    0 < (↑(ByteArray.size x0) : Int)) ∧
   ((0 : Int) ≤ (24 : Int) ∧
    (((0 : Int) ≤ (1 : Int) ∧
      1 < (↑(ByteArray.size x0) : Int)) ∧
     ((0 : Int) ≤ (16 : Int) ∧
      (((0 : Int) ≤ (2 : Int) ∧
        2 < (↑(ByteArray.size x0) : Int)) ∧
       ((0 : Int) ≤ (8 : Int) ∧
        (((0 : Int) ≤ (3 : Int) ∧
          3 < (↑(ByteArray.size x0) : Int)) ∧
         ∀ w1 : World,
         (Drew w w1 →
           R (Value.int IntKind.u32 (IntKind.wrap IntKind.u32 (↑(BitVec.toNat (BitVec.ofInt 32 (IntKind.wrap IntKind.u32 (↑(BitVec.toNat (BitVec.ofInt 32 (IntKind.wrap IntKind.u32 (↑(BitVec.toNat (BitVec.ofInt 32 (IntKind.wrap IntKind.u32 (IntKind.wrap IntKind.u32 (byteAt x0 0) * 2 ^ min (Int.toNat 24) 32)) ||| BitVec.ofInt 32 (IntKind.wrap IntKind.u32 (IntKind.wrap IntKind.u32 (byteAt x0 1) * 2 ^ min (Int.toNat 16) 32)))) : Int)) ||| BitVec.ofInt 32 (IntKind.wrap IntKind.u32 (IntKind.wrap IntKind.u32 (byteAt x0 2) * 2 ^ min (Int.toNat 8) 32)))) : Int)) ||| BitVec.ofInt 32 (IntKind.wrap IntKind.u32 (byteAt x0 3)))) : Int))) w1))))))))
theorem vc_sha_word_ok {x0 : ByteArray} {w : World} {R : Value → World → Prop} {R' : Ending → World → Prop} (h : vc_sha_word x0 w R) (hR : ∀ v w', R v w' → R' (.returned v) w') :
    Calls Try.prog 76 #[.string x0] w R' :=
  calls_of_body (vs := [(.string x0, false)]) (ty := ty) (ann := ⟨[], [], [(1, .quiet)], []⟩) (c := Try.f76.body.getD .skip) (by kernel_rfl) Try.func76 (by kernel_rfl) (by kernel_rfl) (Eq.mp (by kernel_rfl) h) hR
/-- math/bits.RotateLeft32 -/
def vc_bits_RotateLeft32 (x0 : Int) (x1 : Int) (w : World) (R : Value → World → Prop) : Prop :=
  (0 ≤ IntKind.wrap IntKind.u64 (↑(BitVec.toNat (BitVec.ofInt 64 (IntKind.wrap IntKind.u64 x1) &&& BitVec.ofInt 64 31)) : Int) ∧
   (0 ≤ IntKind.wrap IntKind.u64 (32 - IntKind.wrap IntKind.u64 (↑(BitVec.toNat (BitVec.ofInt 64 (IntKind.wrap IntKind.u64 x1) &&& BitVec.ofInt 64 31)) : Int)) ∧
    R (Value.int IntKind.u32 (IntKind.wrap IntKind.u32 (↑(BitVec.toNat (BitVec.ofInt 32 (IntKind.wrap IntKind.u32 (x0 * 2 ^ min (Int.toNat (IntKind.wrap IntKind.u64 (↑(BitVec.toNat (BitVec.ofInt 64 (IntKind.wrap IntKind.u64 x1) &&& BitVec.ofInt 64 31)) : Int))) 32)) ||| BitVec.ofInt 32 (Int.fdiv x0 (2 ^ min (Int.toNat (IntKind.wrap IntKind.u64 (32 - IntKind.wrap IntKind.u64 (↑(BitVec.toNat (BitVec.ofInt 64 (IntKind.wrap IntKind.u64 x1) &&& BitVec.ofInt 64 31)) : Int)))) 32)))) : Int))) w))
theorem vc_bits_RotateLeft32_ok {x0 : Int} {x1 : Int} {w : World} {R : Value → World → Prop} {R' : Ending → World → Prop} (h : vc_bits_RotateLeft32 x0 x1 w R) (hR : ∀ v w', R v w' → R' (.returned v) w') :
    Calls Try.prog 77 #[.int .u32 x0, .int .i64 x1] w R' :=
  calls_of_body (vs := [(.int .u32 x0, false), (.int .i64 x1, false)]) (ty := ty) (ann := ⟨[], [], [], []⟩) (c := Try.f77.body.getD .skip) (by kernel_rfl) Try.func77 (by kernel_rfl) (by kernel_rfl) (Eq.mp (by kernel_rfl) h) hR
/-- sha.start1 -/
def vc_sha_start1 (w : World) (R : Value → World → Prop) : Prop :=
  ∀ w1 : World,
  (w1 = World.alloc w (Obj.cells (Array.mk [Value.int IntKind.u32 1732584193, Value.int IntKind.u32 4023233417, Value.int IntKind.u32 2562383102, Value.int IntKind.u32 271733878, Value.int IntKind.u32 3285377520]) 30) →
    R (Value.slice (some (Addr.mk (Array.size (World.heap w)) 0 none)) 5 5) w1)
theorem vc_sha_start1_ok {w : World} {R : Value → World → Prop} {R' : Ending → World → Prop} (h : vc_sha_start1 w R) (hR : ∀ v w', R v w' → R' (.returned v) w') :
    Calls Try.prog 68 #[] w R' :=
  calls_of_body (vs := []) (ty := ty) (ann := ⟨[], [], [], []⟩) (c := Try.f68.body.getD .skip) (by kernel_rfl) Try.func68 (by kernel_rfl) (by kernel_rfl) (Eq.mp (by kernel_rfl) h) hR
/-- sha.block1 -/
def vc_sha_block1 (x0a : Option Addr) (x0n : Nat) (x0c : Nat) (x1 : ByteArray) (w : World) (R : Value → World → Prop) : Prop :=
  ∀ w1 : World,
  (w1 = World.alloc w (Obj.cells (Array.mk [Value.int IntKind.u32 0, Value.int IntKind.u32 0, Value.int IntKind.u32 0, Value.int IntKind.u32 0, Value.int IntKind.u32 0, Value.int IntKind.u32 0, Value.int IntKind.u32 0, Value.int IntKind.u32 0, Value.int IntKind.u32 0, Value.int IntKind.u32 0, Value.int IntKind.u32 0, Value.int IntKind.u32 0, Value.int IntKind.u32 0, Value.int IntKind.u32 0, Value.int IntKind.u32 0, Value.int IntKind.u32 0, Value.int IntKind.u32 0, Value.int IntKind.u32 0, Value.int IntKind.u32 0, Value.int IntKind.u32 0, Value.int IntKind.u32 0, Value.int IntKind.u32 0, Value.int IntKind.u32 0, Value.int IntKind.u32 0, Value.int IntKind.u32 0, Value.int IntKind.u32 0, Value.int IntKind.u32 0, Value.int IntKind.u32 0, Value.int IntKind.u32 0, Value.int IntKind.u32 0, Value.int IntKind.u32 0, Value.int IntKind.u32 0, Value.int IntKind.u32 0, Value.int IntKind.u32 0, Value.int IntKind.u32 0, Value.int IntKind.u32 0, Value.int IntKind.u32 0, Value.int IntKind.u32 0, Value.int IntKind.u32 0, Value.int IntKind.u32 0, Value.int IntKind.u32 0, Value.int IntKind.u32 0, Value.int IntKind.u32 0, Value.int IntKind.u32 0, Value.int IntKind.u32 0, Value.int IntKind.u32 0, Value.int IntKind.u32 0, Value.int IntKind.u32 0, Value.int IntKind.u32 0, Value.int IntKind.u32 0, Value.int IntKind.u32 0, Value.int IntKind.u32 0, Value.int IntKind.u32 0, Value.int IntKind.u32 0, Value.int IntKind.u32 0, Value.int IntKind.u32 0, Value.int IntKind.u32 0, Value.int IntKind.u32 0, Value.int IntKind.u32 0, Value.int IntKind.u32 0, Value.int IntKind.u32 0, Value.int IntKind.u32 0, Value.int IntKind.u32 0, Value.int IntKind.u32 0, Value.int IntKind.u32 0, Value.int IntKind.u32 0, Value.int IntKind.u32 0, Value.int IntKind.u32 0, Value.int IntKind.u32 0, Value.int IntKind.u32 0, Value.int IntKind.u32 0, Value.int IntKind.u32 0, Value.int IntKind.u32 0, Value.int IntKind.u32 0, Value.int IntKind.u32 0, Value.int IntKind.u32 0, Value.int IntKind.u32 0, Value.int IntKind.u32 0, Value.int IntKind.u32 0, Value.int IntKind.u32 0]) 109) →
    ∃ I2 : Int → World → Prop, ∃ I3 : Int → World → Nat, (I2 0 w1 ∧
     ∀ n4 : Int,
     ∀ w5 : World,
     (I2 n4 w5 →
       (((decide (n4 < 80) = true →
          (((decide (n4 < 16) = true →
             ((0 ≤ IntKind.wrap IntKind.i64 (4 * n4) ∧
               IntKind.wrap IntKind.i64 (4 * n4) ≤ (↑(ByteArray.size x1) : Int)) ∧
              Calls Try.prog (76 : Nat) (Array.mk [Value.string (ByteArray.extract x1 (Int.toNat (IntKind.wrap IntKind.i64 (4 * n4))) (ByteArray.size x1))]) (w5) (fun e6 w7 =>
                ∃ n8 : Int, (e6 = Ending.returned (Value.int IntKind.u32 n8) ∧
                 ((0 ≤ n4 ∧
                   n4 < (↑80 : Int)) ∧
                  (Wr w7 (Addr.add (Addr.mk (Array.size (World.heap w)) 0 none) (Int.toNat n4 * 1)) ∧
                   ∀ w9 : World,
                   (w9 = World.setCell w7 (Addr.add (Addr.mk (Array.size (World.heap w)) 0 none) (Int.toNat n4 * 1)) (Value.int IntKind.u32 n8) →
                     (I2 (IntKind.wrap IntKind.i64 (n4 + 1)) w9 ∧
                      I3 (IntKind.wrap IntKind.i64 (n4 + 1)) w9 < I3 n4 w5))))))))) ∧
           (decide (n4 < 16) = false →
             ∀ w10 : World,
             (Drew w5 w10 →
               ∃ I11 : World → Prop, (I11 w10 ∧
                ((0 ≤ IntKind.wrap IntKind.i64 (n4 - 3) ∧
                  IntKind.wrap IntKind.i64 (n4 - 3) < (↑80 : Int)) ∧
                 ∃ n12 : Int, ((∀ w13 : World,
                  (I11 w13 →
                    World.cell? w13 (Addr.add (Addr.mk (Array.size (World.heap w)) 0 none) (Int.toNat (IntKind.wrap IntKind.i64 (n4 - 3)) * 1)) = some (Value.int IntKind.u32 n12))) ∧
                  ((0 ≤ IntKind.wrap IntKind.i64 (n4 - 8) ∧
                    IntKind.wrap IntKind.i64 (n4 - 8) < (↑80 : Int)) ∧
                   ∃ n14 : Int, ((∀ w15 : World,
                    (I11 w15 →
                      World.cell? w15 (Addr.add (Addr.mk (Array.size (World.heap w)) 0 none) (Int.toNat (IntKind.wrap IntKind.i64 (n4 - 8)) * 1)) = some (Value.int IntKind.u32 n14))) ∧
                    ((0 ≤ IntKind.wrap IntKind.i64 (n4 - 14) ∧
                      IntKind.wrap IntKind.i64 (n4 - 14) < (↑80 : Int)) ∧
                     ∃ n16 : Int, ((∀ w17 : World,
                      (I11 w17 →
                        World.cell? w17 (Addr.add (Addr.mk (Array.size (World.heap w)) 0 none) (Int.toNat (IntKind.wrap IntKind.i64 (n4 - 14)) * 1)) = some (Value.int IntKind.u32 n16))) ∧
                      ((0 ≤ IntKind.wrap IntKind.i64 (n4 - 16) ∧
                        IntKind.wrap IntKind.i64 (n4 - 16) < (↑80 : Int)) ∧
                       ∃ n18 : Int, ((∀ w19 : World,
                        (I11 w19 →
                          World.cell? w19 (Addr.add (Addr.mk (Array.size (World.heap w)) 0 none) (Int.toNat (IntKind.wrap IntKind.i64 (n4 - 16)) * 1)) = some (Value.int IntKind.u32 n18))) ∧
                        Calls Try.prog (77 : Nat) (Array.mk [Value.int IntKind.u32 (IntKind.wrap IntKind.u32 (↑(BitVec.toNat (BitVec.ofInt 32 (IntKind.wrap IntKind.u32 (↑(BitVec.toNat (BitVec.ofInt 32 (IntKind.wrap IntKind.u32 (↑(BitVec.toNat (BitVec.ofInt 32 n12 ^^^ BitVec.ofInt 32 n14)) : Int)) ^^^ BitVec.ofInt 32 n16)) : Int)) ^^^ BitVec.ofInt 32 n18)) : Int)), Value.int IntKind.i64 1]) (w10) (fun e20 w21 =>
                          ∃ n22 : Int, (e20 = Ending.returned (Value.int IntKind.u32 n22) ∧
                           (I11 w21 ∧
                            ((0 ≤ n4 ∧
                              n4 < (↑80 : Int)) ∧
                             (Wr w21 (Addr.add (Addr.mk (Array.size (World.heap w)) 0 none) (Int.toNat n4 * 1)) ∧
                              ∀ w23 : World,
                              (w23 = World.setCell w21 (Addr.add (Addr.mk (Array.size (World.heap w)) 0 none) (Int.toNat n4 * 1)) (Value.int IntKind.u32 n22) →
                                (I2 (IntKind.wrap IntKind.i64 (n4 + 1)) w23 ∧
                                 I3 (IntKind.wrap IntKind.i64 (n4 + 1)) w23 < I3 n4 w5))))))))))))))))))))) ∧
        (decide (n4 < 80) = false →
          (((0 : Int) ≤ (0 : Int) ∧
            0 < (↑x0n : Int)) ∧
           ∃ a24 : Addr, (x0a = some a24 ∧
            ∃ n25 : Int, (World.cell? w5 (Addr.add a24 (Int.toNat 0 * 1)) = some (Value.int IntKind.u32 n25) ∧
             (((0 : Int) ≤ (1 : Int) ∧
               1 < (↑x0n : Int)) ∧
              ∃ a26 : Addr, (x0a = some a26 ∧
               ∃ n27 : Int, (World.cell? w5 (Addr.add a26 (Int.toNat 1 * 1)) = some (Value.int IntKind.u32 n27) ∧
                (((0 : Int) ≤ (2 : Int) ∧
                  2 < (↑x0n : Int)) ∧
                 ∃ a28 : Addr, (x0a = some a28 ∧
                  ∃ n29 : Int, (World.cell? w5 (Addr.add a28 (Int.toNat 2 * 1)) = some (Value.int IntKind.u32 n29) ∧
                   (((0 : Int) ≤ (3 : Int) ∧
                     3 < (↑x0n : Int)) ∧
                    ∃ a30 : Addr, (x0a = some a30 ∧
                     ∃ n31 : Int, (World.cell? w5 (Addr.add a30 (Int.toNat 3 * 1)) = some (Value.int IntKind.u32 n31) ∧
                      (((0 : Int) ≤ (4 : Int) ∧
                        4 < (↑x0n : Int)) ∧
                       ∃ a32 : Addr, (x0a = some a32 ∧
                        ∃ n33 : Int, (World.cell? w5 (Addr.add a32 (Int.toNat 4 * 1)) = some (Value.int IntKind.u32 n33) ∧
                         ∀ w34 : World,
                         (Drew w5 w34 →
                           ∃ v35 : Value, (Sem.run Try.prog (loadVar 109 (Addr.mk (Array.size (World.heap w)) 0 none)) w34 = Result.ok v35 w34 ∧
                            ∃ I36 : Int → Int → Int → Int → Int → Int → World → Prop, ∃ I37 : Int → Int → Int → Int → Int → Int → World → Nat, (I36 n25 n27 n29 n31 n33 0 w34 ∧
                             ∀ n38 : Int,
                             ∀ n39 : Int,
                             ∀ n40 : Int,
                             ∀ n41 : Int,
                             ∀ n42 : Int,
                             ∀ n43 : Int,
                             ∀ w44 : World,
                             (I36 n38 n39 n40 n41 n42 n43 w44 →
                               (((decide (n43 < 80) = true →
                                  ∃ w45 : World, ∃ n46 : Int, (Sem.run Try.prog (Instr.index 109 v35 (Value.int IntKind.i64 n43)) w44 = Result.ok (Value.int IntKind.u32 n46) w45 ∧
                                   ∃ I47 : Int → Int → World → Prop, (((20 : Int) ≠ (0 : Int) ∧
                                     ((((IntKind.wrap IntKind.i64 (Int.tdiv n43 20) == 0) = true →
                                        (I47 (IntKind.wrap IntKind.u32 (↑(BitVec.toNat (BitVec.ofInt 32 (IntKind.wrap IntKind.u32 (↑(BitVec.toNat (BitVec.ofInt 32 n39 &&& BitVec.ofInt 32 n40)) : Int)) ||| BitVec.ofInt 32 (IntKind.wrap IntKind.u32 (↑(BitVec.toNat (BitVec.ofInt 32 (IntKind.wrap IntKind.u32 (↑(BitVec.toNat (BitVec.ofInt 32 (if IntKind.signed IntKind.u32 = true then -1 else Int.ofNat (2 ^ 32 - Nat.succ 0)) ^^^ BitVec.ofInt 32 n39)) : Int)) &&& BitVec.ofInt 32 n41)) : Int)))) : Int)) 1518500249 w45))) ∧
                                      ((IntKind.wrap IntKind.i64 (Int.tdiv n43 20) == 0) = false →
                                        ((((IntKind.wrap IntKind.i64 (Int.tdiv n43 20) == 1) = true →
                                           I47 (IntKind.wrap IntKind.u32 (↑(BitVec.toNat (BitVec.ofInt 32 (IntKind.wrap IntKind.u32 (↑(BitVec.toNat (BitVec.ofInt 32 n39 ^^^ BitVec.ofInt 32 n40)) : Int)) ^^^ BitVec.ofInt 32 n41)) : Int)) 1859775393 w45)) ∧
                                         ((IntKind.wrap IntKind.i64 (Int.tdiv n43 20) == 1) = false →
                                           ((((IntKind.wrap IntKind.i64 (Int.tdiv n43 20) == 2) = true →
                                              I47 (IntKind.wrap IntKind.u32 (↑(BitVec.toNat (BitVec.ofInt 32 (IntKind.wrap IntKind.u32 (↑(BitVec.toNat (BitVec.ofInt 32 (IntKind.wrap IntKind.u32 (↑(BitVec.toNat (BitVec.ofInt 32 n39 &&& BitVec.ofInt 32 n40)) : Int)) ||| BitVec.ofInt 32 (IntKind.wrap IntKind.u32 (↑(BitVec.toNat (BitVec.ofInt 32 n39 &&& BitVec.ofInt 32 n41)) : Int)))) : Int)) ||| BitVec.ofInt 32 (IntKind.wrap IntKind.u32 (↑(BitVec.toNat (BitVec.ofInt 32 n40 &&& BitVec.ofInt 32 n41)) : Int)))) : Int)) 2400959708 w45)) ∧
                                            ((IntKind.wrap IntKind.i64 (Int.tdiv n43 20) == 2) = false →
                                              I47 (IntKind.wrap IntKind.u32 (↑(BitVec.toNat (BitVec.ofInt 32 (IntKind.wrap IntKind.u32 (↑(BitVec.toNat (BitVec.ofInt 32 n39 ^^^ BitVec.ofInt 32 n40)) : Int)) ^^^ BitVec.ofInt 32 n41)) : Int)) 3395469782 w45))))))) ∧
                                    ∀ n48 : Int,
                                    ∀ n49 : Int,
                                    ∀ w50 : World,
                                    (I47 n48 n49 w50 →
                                      Calls Try.prog (77 : Nat) (Array.mk [Value.int IntKind.u32 n38, Value.int IntKind.i64 5]) (w50) (fun e51 w52 =>
                                        ∃ n53 : Int, (e51 = Ending.returned (Value.int IntKind.u32 n53) ∧
                                         Calls Try.prog (77 : Nat) (Array.mk [Value.int IntKind.u32 n39, Value.int IntKind.i64 30]) (w52) (fun e54 w55 =>
                                           ∃ n56 : Int, (e54 = Ending.returned (Value.int IntKind.u32 n56) ∧
                                            (I36 (IntKind.wrap IntKind.u32 (IntKind.wrap IntKind.u32 (IntKind.wrap IntKind.u32 (IntKind.wrap IntKind.u32 (n53 + n48) + n42) + n49) + n46)) n38 n56 n40 n41 (IntKind.wrap IntKind.i64 (n43 + 1)) w55 ∧
                                             I37 (IntKind.wrap IntKind.u32 (IntKind.wrap IntKind.u32 (IntKind.wrap IntKind.u32 (IntKind.wrap IntKind.u32 (n53 + n48) + n42) + n49) + n46)) n38 n56 n40 n41 (IntKind.wrap IntKind.i64 (n43 + 1)) w55 < I37 n38 n39 n40 n41 n42 n43 w44)))))))))) ∧
                                (decide (n43 < 80) = false →
                                  (((0 : Int) ≤ (0 : Int) ∧
                                    0 < (↑x0n : Int)) ∧
                                   ∃ a57 : Addr, (x0a = some a57 ∧
                                    ∃ n58 : Int, (World.cell? w44 (Addr.add a57 (Int.toNat 0 * 1)) = some (Value.int IntKind.u32 n58) ∧
                                     (((0 : Int) ≤ (0 : Int) ∧
                                       0 < (↑x0n : Int)) ∧
                                      ∃ a59 : Addr, (x0a = some a59 ∧
                                       (Wr w44 (Addr.add a59 (Int.toNat 0 * 1)) ∧
                                        ∀ w60 : World,
                                        (w60 = World.setCell w44 (Addr.add a59 (Int.toNat 0 * 1)) (Value.int IntKind.u32 (IntKind.wrap IntKind.u32 (n58 + n38))) →
                                          (((0 : Int) ≤ (1 : Int) ∧
                                            1 < (↑x0n : Int)) ∧
                                           ∃ a61 : Addr, (x0a = some a61 ∧
                                            ∃ n62 : Int, (World.cell? w60 (Addr.add a61 (Int.toNat 1 * 1)) = some (Value.int IntKind.u32 n62) ∧
                                             (((0 : Int) ≤ (1 : Int) ∧
                                               1 < (↑x0n : Int)) ∧
                                              ∃ a63 : Addr, (x0a = some a63 ∧
                                               (Wr w60 (Addr.add a63 (Int.toNat 1 * 1)) ∧
                                                ∀ w64 : World,
                                                (w64 = World.setCell w60 (Addr.add a63 (Int.toNat 1 * 1)) (Value.int IntKind.u32 (IntKind.wrap IntKind.u32 (n62 + n39))) →
                                                  (((0 : Int) ≤ (2 : Int) ∧
                                                    2 < (↑x0n : Int)) ∧
                                                   ∃ a65 : Addr, (x0a = some a65 ∧
                                                    ∃ n66 : Int, (World.cell? w64 (Addr.add a65 (Int.toNat 2 * 1)) = some (Value.int IntKind.u32 n66) ∧
                                                     (((0 : Int) ≤ (2 : Int) ∧
                                                       2 < (↑x0n : Int)) ∧
                                                      ∃ a67 : Addr, (x0a = some a67 ∧
                                                       (Wr w64 (Addr.add a67 (Int.toNat 2 * 1)) ∧
                                                        ∀ w68 : World,
                                                        (w68 = World.setCell w64 (Addr.add a67 (Int.toNat 2 * 1)) (Value.int IntKind.u32 (IntKind.wrap IntKind.u32 (n66 + n40))) →
                                                          (((0 : Int) ≤ (3 : Int) ∧
                                                            3 < (↑x0n : Int)) ∧
                                                           ∃ a69 : Addr, (x0a = some a69 ∧
                                                            ∃ n70 : Int, (World.cell? w68 (Addr.add a69 (Int.toNat 3 * 1)) = some (Value.int IntKind.u32 n70) ∧
                                                             (((0 : Int) ≤ (3 : Int) ∧
                                                               3 < (↑x0n : Int)) ∧
                                                              ∃ a71 : Addr, (x0a = some a71 ∧
                                                               (Wr w68 (Addr.add a71 (Int.toNat 3 * 1)) ∧
                                                                ∀ w72 : World,
                                                                (w72 = World.setCell w68 (Addr.add a71 (Int.toNat 3 * 1)) (Value.int IntKind.u32 (IntKind.wrap IntKind.u32 (n70 + n41))) →
                                                                  (((0 : Int) ≤ (4 : Int) ∧
                                                                    4 < (↑x0n : Int)) ∧
                                                                   ∃ a73 : Addr, (x0a = some a73 ∧
                                                                    ∃ n74 : Int, (World.cell? w72 (Addr.add a73 (Int.toNat 4 * 1)) = some (Value.int IntKind.u32 n74) ∧
                                                                     (((0 : Int) ≤ (4 : Int) ∧
                                                                       4 < (↑x0n : Int)) ∧
                                                                      ∃ a75 : Addr, (x0a = some a75 ∧
                                                                       (Wr w72 (Addr.add a75 (Int.toNat 4 * 1)) ∧
                                                                        ∀ w76 : World,
                                                                        (w76 = World.setCell w72 (Addr.add a75 (Int.toNat 4 * 1)) (Value.int IntKind.u32 (IntKind.wrap IntKind.u32 (n74 + n42))) →
                                                                          R (Value.tuple (Array.mk [])) w76)))))))))))))))))))))))))))))))))))))))))))))))))))))))))))))
theorem vc_sha_block1_ok {x0a : Option Addr} {x0n : Nat} {x0c : Nat} {x1 : ByteArray} {w : World} {R : Value → World → Prop} {R' : Ending → World → Prop} (h : vc_sha_block1 x0a x0n x0c x1 w R) (hR : ∀ v w', R v w' → R' (.returned v) w') :
    Calls Try.prog 69 #[.slice x0a x0n x0c, .string x1] w R' :=
  calls_of_body (vs := [(.slice x0a x0n x0c, false), (.string x1, false)]) (ty := ty) (ann := ⟨[(20, [(13, .int .u32), (14, .int .u32)])], [(2, [(15, .int .i64)]), (10, [(6, .int .u32), (7, .int .u32), (8, .int .u32), (9, .int .u32), (10, .int .u32), (66, .int .i64)])], [(6, .held [(0, true), (1, true), (2, true), (3, true), (4, true), (5, true), (6, true), (7, true), (8, true), (9, true), (10, true), (11, true), (12, true), (13, true), (14, true), (15, true), (16, true), (17, true), (18, true), (19, true), (20, false), (21, true), (22, false)]), (8, .quiet)], []⟩) (c := Try.f69.body.getD .skip) (by kernel_rfl) Try.func69 (by kernel_rfl) (by kernel_rfl) (Eq.mp (by kernel_rfl) h) hR
/-- (*sha.hash).write#1 -/
def vc_sha_hash_write_1 (x0 : Nat) (x1 : ByteArray) (x2a : Option Addr) (x2n : Nat) (x2c : Nat) (w : World) (R : Value → World → Prop) : Prop :=
  ∃ I1 : World → Prop, ((∃ l2 : Sl, (World.cell? w (Addr.mk x0 0 none) = some (Value.slice l2.1 l2.2 l2.3) ∧
    (((Option.isNone l2.1 = true →
       ∃ w3 : World, ∃ l4 : Sl, (Sem.run Try.prog (Builtin.append_ (Array.mk [77, 77]) 77 (Array.mk [Value.slice none 0 0, Value.slice x2a x2n x2c])) w = Result.ok (Value.slice l4.1 l4.2 l4.3) w3 ∧
        (Wr w3 (Addr.mk x0 0 none) ∧
         ∀ w5 : World,
         (w5 = World.setCell w3 (Addr.mk x0 0 none) (Value.slice l4.1 l4.2 l4.3) →
           I1 w5))))) ∧
     (Option.isNone l2.1 = false →
       I1 w)))) ∧
   ∀ w6 : World,
   (I1 w6 →
     ∃ n7 : Int, (World.cell? w6 (Addr.mk x0 2 none) = some (Value.int IntKind.u64 n7) ∧
      (Wr w6 (Addr.mk x0 2 none) ∧
       ∀ w8 : World,
       (w8 = World.setCell w6 (Addr.mk x0 2 none) (Value.int IntKind.u64 (IntKind.wrap IntKind.u64 (n7 + IntKind.wrap IntKind.u64 (↑(ByteArray.size x1) : Int)))) →
         ∃ s9 : ByteArray, (World.cell? w8 (Addr.mk x0 1 none) = some (Value.string s9) ∧
          (ByteArray.size s9 + ByteArray.size x1 ≤ 9223372036854775807 ∧
           ∃ I10 : ByteArray → World → Prop, ∃ I11 : ByteArray → World → Nat, (I10 (s9 ++ x1) w8 ∧
            ∀ s12 : ByteArray,
            ∀ w13 : World,
            (I10 s12 w13 →
              (((decide ((↑(ByteArray.size s12) : Int) ≥ 64) = true →
                 ∀ w14 : World,
                 (Drew w13 w14 →
                   ∃ I15 : World → Prop, (I15 w14 ∧
                    ∃ l16 : Sl, ((∀ w17 : World,
                     (I15 w17 →
                       World.cell? w17 (Addr.mk x0 0 none) = some (Value.slice l16.1 l16.2 l16.3))) ∧
                     (((0 : Int) ≤ (64 : Int) ∧
                       64 ≤ (↑(ByteArray.size s12) : Int)) ∧
                      Calls Try.prog (69 : FuncId) (Array.mk [Value.slice l16.1 l16.2 l16.3, Value.string (ByteArray.extract s12 0 (Int.toNat 64))]) (w14) (fun e18 w19 =>
                        (e18 = Ending.returned (Value.tuple (Array.mk [])) ∧
                         (((0 : Int) ≤ (64 : Int) ∧
                           64 ≤ (↑(ByteArray.size s12) : Int)) ∧
                          (I10 (ByteArray.extract s12 (Int.toNat 64) (ByteArray.size s12)) w19 ∧
                           I11 (ByteArray.extract s12 (Int.toNat 64) (ByteArray.size s12)) w19 < I11 s12 w13)))))))))) ∧
               (decide ((↑(ByteArray.size s12) : Int) ≥ 64) = false →
                 (Wr w13 (Addr.mk x0 1 none) ∧
                  ∀ w20 : World,
                  (w20 = World.setCell w13 (Addr.mk x0 1 none) (Value.string s12) →
                    R (Value.tuple (Array.mk [])) w20)))))))))))))
theorem vc_sha_hash_write_1_ok {x0 : Nat} {x1 : ByteArray} {x2a : Option Addr} {x2n : Nat} {x2c : Nat} {w : World} {R : Value → World → Prop} {R' : Ending → World → Prop} (h : vc_sha_hash_write_1 x0 x1 x2a x2n x2c w R) (hR : ∀ v w', R v w' → R' (.returned v) w') :
    Calls Try.prog 67 #[.pointer (some ⟨x0, 0, none⟩), .string x1, .slice x2a x2n x2c, .func (.func 69) #[] #[]] w R' :=
  calls_of_body (vs := [(.pointer (some ⟨x0, 0, none⟩), true), (.string x1, false), (.slice x2a x2n x2c, false), (.func (.func 69) #[] #[], false)]) (ty := ty) (ann := ⟨[(2, [])], [(4, [(1, .str)])], [(5, .held [(0, true), (1, true), (2, true), (3, true), (4, true), (5, true), (6, true), (7, false)])], []⟩) (c := Try.f67.body.getD .skip) (by kernel_rfl) Try.func67 (by kernel_rfl) (by kernel_rfl) (Eq.mp (by kernel_rfl) h) hR
/-- (*sha.hash).sum#1 -/
def vc_sha_hash_sum_1 (x0 : Nat) (x1a : Option Addr) (x1n : Nat) (x1c : Nat) (w : World) (R : Value → World → Prop) : Prop :=
  ∃ I1 : Addr → World → Prop, ((∀ w2 : World,
   (Drew w w2 →
     ∃ I3 : World → Prop, (I3 w2 ∧
      ∃ l4 : Sl, ((∀ w5 : World,
       (I3 w5 →
         World.cell? w5 (Addr.mk x0 0 none) = some (Value.slice l4.1 l4.2 l4.3))) ∧
       ∃ s6 : ByteArray, ((∀ w7 : World,
        (I3 w7 →
          World.cell? w7 (Addr.mk x0 1 none) = some (Value.string s6))) ∧
        ∃ n8 : Int, ((∀ w9 : World,
         (I3 w9 →
           World.cell? w9 (Addr.mk x0 2 none) = some (Value.int IntKind.u64 n8))) ∧
         ((∃ w10 : World, ∃ l11 : Sl, (Sem.run Try.prog (Builtin.append_ (Array.mk [77, 77]) 77 (Array.mk [Value.slice none 0 0, Value.slice l4.1 l4.2 l4.3])) w2 = Result.ok (Value.slice l11.1 l11.2 l11.3) w10 ∧
           (I3 w10 ∧
            ∀ w12 : World,
            (w12 = World.alloc w10 (Obj.cells (Array.mk [Value.slice none 0 0, Value.string (ByteArray.mk (Array.mk [])), Value.int IntKind.u64 0]) 79) →
              (I3 w12 ∧
               ∃ w13 : World, (Sem.run Try.prog (storeVar 79 (Addr.mk (Array.size (World.heap w10)) 0 none) (Value.agg (Array.mk [Value.slice l11.1 l11.2 l11.3, Value.string s6, Value.int IntKind.u64 n8]))) w12 = Result.ok PUnit.unit w13 ∧
                I1 (Addr.mk (Array.size (World.heap w10)) 0 none) w13)))))) ∧
          ∀ w14 : World,
          (w14 = World.alloc w2 (Obj.cells (Array.mk [Value.slice none 0 0, Value.string (ByteArray.mk (Array.mk [])), Value.int IntKind.u64 0]) 79) →
            (I3 w14 ∧
             ∃ w15 : World, ∃ l16 : Sl, (Sem.run Try.prog (Builtin.append_ (Array.mk [77, 77]) 77 (Array.mk [Value.slice none 0 0, Value.slice l4.1 l4.2 l4.3])) w14 = Result.ok (Value.slice l16.1 l16.2 l16.3) w15 ∧
              (I3 w15 ∧
               ∃ w17 : World, (Sem.run Try.prog (storeVar 79 (Addr.mk (Array.size (World.heap w2)) 0 none) (Value.agg (Array.mk [Value.slice l16.1 l16.2 l16.3, Value.string s6, Value.int IntKind.u64 n8]))) w15 = Result.ok PUnit.unit w17 ∧
                I1 (Addr.mk (Array.size (World.heap w2)) 0 none) w17)))))))))))) ∧
   ∀ a18 : Addr,
   ∀ w19 : World,
   (I1 a18 w19 →
     ∃ I20 : World → Prop, ((∃ l21 : Sl, (World.cell? w19 (Addr.mk x0 0 none) = some (Value.slice l21.1 l21.2 l21.3) ∧
       (((Option.isNone l21.1 = true →
          (Wr w19 a18 ∧
           ∀ w22 : World,
           (w22 = World.setCell w19 a18 (Value.slice none 0 0) →
             I20 w22)))) ∧
        (Option.isNone l21.1 = false →
          I20 w19)))) ∧
      ∀ w23 : World,
      (I20 w23 →
        ∃ I24 : ByteArray → World → Prop, ∃ I25 : ByteArray → World → Nat, (I24 (ByteArray.mk (Array.mk [128])) w23 ∧
         ∀ s26 : ByteArray,
         ∀ w27 : World,
         (I24 s26 w27 →
           ∃ s28 : ByteArray, (World.cell? w27 (Addr.mk x0 1 none) = some (Value.string s28) ∧
            ((64 : Int) ≠ (0 : Int) ∧
             ((((Int.tmod (IntKind.wrap IntKind.i64 ((↑(ByteArray.size s28) : Int) + (↑(ByteArray.size s26) : Int))) 64 != 56) = true →
                (ByteArray.size s26 + ByteArray.size (ByteArray.mk (Array.mk [0])) ≤ 9223372036854775807 ∧
                 (I24 (s26 ++ ByteArray.mk (Array.mk [0])) w27 ∧
                  I25 (s26 ++ ByteArray.mk (Array.mk [0])) w27 < I25 s26 w27)))) ∧
              ((Int.tmod (IntKind.wrap IntKind.i64 ((↑(ByteArray.size s28) : Int) + (↑(ByteArray.size s26) : Int))) 64 != 56) = false →
                ∃ I29 : Sl → Int → World → Prop, ∃ I30 : Sl → Int → World → Nat, (I29 (Sl.mk none 0 0) 56 w27 ∧
                 ∀ l31 : Sl,
                 ∀ n32 : Int,
                 ∀ w33 : World,
                 (I29 l31 n32 w33 →
                   (((decide (n32 ≥ 0) = true →
                      ∃ n34 : Int, (World.cell? w33 (Addr.mk x0 2 none) = some (Value.int IntKind.u64 n34) ∧
                       (0 ≤ n32 ∧
                        ∀ w35 : World,
                        (w35 = World.alloc w33 (Obj.cells (Array.mk [Value.int IntKind.u8 (IntKind.wrap IntKind.u8 (Int.fdiv (IntKind.wrap IntKind.u64 (n34 * 8)) (2 ^ min (Int.toNat n32) 64)))]) 5) →
                          ∃ w36 : World, ∃ l37 : Sl, (Sem.run Try.prog (Builtin.append_ (Array.mk [68, 68]) 68 (Array.mk [Value.slice l31.1 l31.2 l31.3, Value.slice (some (Addr.mk (Array.size (World.heap w33)) 0 none)) 1 1])) w35 = Result.ok (Value.slice l37.1 l37.2 l37.3) w36 ∧
                           (I29 (Sl.mk l37.1 l37.2 l37.3) (IntKind.wrap IntKind.i64 (n32 - 8)) w36 ∧
                            I30 (Sl.mk l37.1 l37.2 l37.3) (IntKind.wrap IntKind.i64 (n32 - 8)) w36 < I30 l31 n32 w33))))))) ∧
                    (decide (n32 ≥ 0) = false →
                      ∃ w38 : World, ∃ s39 : ByteArray, (Sem.run Try.prog (convert 68 9 (Value.slice l31.1 l31.2 l31.3)) w33 = Result.ok (Value.string s39) w38 ∧
                       (ByteArray.size s26 + ByteArray.size s39 ≤ 9223372036854775807 ∧
                        Calls Try.prog (67 : Nat) (Array.mk [Value.pointer (some a18), Value.string (s26 ++ s39), Value.slice x1a x1n x1c, Value.func (Fn.func 69) (Array.mk []) (Array.mk [])]) (w38) (fun e40 w41 =>
                          (e40 = Ending.returned (Value.tuple (Array.mk [])) ∧
                           ∃ l42 : Sl, (World.cell? w41 a18 = some (Value.slice l42.1 l42.2 l42.3) ∧
                            ∃ I43 : Sl → Int → World → Prop, ∃ I44 : Sl → Int → World → Nat, (I43 (Sl.mk none 0 0) 0 w41 ∧
                             ∀ l45 : Sl,
                             ∀ n46 : Int,
                             ∀ w47 : World,
                             (I43 l45 n46 w47 →
                               (((decide (n46 < (↑l42.2 : Int)) = true →
                                  ((0 ≤ n46 ∧
                                    n46 < (↑l42.2 : Int)) ∧
                                   ∃ a48 : Addr, (l42.1 = some a48 ∧
                                    ∃ n49 : Int, (World.cell? w47 (Addr.add a48 (Int.toNat n46 * 1)) = some (Value.int IntKind.u32 n49) ∧
                                     ((0 : Int) ≤ (24 : Int) ∧
                                      ((0 : Int) ≤ (16 : Int) ∧
                                       ((0 : Int) ≤ (8 : Int) ∧
                                        ∀ w50 : World,
                                        (w50 = World.alloc w47 (Obj.cells (Array.mk [Value.int IntKind.u8 (IntKind.wrap IntKind.u8 (Int.fdiv n49 (2 ^ min (Int.toNat 24) 32))), Value.int IntKind.u8 (IntKind.wrap IntKind.u8 (Int.fdiv n49 (2 ^ min (Int.toNat 16) 32))), Value.int IntKind.u8 (IntKind.wrap IntKind.u8 (Int.fdiv n49 (2 ^ min (Int.toNat 8) 32))), Value.int IntKind.u8 (IntKind.wrap IntKind.u8 n49)]) 5) →
                                          ∃ w51 : World, ∃ l52 : Sl, (Sem.run Try.prog (Builtin.append_ (Array.mk [68, 68]) 68 (Array.mk [Value.slice l45.1 l45.2 l45.3, Value.slice (some (Addr.mk (Array.size (World.heap w47)) 0 none)) 4 4])) w50 = Result.ok (Value.slice l52.1 l52.2 l52.3) w51 ∧
                                           (I43 (Sl.mk l52.1 l52.2 l52.3) (IntKind.wrap IntKind.i64 (n46 + 1)) w51 ∧
                                            I44 (Sl.mk l52.1 l52.2 l52.3) (IntKind.wrap IntKind.i64 (n46 + 1)) w51 < I44 l45 n46 w47))))))))))) ∧
                                (decide (n46 < (↑l42.2 : Int)) = false →
                                  ∃ w53 : World, ∃ s54 : ByteArray, (Sem.run Try.prog (convert 68 9 (Value.slice l45.1 l45.2 l45.3)) w47 = Result.ok (Value.string s54) w53 ∧
                                   R (Value.string s54) w53))))))))))))))))))))))))
theorem vc_sha_hash_sum_1_ok {x0 : Nat} {x1a : Option Addr} {x1n : Nat} {x1c : Nat} {w : World} {R : Value → World → Prop} {R' : Ending → World → Prop} (h : vc_sha_hash_sum_1 x0 x1a x1n x1c w R) (hR : ∀ v w', R v w' → R' (.returned v) w') :
    Calls Try.prog 70 #[.pointer (some ⟨x0, 0, none⟩), .slice x1a x1n x1c, .func (.func 69) #[] #[]] w R' :=
  calls_of_body (vs := [(.pointer (some ⟨x0, 0, none⟩), true), (.slice x1a x1n x1c, false), (.func (.func 69) #[] #[], false)]) (ty := ty) (ann := ⟨[(2, [(7, .addr)]), (4, [])], [(5, [(8, .str)]), (9, [(9, .slice), (10, .int .i64)]), (15, [(11, .slice), (71, .int .i64)])], [(1, .tree (.rd 0 (.rd 1 (.rd 2 (.rd 3 (.rd 5 (.rd 6 (.rd 7 (.rd 8 (.rd 9 (.rd 10 (.rd 11 (.rd 12 (.ef 4 (.rd 13 (.ef 14 (.ef 15 .done .done) .done)) (.ef 14 (.ef 4 (.rd 13 (.ef 15 .done .done)) .done) .done)))))))))))))))], []⟩) (c := Try.f70.body.getD .skip) (by kernel_rfl) Try.func70 (by kernel_rfl) (by kernel_rfl) (Eq.mp (by kernel_rfl) h) hR
/-- (*sha.Hash1).Write -/
def vc_sha_Hash1_Write (x0 : Nat) (x1 : ByteArray) (w : World) (R : Value → World → Prop) : Prop :=
  ∀ w1 : World,
  (Drew w w1 →
    ∃ I2 : World → Prop, (I2 w1 ∧
     Calls Try.prog (68 : Nat) (Array.mk []) (w1) (fun e3 w4 =>
       ∃ l5 : Sl, (e3 = Ending.returned (Value.slice l5.1 l5.2 l5.3) ∧
        (I2 w4 ∧
         Calls Try.prog (67 : Nat) (Array.mk [Value.pointer (some (Addr.mk x0 0 none)), Value.string x1, Value.slice l5.1 l5.2 l5.3, Value.func (Fn.func 69) (Array.mk []) (Array.mk [])]) (w4) (fun e6 w7 =>
           (e6 = Ending.returned (Value.tuple (Array.mk [])) ∧
            R (Value.tuple (Array.mk [])) w7)))))))
theorem vc_sha_Hash1_Write_ok {x0 : Nat} {x1 : ByteArray} {w : World} {R : Value → World → Prop} {R' : Ending → World → Prop} (h : vc_sha_Hash1_Write x0 x1 w R) (hR : ∀ v w', R v w' → R' (.returned v) w') :
    Calls Try.prog 46 #[.pointer (some ⟨x0, 0, none⟩), .string x1] w R' :=
  calls_of_body (vs := [(.pointer (some ⟨x0, 0, none⟩), true), (.string x1, false)]) (ty := ty) (ann := ⟨[], [], [(0, .held [(0, true), (1, true), (2, true), (3, true), (4, false), (5, false)])], []⟩) (c := Try.f46.body.getD .skip) (by kernel_rfl) Try.func46 (by kernel_rfl) (by kernel_rfl) (Eq.mp (by kernel_rfl) h) hR
/-- (*sha.Hash1).Sum -/
def vc_sha_Hash1_Sum (x0 : Nat) (w : World) (R : Value → World → Prop) : Prop :=
  ∀ w1 : World,
  (Drew w w1 →
    ∃ I2 : World → Prop, (I2 w1 ∧
     Calls Try.prog (68 : Nat) (Array.mk []) (w1) (fun e3 w4 =>
       ∃ l5 : Sl, (e3 = Ending.returned (Value.slice l5.1 l5.2 l5.3) ∧
        (I2 w4 ∧
         Calls Try.prog (70 : Nat) (Array.mk [Value.pointer (some (Addr.mk x0 0 none)), Value.slice l5.1 l5.2 l5.3, Value.func (Fn.func 69) (Array.mk []) (Array.mk [])]) (w4) (fun e6 w7 =>
           ∃ s8 : ByteArray, (e6 = Ending.returned (Value.string s8) ∧
            (I2 w7 ∧
             R (Value.string s8) w7))))))))
theorem vc_sha_Hash1_Sum_ok {x0 : Nat} {w : World} {R : Value → World → Prop} {R' : Ending → World → Prop} (h : vc_sha_Hash1_Sum x0 w R) (hR : ∀ v w', R v w' → R' (.returned v) w') :
    Calls Try.prog 47 #[.pointer (some ⟨x0, 0, none⟩)] w R' :=
  calls_of_body (vs := [(.pointer (some ⟨x0, 0, none⟩), true)]) (ty := ty) (ann := ⟨[], [], [(1, .held [(0, true), (1, true), (2, true), (3, false), (4, false), (5, true)])], []⟩) (c := Try.f47.body.getD .skip) (by kernel_rfl) Try.func47 (by kernel_rfl) (by kernel_rfl) (Eq.mp (by kernel_rfl) h) hR
/-- sha.Sum1 -/
def vc_sha_Sum1 (x0 : ByteArray) (w : World) (R : Value → World → Prop) : Prop :=
  ∀ w1 : World,
  (w1 = World.alloc w (Obj.cells (Array.mk [Value.slice none 0 0, Value.string (ByteArray.mk (Array.mk [])), Value.int IntKind.u64 0]) 81) →
    Calls Try.prog (46 : Nat) (Array.mk [Value.pointer (some (Addr.mk (Array.size (World.heap w)) 0 none)), Value.string x0]) (w1) (fun e2 w3 =>
      (e2 = Ending.returned (Value.tuple (Array.mk [])) ∧
       Calls Try.prog (47 : Nat) (Array.mk [Value.pointer (some (Addr.mk (Array.size (World.heap w)) 0 none))]) (w3) (fun e4 w5 =>
         ∃ s6 : ByteArray, (e4 = Ending.returned (Value.string s6) ∧
          R (Value.string s6) w5)))))
theorem vc_sha_Sum1_ok {x0 : ByteArray} {w : World} {R : Value → World → Prop} {R' : Ending → World → Prop} (h : vc_sha_Sum1 x0 w R) (hR : ∀ v w', R v w' → R' (.returned v) w') :
    Calls Try.prog 24 #[.string x0] w R' :=
  calls_of_body (vs := [(.string x0, false)]) (ty := ty) (ann := ⟨[], [], [], []⟩) (c := Try.f24.body.getD .skip) (by kernel_rfl) Try.func24 (by kernel_rfl) (by kernel_rfl) (Eq.mp (by kernel_rfl) h) hR
end Go.Proofs.Ytoagdpjickippaa

/- Formulas of 5 Go functions of this seat (written by a program of the author's, vcgen.py), and that each is enough for the call. No condition. -/
set_option linter.unusedVariables false
namespace Go.Proofs.Ytoagdpjickippaa
open Go Vc Go.Proofs
set_option maxRecDepth 100000
/-- cartularyref02.turn -/
def vc_cartularyref02_turn (x0 : Int) (x1 : Int) (w : World) (R : Value → World → Prop) : Prop :=
  (0 ≤ x1 ∧
   (0 ≤ IntKind.wrap IntKind.i64 (32 - x1) ∧
    ∀ w1 : World,
    (Drew w w1 →
      R (Value.int IntKind.u32 (IntKind.wrap IntKind.u32 (↑(BitVec.toNat (BitVec.ofInt 32 (IntKind.wrap IntKind.u32 (x0 * 2 ^ min (Int.toNat x1) 32)) ||| BitVec.ofInt 32 (Int.fdiv x0 (2 ^ min (Int.toNat (IntKind.wrap IntKind.i64 (32 - x1))) 32)))) : Int))) w1)))
theorem vc_cartularyref02_turn_ok {x0 : Int} {x1 : Int} {w : World} {R : Value → World → Prop} {R' : Ending → World → Prop} (h : vc_cartularyref02_turn x0 x1 w R) (hR : ∀ v w', R v w' → R' (.returned v) w') :
    Calls Try.prog 51 #[.int .u32 x0, .int .i64 x1] w R' :=
  calls_of_body (vs := [(.int .u32 x0, false), (.int .i64 x1, false)]) (ty := ty) (ann := ⟨[], [], [(1, .quiet)], []⟩) (c := Try.f51.body.getD .skip) (by kernel_rfl) Try.func51 (by kernel_rfl) (by kernel_rfl) (Eq.mp (by kernel_rfl) h) hR
/-- cartularyref02.Pad -/
def vc_cartularyref02_Pad (x0 : ByteArray) (w : World) (R : Value → World → Prop) : Prop :=
  ∃ w1 : World, ∃ l2 : Sl, (Sem.run Try.prog (convert 9 68 (Value.string x0)) w = Result.ok (Value.slice l2.1 l2.2 l2.3) w1 ∧
   ∀ w3 : World,
   (w3 = World.alloc w1 (Obj.cells (Array.mk [Value.int IntKind.u8 128]) 5) →
     ∃ w4 : World, ∃ l5 : Sl, (Sem.run Try.prog (Builtin.append_ (Array.mk [68, 68]) 68 (Array.mk [Value.slice l2.1 l2.2 l2.3, Value.slice (some (Addr.mk (Array.size (World.heap w1)) 0 none)) 1 1])) w3 = Result.ok (Value.slice l5.1 l5.2 l5.3) w4 ∧
      ∃ I6 : Sl → World → Prop, ∃ I7 : Sl → World → Nat, (I6 (Sl.mk l5.1 l5.2 l5.3) w4 ∧
       ∀ l8 : Sl,
       ∀ w9 : World,
       (I6 l8 w9 →
         ((64 : Int) ≠ (0 : Int) ∧
          ((((Int.tmod (↑l8.2 : Int) 64 != 56) = true →
             ∀ w10 : World,
             (w10 = World.alloc w9 (Obj.cells (Array.mk [Value.int IntKind.u8 0]) 5) →
               ∃ w11 : World, ∃ l12 : Sl, (Sem.run Try.prog (Builtin.append_ (Array.mk [68, 68]) 68 (Array.mk [Value.slice l8.1 l8.2 l8.3, Value.slice (some (Addr.mk (Array.size (World.heap w9)) 0 none)) 1 1])) w10 = Result.ok (Value.slice l12.1 l12.2 l12.3) w11 ∧
                (I6 (Sl.mk l12.1 l12.2 l12.3) w11 ∧
                 I7 (Sl.mk l12.1 l12.2 l12.3) w11 < I7 l8 w9))))) ∧
           ((Int.tmod (↑l8.2 : Int) 64 != 56) = false →
             ∃ I13 : Sl → Int → World → Prop, ∃ I14 : Sl → Int → World → Nat, (I13 (Sl.mk l8.1 l8.2 l8.3) 7 w9 ∧
              ∀ l15 : Sl,
              ∀ n16 : Int,
              ∀ w17 : World,
              (I13 l15 n16 w17 →
                (((decide (n16 ≥ 0) = true →
                   (0 ≤ IntKind.wrap IntKind.i64 (8 * n16) ∧
                    ∀ w18 : World,
                    (w18 = World.alloc w17 (Obj.cells (Array.mk [Value.int IntKind.u8 (IntKind.wrap IntKind.u8 (Int.fdiv (IntKind.wrap IntKind.u64 (IntKind.wrap IntKind.u64 (↑(ByteArray.size x0) : Int) * 8)) (2 ^ min (Int.toNat (IntKind.wrap IntKind.i64 (8 * n16))) 64)))]) 5) →
                      ∃ w19 : World, ∃ l20 : Sl, (Sem.run Try.prog (Builtin.append_ (Array.mk [68, 68]) 68 (Array.mk [Value.slice l15.1 l15.2 l15.3, Value.slice (some (Addr.mk (Array.size (World.heap w17)) 0 none)) 1 1])) w18 = Result.ok (Value.slice l20.1 l20.2 l20.3) w19 ∧
                       (I13 (Sl.mk l20.1 l20.2 l20.3) (IntKind.wrap IntKind.i64 (n16 - 1)) w19 ∧
                        I14 (Sl.mk l20.1 l20.2 l20.3) (IntKind.wrap IntKind.i64 (n16 - 1)) w19 < I14 l15 n16 w17)))))) ∧
                 (decide (n16 ≥ 0) = false →
                   R (Value.slice l15.1 l15.2 l15.3) w17))))))))))))
theorem vc_cartularyref02_Pad_ok {x0 : ByteArray} {w : World} {R : Value → World → Prop} {R' : Ending → World → Prop} (h : vc_cartularyref02_Pad x0 w R) (hR : ∀ v w', R v w' → R' (.returned v) w') :
    Calls Try.prog 49 #[.string x0] w R' :=
  calls_of_body (vs := [(.string x0, false)]) (ty := ty) (ann := ⟨[], [(2, [(3, .slice)]), (6, [(3, .slice), (5, .int .i64)])], [], []⟩) (c := Try.f49.body.getD .skip) (by kernel_rfl) Try.func49 (by kernel_rfl) (by kernel_rfl) (Eq.mp (by kernel_rfl) h) hR
/-- cartularyref02.words -/
def vc_cartularyref02_words (x0a : Option Addr) (x0n : Nat) (x0c : Nat) (w : World) (R : Value → World → Prop) : Prop :=
  ∀ w1 : World,
  (w1 = World.alloc w (Obj.cells (Array.mk []) 30) →
    ∃ I2 : Sl → Int → World → Prop, ∃ I3 : Sl → Int → World → Nat, (I2 (Sl.mk (some (Addr.mk (Array.size (World.heap w)) 0 none)) 0 0) 0 w1 ∧
     ∀ l4 : Sl,
     ∀ n5 : Int,
     ∀ w6 : World,
     (I2 l4 n5 w6 →
       (((decide (n5 < 64) = true →
          ∀ w7 : World,
          (Drew w6 w7 →
            ∃ I8 : World → Prop, (I8 w7 ∧
             ((0 ≤ n5 ∧
               n5 < (↑x0n : Int)) ∧
              ∃ a9 : Addr, (x0a = some a9 ∧
               ∃ n10 : Int, ((∀ w11 : World,
                (I8 w11 →
                  World.cell? w11 (Addr.add a9 (Int.toNat n5 * 1)) = some (Value.int IntKind.u8 n10))) ∧
                ((0 ≤ IntKind.wrap IntKind.i64 (n5 + 1) ∧
                  IntKind.wrap IntKind.i64 (n5 + 1) < (↑x0n : Int)) ∧
                 ∃ a12 : Addr, (x0a = some a12 ∧
                  ∃ n13 : Int, ((∀ w14 : World,
                   (I8 w14 →
                     World.cell? w14 (Addr.add a12 (Int.toNat (IntKind.wrap IntKind.i64 (n5 + 1)) * 1)) = some (Value.int IntKind.u8 n13))) ∧
                   ((0 ≤ IntKind.wrap IntKind.i64 (n5 + 2) ∧
                     IntKind.wrap IntKind.i64 (n5 + 2) < (↑x0n : Int)) ∧
                    ∃ a15 : Addr, (x0a = some a15 ∧
                     ∃ n16 : Int, ((∀ w17 : World,
                      (I8 w17 →
                        World.cell? w17 (Addr.add a15 (Int.toNat (IntKind.wrap IntKind.i64 (n5 + 2)) * 1)) = some (Value.int IntKind.u8 n16))) ∧
                      ((0 ≤ IntKind.wrap IntKind.i64 (n5 + 3) ∧
                        IntKind.wrap IntKind.i64 (n5 + 3) < (↑x0n : Int)) ∧
                       ∃ a18 : Addr, (x0a = some a18 ∧
                        ∃ n19 : Int, ((∀ w20 : World,
                         (I8 w20 →
                           World.cell? w20 (Addr.add a18 (Int.toNat (IntKind.wrap IntKind.i64 (n5 + 3)) * 1)) = some (Value.int IntKind.u8 n19))) ∧
                         ∀ w21 : World,
                         (w21 = World.alloc w7 (Obj.cells (Array.mk [Value.int IntKind.u32 (IntKind.wrap IntKind.u32 (IntKind.wrap IntKind.u32 (IntKind.wrap IntKind.u32 (IntKind.wrap IntKind.u32 (IntKind.wrap IntKind.u32 n10 * 16777216) + IntKind.wrap IntKind.u32 (IntKind.wrap IntKind.u32 n13 * 65536)) + IntKind.wrap IntKind.u32 (IntKind.wrap IntKind.u32 n16 * 256)) + IntKind.wrap IntKind.u32 n19))]) 30) →
                           (I8 w21 ∧
                            ∃ w22 : World, ∃ l23 : Sl, (Sem.run Try.prog (Builtin.append_ (Array.mk [77, 77]) 77 (Array.mk [Value.slice l4.1 l4.2 l4.3, Value.slice (some (Addr.mk (Array.size (World.heap w7)) 0 none)) 1 1])) w21 = Result.ok (Value.slice l23.1 l23.2 l23.3) w22 ∧
                             (I8 w22 ∧
                              (I2 (Sl.mk l23.1 l23.2 l23.3) (IntKind.wrap IntKind.i64 (n5 + 4)) w22 ∧
                               I3 (Sl.mk l23.1 l23.2 l23.3) (IntKind.wrap IntKind.i64 (n5 + 4)) w22 < I3 l4 n5 w6))))))))))))))))))))) ∧
        (decide (n5 < 64) = false →
          R (Value.slice l4.1 l4.2 l4.3) w6)))))
theorem vc_cartularyref02_words_ok {x0a : Option Addr} {x0n : Nat} {x0c : Nat} {w : World} {R : Value → World → Prop} {R' : Ending → World → Prop} (h : vc_cartularyref02_words x0a x0n x0c w R) (hR : ∀ v w', R v w' → R' (.returned v) w') :
    Calls Try.prog 50 #[.slice x0a x0n x0c] w R' :=
  calls_of_body (vs := [(.slice x0a x0n x0c, false)]) (ty := ty) (ann := ⟨[], [(3, [(3, .slice), (4, .int .i64)])], [(5, .held [(0, true), (1, true), (2, true), (3, true), (4, true), (5, true), (6, true), (7, true), (8, true), (9, true), (10, true), (11, true), (12, true), (13, true), (14, true), (15, true), (16, true), (17, true), (18, true), (19, true), (20, true), (21, true), (22, true), (23, true), (24, true), (25, true), (26, true), (27, true), (28, true), (29, true), (30, false), (31, false), (32, true)])], []⟩) (c := Try.f50.body.getD .skip) (by kernel_rfl) Try.func50 (by kernel_rfl) (by kernel_rfl) (Eq.mp (by kernel_rfl) h) hR
/-- cartularyref02.out -/
def vc_cartularyref02_out (x0a : Option Addr) (x0n : Nat) (x0c : Nat) (w : World) (R : Value → World → Prop) : Prop :=
  ∀ w1 : World,
  (w1 = World.alloc w (Obj.cells (Array.mk []) 5) →
    ∃ I2 : Sl → Int → World → Prop, ∃ I3 : Sl → Int → World → Nat, (I2 (Sl.mk (some (Addr.mk (Array.size (World.heap w)) 0 none)) 0 0) 0 w1 ∧
     ∀ l4 : Sl,
     ∀ n5 : Int,
     ∀ w6 : World,
     (I2 l4 n5 w6 →
       (((decide (n5 < (↑x0n : Int)) = true →
          ((0 ≤ n5 ∧
            n5 < (↑x0n : Int)) ∧
           ∃ a7 : Addr, (x0a = some a7 ∧
            ∃ n8 : Int, (World.cell? w6 (Addr.add a7 (Int.toNat n5 * 1)) = some (Value.int IntKind.u32 n8) ∧
             ((0 : Int) ≤ (24 : Int) ∧
              ((0 : Int) ≤ (16 : Int) ∧
               ((0 : Int) ≤ (8 : Int) ∧
                ∀ w9 : World,
                (w9 = World.alloc w6 (Obj.cells (Array.mk [Value.int IntKind.u8 (IntKind.wrap IntKind.u8 (Int.fdiv n8 (2 ^ min (Int.toNat 24) 32))), Value.int IntKind.u8 (IntKind.wrap IntKind.u8 (Int.fdiv n8 (2 ^ min (Int.toNat 16) 32))), Value.int IntKind.u8 (IntKind.wrap IntKind.u8 (Int.fdiv n8 (2 ^ min (Int.toNat 8) 32))), Value.int IntKind.u8 (IntKind.wrap IntKind.u8 n8)]) 5) →
                  ∃ w10 : World, ∃ l11 : Sl, (Sem.run Try.prog (Builtin.append_ (Array.mk [68, 68]) 68 (Array.mk [Value.slice l4.1 l4.2 l4.3, Value.slice (some (Addr.mk (Array.size (World.heap w6)) 0 none)) 4 4])) w9 = Result.ok (Value.slice l11.1 l11.2 l11.3) w10 ∧
                   (I2 (Sl.mk l11.1 l11.2 l11.3) (IntKind.wrap IntKind.i64 (n5 + 1)) w10 ∧
                    I3 (Sl.mk l11.1 l11.2 l11.3) (IntKind.wrap IntKind.i64 (n5 + 1)) w10 < I3 l4 n5 w6))))))))))) ∧
        (decide (n5 < (↑x0n : Int)) = false →
          ∃ w12 : World, ∃ s13 : ByteArray, (Sem.run Try.prog (convert 68 9 (Value.slice l4.1 l4.2 l4.3)) w6 = Result.ok (Value.string s13) w12 ∧
           R (Value.string s13) w12))))))
theorem vc_cartularyref02_out_ok {x0a : Option Addr} {x0n : Nat} {x0c : Nat} {w : World} {R : Value → World → Prop} {R' : Ending → World → Prop} (h : vc_cartularyref02_out x0a x0n x0c w R) (hR : ∀ v w', R v w' → R' (.returned v) w') :
    Calls Try.prog 52 #[.slice x0a x0n x0c] w R' :=
  calls_of_body (vs := [(.slice x0a x0n x0c, false)]) (ty := ty) (ann := ⟨[], [(3, [(3, .slice), (9, .int .i64)])], [], []⟩) (c := Try.f52.body.getD .skip) (by kernel_rfl) Try.func52 (by kernel_rfl) (by kernel_rfl) (Eq.mp (by kernel_rfl) h) hR
/-- cartularyref02.Sum1 -/
def vc_cartularyref02_Sum1 (x0 : ByteArray) (w : World) (R : Value → World → Prop) : Prop :=
  Calls Try.prog (49 : Nat) (Array.mk [Value.string x0]) (w) (fun e1 w2 =>
    ∃ l3 : Sl, (e1 = Ending.returned (Value.slice l3.1 l3.2 l3.3) ∧
     ∀ w4 : World,
     (w4 = World.alloc w2 (Obj.cells (Array.mk [Value.int IntKind.u32 1732584193, Value.int IntKind.u32 4023233417, Value.int IntKind.u32 2562383102, Value.int IntKind.u32 271733878, Value.int IntKind.u32 3285377520]) 30) →
       ∃ I5 : Sl → Int → World → Prop, ∃ I6 : Sl → Int → World → Nat, (I5 (Sl.mk (some (Addr.mk (Array.size (World.heap w2)) 0 none)) 5 5) 0 w4 ∧
        ∀ l7 : Sl,
        ∀ n8 : Int,
        ∀ w9 : World,
        (I5 l7 n8 w9 →
          (((decide (n8 < (↑l3.2 : Int)) = true →
             ((0 ≤ n8 ∧
               (n8 ≤ IntKind.wrap IntKind.i64 (n8 + 64) ∧
                IntKind.wrap IntKind.i64 (n8 + 64) ≤ (↑l3.3 : Int))) ∧
              Calls Try.prog (50 : Nat) (Array.mk [Value.slice (subA l3.1 l3.3 (Int.toNat n8) 1) (Int.toNat (IntKind.wrap IntKind.i64 (n8 + 64)) - Int.toNat n8) (l3.3 - Int.toNat n8)]) (w9) (fun e10 w11 =>
                ∃ l12 : Sl, (e10 = Ending.returned (Value.slice l12.1 l12.2 l12.3) ∧
                 ∃ I13 : Sl → Int → World → Prop, ∃ I14 : Sl → Int → World → Nat, (I13 (Sl.mk l12.1 l12.2 l12.3) 16 w11 ∧
                  ∀ l15 : Sl,
                  ∀ n16 : Int,
                  ∀ w17 : World,
                  (I13 l15 n16 w17 →
                    (((decide (n16 < 80) = true →
                       ∀ w18 : World,
                       (Drew w17 w18 →
                         ∃ I19 : World → Prop, (I19 w18 ∧
                          ((0 ≤ IntKind.wrap IntKind.i64 (n16 - 3) ∧
                            IntKind.wrap IntKind.i64 (n16 - 3) < (↑l15.2 : Int)) ∧
                           ∃ a20 : Addr, (l15.1 = some a20 ∧
                            ∃ n21 : Int, ((∀ w22 : World,
                             (I19 w22 →
                               World.cell? w22 (Addr.add a20 (Int.toNat (IntKind.wrap IntKind.i64 (n16 - 3)) * 1)) = some (Value.int IntKind.u32 n21))) ∧
                             ((0 ≤ IntKind.wrap IntKind.i64 (n16 - 8) ∧
                               IntKind.wrap IntKind.i64 (n16 - 8) < (↑l15.2 : Int)) ∧
                              ∃ a23 : Addr, (l15.1 = some a23 ∧
                               ∃ n24 : Int, ((∀ w25 : World,
                                (I19 w25 →
                                  World.cell? w25 (Addr.add a23 (Int.toNat (IntKind.wrap IntKind.i64 (n16 - 8)) * 1)) = some (Value.int IntKind.u32 n24))) ∧
                                ((0 ≤ IntKind.wrap IntKind.i64 (n16 - 14) ∧
                                  IntKind.wrap IntKind.i64 (n16 - 14) < (↑l15.2 : Int)) ∧
                                 ∃ a26 : Addr, (l15.1 = some a26 ∧
                                  ∃ n27 : Int, ((∀ w28 : World,
                                   (I19 w28 →
                                     World.cell? w28 (Addr.add a26 (Int.toNat (IntKind.wrap IntKind.i64 (n16 - 14)) * 1)) = some (Value.int IntKind.u32 n27))) ∧
                                   ((0 ≤ IntKind.wrap IntKind.i64 (n16 - 16) ∧
                                     IntKind.wrap IntKind.i64 (n16 - 16) < (↑l15.2 : Int)) ∧
                                    ∃ a29 : Addr, (l15.1 = some a29 ∧
                                     ∃ n30 : Int, ((∀ w31 : World,
                                      (I19 w31 →
                                        World.cell? w31 (Addr.add a29 (Int.toNat (IntKind.wrap IntKind.i64 (n16 - 16)) * 1)) = some (Value.int IntKind.u32 n30))) ∧
                                      Calls Try.prog (51 : Nat) (Array.mk [Value.int IntKind.u32 (IntKind.wrap IntKind.u32 (↑(BitVec.toNat (BitVec.ofInt 32 (IntKind.wrap IntKind.u32 (↑(BitVec.toNat (BitVec.ofInt 32 (IntKind.wrap IntKind.u32 (↑(BitVec.toNat (BitVec.ofInt 32 n21 ^^^ BitVec.ofInt 32 n24)) : Int)) ^^^ BitVec.ofInt 32 n27)) : Int)) ^^^ BitVec.ofInt 32 n30)) : Int)), Value.int IntKind.i64 1]) (w18) (fun e32 w33 =>
                                        ∃ n34 : Int, (e32 = Ending.returned (Value.int IntKind.u32 n34) ∧
                                         (I19 w33 ∧
                                          ∀ w35 : World,
                                          (w35 = World.alloc w33 (Obj.cells (Array.mk [Value.int IntKind.u32 n34]) 30) →
                                            (I19 w35 ∧
                                             ∃ w36 : World, ∃ l37 : Sl, (Sem.run Try.prog (Builtin.append_ (Array.mk [77, 77]) 77 (Array.mk [Value.slice l15.1 l15.2 l15.3, Value.slice (some (Addr.mk (Array.size (World.heap w33)) 0 none)) 1 1])) w35 = Result.ok (Value.slice l37.1 l37.2 l37.3) w36 ∧
                                              (I19 w36 ∧
                                               (I13 (Sl.mk l37.1 l37.2 l37.3) (IntKind.wrap IntKind.i64 (n16 + 1)) w36 ∧
                                                I14 (Sl.mk l37.1 l37.2 l37.3) (IntKind.wrap IntKind.i64 (n16 + 1)) w36 < I14 l15 n16 w17)))))))))))))))))))))))) ∧
                     (decide (n16 < 80) = false →
                       (((0 : Int) ≤ (0 : Int) ∧
                         0 < (↑l7.2 : Int)) ∧
                        ∃ a38 : Addr, (l7.1 = some a38 ∧
                         ∃ n39 : Int, (World.cell? w17 (Addr.add a38 (Int.toNat 0 * 1)) = some (Value.int IntKind.u32 n39) ∧
                          (((0 : Int) ≤ (1 : Int) ∧
                            1 < (↑l7.2 : Int)) ∧
                           ∃ a40 : Addr, (l7.1 = some a40 ∧
                            ∃ n41 : Int, (World.cell? w17 (Addr.add a40 (Int.toNat 1 * 1)) = some (Value.int IntKind.u32 n41) ∧
                             (((0 : Int) ≤ (2 : Int) ∧
                               2 < (↑l7.2 : Int)) ∧
                              ∃ a42 : Addr, (l7.1 = some a42 ∧
                               ∃ n43 : Int, (World.cell? w17 (Addr.add a42 (Int.toNat 2 * 1)) = some (Value.int IntKind.u32 n43) ∧
                                (((0 : Int) ≤ (3 : Int) ∧
                                  3 < (↑l7.2 : Int)) ∧
                                 ∃ a44 : Addr, (l7.1 = some a44 ∧
                                  ∃ n45 : Int, (World.cell? w17 (Addr.add a44 (Int.toNat 3 * 1)) = some (Value.int IntKind.u32 n45) ∧
                                   (((0 : Int) ≤ (4 : Int) ∧
                                     4 < (↑l7.2 : Int)) ∧
                                    ∃ a46 : Addr, (l7.1 = some a46 ∧
                                     ∃ n47 : Int, (World.cell? w17 (Addr.add a46 (Int.toNat 4 * 1)) = some (Value.int IntKind.u32 n47) ∧
                                      ∀ w48 : World,
                                      (Drew w17 w48 →
                                        ∃ I49 : Int → Int → Int → Int → Int → Int → World → Prop, ∃ I50 : Int → Int → Int → Int → Int → Int → World → Nat, (I49 n39 n41 n43 n45 n47 0 w48 ∧
                                         ∀ n51 : Int,
                                         ∀ n52 : Int,
                                         ∀ n53 : Int,
                                         ∀ n54 : Int,
                                         ∀ n55 : Int,
                                         ∀ n56 : Int,
                                         ∀ w57 : World,
                                         (I49 n51 n52 n53 n54 n55 n56 w57 →
                                           (((decide (n56 < 80) = true →
                                              ∃ I58 : Int → Int → World → Prop, ((((decide (n56 < 60) = true →
                                                  I58 (IntKind.wrap IntKind.u32 (↑(BitVec.toNat (BitVec.ofInt 32 (IntKind.wrap IntKind.u32 (↑(BitVec.toNat (BitVec.ofInt 32 (IntKind.wrap IntKind.u32 (↑(BitVec.toNat (BitVec.ofInt 32 n52 &&& BitVec.ofInt 32 n53)) : Int)) ||| BitVec.ofInt 32 (IntKind.wrap IntKind.u32 (↑(BitVec.toNat (BitVec.ofInt 32 n52 &&& BitVec.ofInt 32 n54)) : Int)))) : Int)) ||| BitVec.ofInt 32 (IntKind.wrap IntKind.u32 (↑(BitVec.toNat (BitVec.ofInt 32 n53 &&& BitVec.ofInt 32 n54)) : Int)))) : Int)) 2400959708 w57)) ∧
                                                (decide (n56 < 60) = false →
                                                  I58 (IntKind.wrap IntKind.u32 (↑(BitVec.toNat (BitVec.ofInt 32 (IntKind.wrap IntKind.u32 (↑(BitVec.toNat (BitVec.ofInt 32 n52 ^^^ BitVec.ofInt 32 n53)) : Int)) ^^^ BitVec.ofInt 32 n54)) : Int)) 3395469782 w57)) ∧
                                               ∀ n59 : Int,
                                               ∀ n60 : Int,
                                               ∀ w61 : World,
                                               (I58 n59 n60 w61 →
                                                 ∃ I62 : Int → Int → World → Prop, ((((decide (n56 < 40) = true →
                                                     I62 (IntKind.wrap IntKind.u32 (↑(BitVec.toNat (BitVec.ofInt 32 (IntKind.wrap IntKind.u32 (↑(BitVec.toNat (BitVec.ofInt 32 n52 ^^^ BitVec.ofInt 32 n53)) : Int)) ^^^ BitVec.ofInt 32 n54)) : Int)) 1859775393 w61)) ∧
                                                   (decide (n56 < 40) = false →
                                                     I62 n59 n60 w61)) ∧
                                                  ∀ n63 : Int,
                                                  ∀ n64 : Int,
                                                  ∀ w65 : World,
                                                  (I62 n63 n64 w65 →
                                                    ∃ I66 : Int → Int → World → Prop, ((((decide (n56 < 20) = true →
                                                        I66 (IntKind.wrap IntKind.u32 (↑(BitVec.toNat (BitVec.ofInt 32 (IntKind.wrap IntKind.u32 (↑(BitVec.toNat (BitVec.ofInt 32 n52 &&& BitVec.ofInt 32 n53)) : Int)) ||| BitVec.ofInt 32 (IntKind.wrap IntKind.u32 (↑(BitVec.toNat (BitVec.ofInt 32 (IntKind.wrap IntKind.u32 (↑(BitVec.toNat (BitVec.ofInt 32 n52 ^^^ BitVec.ofInt 32 4294967295)) : Int)) &&& BitVec.ofInt 32 n54)) : Int)))) : Int)) 1518500249 w65)) ∧
                                                      (decide (n56 < 20) = false →
                                                        I66 n63 n64 w65)) ∧
                                                     ∀ n67 : Int,
                                                     ∀ n68 : Int,
                                                     ∀ w69 : World,
                                                     (I66 n67 n68 w69 →
                                                       ∀ w70 : World,
                                                       (Drew w69 w70 →
                                                         ∃ I71 : World → Prop, (I71 w70 ∧
                                                          ((0 ≤ n56 ∧
                                                            n56 < (↑l15.2 : Int)) ∧
                                                           ∃ a72 : Addr, (l15.1 = some a72 ∧
                                                            ∃ n73 : Int, ((∀ w74 : World,
                                                             (I71 w74 →
                                                               World.cell? w74 (Addr.add a72 (Int.toNat n56 * 1)) = some (Value.int IntKind.u32 n73))) ∧
                                                             Calls Try.prog (51 : Nat) (Array.mk [Value.int IntKind.u32 n51, Value.int IntKind.i64 5]) (w70) (fun e75 w76 =>
                                                               ∃ n77 : Int, (e75 = Ending.returned (Value.int IntKind.u32 n77) ∧
                                                                (I71 w76 ∧
                                                                 Calls Try.prog (51 : Nat) (Array.mk [Value.int IntKind.u32 n52, Value.int IntKind.i64 30]) (w76) (fun e78 w79 =>
                                                                   ∃ n80 : Int, (e78 = Ending.returned (Value.int IntKind.u32 n80) ∧
                                                                    (I49 (IntKind.wrap IntKind.u32 (IntKind.wrap IntKind.u32 (IntKind.wrap IntKind.u32 (IntKind.wrap IntKind.u32 (n77 + n67) + n55) + n68) + n73)) n51 n80 n53 n54 (IntKind.wrap IntKind.i64 (n56 + 1)) w79 ∧
                                                                     I50 (IntKind.wrap IntKind.u32 (IntKind.wrap IntKind.u32 (IntKind.wrap IntKind.u32 (IntKind.wrap IntKind.u32 (n77 + n67) + n55) + n68) + n73)) n51 n80 n53 n54 (IntKind.wrap IntKind.i64 (n56 + 1)) w79 < I50 n51 n52 n53 n54 n55 n56 w57))))))))))))))))))) ∧
                                            (decide (n56 < 80) = false →
                                              ∀ w81 : World,
                                              (Drew w57 w81 →
                                                (((0 : Int) ≤ (0 : Int) ∧
                                                  0 < (↑l7.2 : Int)) ∧
                                                 ∃ a82 : Addr, (l7.1 = some a82 ∧
                                                  ∃ n83 : Int, (World.cell? w81 (Addr.add a82 (Int.toNat 0 * 1)) = some (Value.int IntKind.u32 n83) ∧
                                                   (((0 : Int) ≤ (1 : Int) ∧
                                                     1 < (↑l7.2 : Int)) ∧
                                                    ∃ a84 : Addr, (l7.1 = some a84 ∧
                                                     ∃ n85 : Int, (World.cell? w81 (Addr.add a84 (Int.toNat 1 * 1)) = some (Value.int IntKind.u32 n85) ∧
                                                      (((0 : Int) ≤ (2 : Int) ∧
                                                        2 < (↑l7.2 : Int)) ∧
                                                       ∃ a86 : Addr, (l7.1 = some a86 ∧
                                                        ∃ n87 : Int, (World.cell? w81 (Addr.add a86 (Int.toNat 2 * 1)) = some (Value.int IntKind.u32 n87) ∧
                                                         (((0 : Int) ≤ (3 : Int) ∧
                                                           3 < (↑l7.2 : Int)) ∧
                                                          ∃ a88 : Addr, (l7.1 = some a88 ∧
                                                           ∃ n89 : Int, (World.cell? w81 (Addr.add a88 (Int.toNat 3 * 1)) = some (Value.int IntKind.u32 n89) ∧
                                                            (((0 : Int) ≤ (4 : Int) ∧
                                                              4 < (↑l7.2 : Int)) ∧
                                                             ∃ a90 : Addr, (l7.1 = some a90 ∧
                                                              ∃ n91 : Int, (World.cell? w81 (Addr.add a90 (Int.toNat 4 * 1)) = some (Value.int IntKind.u32 n91) ∧
                                                               ∀ w92 : World,
                                                               (w92 = World.alloc w81 (Obj.cells (Array.mk [Value.int IntKind.u32 (IntKind.wrap IntKind.u32 (n83 + n51)), Value.int IntKind.u32 (IntKind.wrap IntKind.u32 (n85 + n52)), Value.int IntKind.u32 (IntKind.wrap IntKind.u32 (n87 + n53)), Value.int IntKind.u32 (IntKind.wrap IntKind.u32 (n89 + n54)), Value.int IntKind.u32 (IntKind.wrap IntKind.u32 (n91 + n55))]) 30) →
                                                                 (I5 (Sl.mk (some (Addr.mk (Array.size (World.heap w81)) 0 none)) 5 5) (IntKind.wrap IntKind.i64 (n8 + 64)) w92 ∧
                                                                  I6 (Sl.mk (some (Addr.mk (Array.size (World.heap w81)) 0 none)) 5 5) (IntKind.wrap IntKind.i64 (n8 + 64)) w92 < I6 l7 n8 w9))))))))))))))))))))))))))))))))))))))))))))))) ∧
           (decide (n8 < (↑l3.2 : Int)) = false →
             Calls Try.prog (52 : Nat) (Array.mk [Value.slice l7.1 l7.2 l7.3]) (w9) (fun e93 w94 =>
               ∃ s95 : ByteArray, (e93 = Ending.returned (Value.string s95) ∧
                R (Value.string s95) w94)))))))))
theorem vc_cartularyref02_Sum1_ok {x0 : ByteArray} {w : World} {R : Value → World → Prop} {R' : Ending → World → Prop} (h : vc_cartularyref02_Sum1 x0 w R) (hR : ∀ v w', R v w' → R' (.returned v) w') :
    Calls Try.prog 34 #[.string x0] w R' :=
  calls_of_body (vs := [(.string x0, false)]) (ty := ty) (ann := ⟨[(19, [(14, .int .u32), (15, .int .u32)]), (22, [(14, .int .u32), (15, .int .u32)]), (25, [(14, .int .u32), (15, .int .u32)])], [(4, [(4, .slice), (5, .int .i64)]), (8, [(6, .slice), (7, .int .i64)]), (13, [(8, .int .u32), (9, .int .u32), (10, .int .u32), (11, .int .u32), (12, .int .u32), (13, .int .i64)])], [(10, .held [(0, true), (1, true), (2, true), (3, true), (4, true), (5, true), (6, true), (7, true), (8, true), (9, true), (10, true), (11, true), (12, true), (13, true), (14, true), (15, true), (16, true), (17, true), (18, true), (19, true), (20, true), (21, true), (22, true), (23, true), (24, false), (25, false), (26, false), (27, true)]), (11, .quiet), (25, .held [(0, true), (2, true), (4, true), (6, true), (8, true), (9, true), (10, true), (11, true), (1, false), (3, true), (5, true), (7, true), (12, true), (13, true)]), (31, .tail 25)], []⟩) (c := Try.f34.body.getD .skip) (by kernel_rfl) Try.func34 (by kernel_rfl) (by kernel_rfl) (Eq.mp (by kernel_rfl) h) hR
end Go.Proofs.Ytoagdpjickippaa

/- What the small functions of the package sha and of its reference do. Conditions: a word's text has four bytes; a turn is by less than 32. -/
set_option linter.unusedVariables false
namespace Go.Proofs.Ytoagdpjickippaa
open Go Vc ShaM Go.Proofs

theorem elU32 : El Try.prog T_S_uint32 T_uint32 (.int .u32 0) 4 := ⟨by kernel_rfl, by kernel_rfl, rfl⟩
abbrev uv (l : List W) : List Value := l.map (fun x : W => Value.int .u32 (x.toNat : Int))
theorem uv_get {l : List W} {i : Nat} (h : i < l.length) : (uv l)[i]? = some (.int .u32 ((l.getD i 0).toNat : Int)) := by
  simp only [uv, List.getElem?_map, List.getElem?_eq_getElem h, Option.map_some, List.getD_eq_getElem?_getD, Option.getD_some]
theorem uv_len (l : List W) : (uv l).length = l.length := List.length_map ..
/-- An element of an array by value. -/
theorem index_agg {P : Program} {w : World} (t e : TypeId) (n : Nat) (cs : List Value) (k : IntKind) (i : Nat) (h : P.underlying t = some (.array n e)) (hs : (P.info? e).map (·.size) = some 1) (hl : cs.length = n) (hin : i < n) (ho : one P e = true) :
    (Instr.index t (.agg cs.toArray) (.int k (i : Int))).run P w = .ok (cs.getD i undef) w := by
  obtain ⟨ie, hie, hsz⟩ := Option.map_eq_some_iff.1 hs
  have hn : 0 ≤ (i : Int) ∧ (i : Int) < (n : Int) := by omega
  have hsize : ∀ w, (Go.sizeOf e).run P w = .ok 1 w := fun w => by simp [Go.sizeOf, typeInfo, hie, hsz]
  have hi : i < cs.length := by omega
  simp [Instr.index, run_underlying h, asIntOf, hin, go_sem, hsize, run_isAgg ho, Result.andThen, hi]

theorem word_spec (s : ByteArray) (h : 4 ≤ s.size) (w : World) : Calls Try.prog F_sha_word #[.string s] w fun e w' => e = .returned (.int .u32 ((be s.data.toList 0).toNat : Int)) ∧ Drew w w' := by
  refine vc_sha_word_ok (R := fun v w' => v = .int .u32 ((be s.data.toList 0).toNat : Int) ∧ Drew w w') ?_ (fun v w' h => ⟨by rw [h.1], h.2⟩)
  refine ⟨⟨by decide, by omega⟩, by decide, ⟨by decide, by omega⟩, by decide, ⟨by decide, by omega⟩, by decide, ⟨by decide, by omega⟩, fun w1 d => ⟨?_, d⟩⟩
  have b0 := byteAt_nat s 0
  have b1 := byteAt_nat s 1
  have b2 := byteAt_nat s 2
  have b3 := byteAt_nat s 3
  have l0 := byt_lt s 0
  have l1 := byt_lt s 1
  have l2 := byt_lt s 2
  have l3 := byt_lt s 3
  have e : (be s.data.toList 0).toNat = byt s 0 * 16777216 + byt s 1 * 65536 + byt s 2 * 256 + byt s 3 := by
    unfold be byt
    rw [BitVec.toNat_ofNat]
    simp only [List.getD_eq_getElem?_getD, Nat.zero_add]
    unfold byt at l0 l1 l2 l3
    exact Nat.mod_eq_of_lt (by omega)
  rw [show byteAt s 0 = (byt s 0 : Int) from b0, show byteAt s 1 = (byt s 1 : Int) from b1, show byteAt s 2 = (byt s 2 : Int) from b2, show byteAt s 3 = (byt s 3 : Int) from b3, e]
  revert l0 l1 l2 l3
  generalize byt s 0 = a0
  generalize byt s 1 = a1
  generalize byt s 2 = a2
  generalize byt s 3 = a3
  intro l0 l1 l2 l3
  have p24 : (2 : Int) ^ min (Int.toNat 24) 32 = 16777216 := rfl
  have p16 : (2 : Int) ^ min (Int.toNat 16) 32 = 65536 := rfl
  have p8 : (2 : Int) ^ min (Int.toNat 8) 32 = 256 := rfl
  have m0 : IntKind.u32.wrap (IntKind.u32.wrap (a0 : Int) * 16777216) = ((a0 * 16777216 : Nat) : Int) := by rw [wrap_u32 (x := (a0 : Int)) (by omega) (by omega), wrap_u32 (by omega) (by omega)]; omega
  have m1 : IntKind.u32.wrap (IntKind.u32.wrap (a1 : Int) * 65536) = ((a1 * 65536 : Nat) : Int) := by rw [wrap_u32 (x := (a1 : Int)) (by omega) (by omega), wrap_u32 (by omega) (by omega)]; omega
  have m2 : IntKind.u32.wrap (IntKind.u32.wrap (a2 : Int) * 256) = ((a2 * 256 : Nat) : Int) := by rw [wrap_u32 (x := (a2 : Int)) (by omega) (by omega), wrap_u32 (by omega) (by omega)]; omega
  have o1 : (a0 * 16777216) ||| (a1 * 65536) = a0 * 16777216 + a1 * 65536 := by
    have := Nat.two_pow_add_eq_or_of_lt (i := 24) (b := a1 * 65536) (by omega) a0
    rw [Nat.mul_comm] at this; exact this.symm
  have o2 : (a0 * 16777216 + a1 * 65536) ||| (a2 * 256) = a0 * 16777216 + a1 * 65536 + a2 * 256 := by
    have := Nat.two_pow_add_eq_or_of_lt (i := 16) (b := a2 * 256) (by omega) (a0 * 256 + a1)
    rw [show 2 ^ 16 * (a0 * 256 + a1) = a0 * 16777216 + a1 * 65536 by omega] at this; exact this.symm
  have o3 : (a0 * 16777216 + a1 * 65536 + a2 * 256) ||| a3 = a0 * 16777216 + a1 * 65536 + a2 * 256 + a3 := by
    have := Nat.two_pow_add_eq_or_of_lt (i := 8) (b := a3) (by omega) (a0 * 65536 + a1 * 256 + a2)
    rw [show 2 ^ 8 * (a0 * 65536 + a1 * 256 + a2) = a0 * 16777216 + a1 * 65536 + a2 * 256 by omega] at this; exact this.symm
  rw [p24, p16, p8, m0, m1, m2, wrap_u32 (x := (a3 : Int)) (by omega) (by omega), or_nat 32 _ _ (by omega) (by omega), o1, wrap_u32 (x := ((a0 * 16777216 + a1 * 65536 : Nat) : Int)) (by omega) (by omega),
    or_nat 32 _ _ (by omega) (by omega), o2, wrap_u32 (x := ((a0 * 16777216 + a1 * 65536 + a2 * 256 : Nat) : Int)) (by omega) (by omega), or_nat 32 _ _ (by omega) (by omega), o3, wrap_u32 (by omega) (by omega)]

theorem rot_eq (x : W) {s : Nat} (h : s < 32) : IntKind.u32.wrap (↑((BitVec.ofInt 32 (IntKind.u32.wrap ((x.toNat : Int) * 2 ^ min s 32)) ||| BitVec.ofInt 32 (Int.fdiv (x.toNat : Int) (2 ^ min (32 - s) 32))).toNat) : Int) = ((rotl x s).toNat : Int) := by
  rw [u_shl x s (by omega), u_shr x (32 - s) (by omega), u_of, u_of, u_wrap]; rfl

theorem rot_spec (x : W) (k : Int) (s : Nat) (hs : s < 32) (hk : k % 18446744073709551616 % 32 = (s : Int)) (w : World) :
    Calls Try.prog F_bits_RotateLeft32 #[.int .u32 (x.toNat : Int), .int .i64 k] w fun e w' => e = .returned (.int .u32 ((rotl x s).toNat : Int)) ∧ w' = w := by
  refine vc_bits_RotateLeft32_ok (R := fun v w' => v = .int .u32 ((rotl x s).toNat : Int) ∧ w' = w) ?_ (fun v w' h => ⟨by rw [h.1], h.2⟩)
  rw [vc_bits_RotateLeft32, wrap_u64_mod k]
  obtain ⟨n, hn⟩ := Int.eq_ofNat_of_zero_le (Int.emod_nonneg k (show (18446744073709551616 : Int) ≠ 0 by decide))
  have hlt : k % 18446744073709551616 < 18446744073709551616 := Int.emod_lt_of_pos _ (by decide)
  rw [hn] at hk hlt ⊢
  have e1 : (BitVec.ofInt 64 31) = BitVec.ofInt 64 ((31 : Nat) : Int) := rfl
  have e2 : n &&& 31 = s := by
    have := Nat.and_two_pow_sub_one_eq_mod n 5
    rw [show 2 ^ 5 - 1 = 31 from rfl] at this
    rw [this]; omega
  rw [e1, and_nat 64 _ _ (by omega) (by omega), e2, wrap_u64 (x := (s : Int)) (by omega) (by omega), wrap_u64 (x := 32 - (s : Int)) (by omega) (by omega)]
  refine ⟨by omega, by omega, ?_, rfl⟩
  rw [Int.toNat_natCast, show (32 - (s : Int)).toNat = 32 - s by omega, rot_eq x hs]

theorem turn2_spec (x : W) (s : Nat) (hs : s < 32) (w : World) :
    Calls Try.prog F_cartularyref02_turn #[.int .u32 (x.toNat : Int), .int .i64 (s : Int)] w fun e w' => e = .returned (.int .u32 ((rotl x s).toNat : Int)) ∧ Drew w w' := by
  refine vc_cartularyref02_turn_ok (R := fun v w' => v = .int .u32 ((rotl x s).toNat : Int) ∧ Drew w w') ?_ (fun v w' h => ⟨by rw [h.1], h.2⟩)
  rw [vc_cartularyref02_turn, wrap_i64 (x := 32 - (s : Int)) (by omega) (by omega)]
  refine ⟨by omega, by omega, fun w1 d => ⟨?_, d⟩⟩
  rw [Int.toNat_natCast, show (32 - (s : Int)).toNat = 32 - s by omega, rot_eq x hs]
end Go.Proofs.Ytoagdpjickippaa

/- What block1 of the package sha does. Conditions: the words are five, in a slice of the call's own; the text has 64 bytes. -/
set_option linter.unusedVariables false
namespace Go.Proofs.Ytoagdpjickippaa
open Go Vc ShaM Go.Proofs

theorem ext_toList (s : ByteArray) (a b : Nat) : (s.extract a b).data.toList = (s.data.toList.drop a).take (b - a) := by
  rw [ByteArray.data_extract, Array.toList_extract]
theorem be_drop (l : List UInt8) (a : Nat) : be (l.drop a) 0 = be l a := by
  unfold be; simp [List.getD_eq_getElem?_getD, List.getElem?_drop]
theorem neg32 : BitVec.ofInt 32 (if IntKind.signed IntKind.u32 = true then -1 else Int.ofNat (2 ^ 32 - Nat.succ 0)) = BitVec.allOnes 32 := by decide
theorem ones32 : BitVec.ofInt 32 4294967295 = BitVec.allOnes 32 := by decide

/-- The array of a schedule while it is made. -/
def arr (E : Nat → List W) (n k : Nat) : List W := E k ++ List.replicate (n - k) 0
theorem arr_set {E : Nat → List W} {n k : Nat} {x : W} (hE : (E k).length = k) (hk : k < n) (h : E (k + 1) = E k ++ [x]) : (arr E n k).set k x = arr E n (k + 1) := by
  unfold arr
  rw [List.set_append_right _ _ (by omega), hE, Nat.sub_self, h, List.append_assoc, show n - k = (n - (k + 1)) + 1 by omega, List.replicate_succ]
  rfl
theorem arr_length {E : Nat → List W} {n k : Nat} (hE : (E k).length = k) (hk : k ≤ n) : (arr E n k).length = n := by
  unfold arr; rw [List.length_append, List.length_replicate]; omega
theorem arr_getD {E : Nat → List W} {n k j : Nat} (hE : (E k).length = k) (hj : j < k) : (arr E n k).getD j 0 = (E k).getD j 0 := by
  unfold arr
  rw [List.getD_eq_getElem?_getD, List.getElem?_append_left (by omega), List.getD_eq_getElem?_getD]
theorem own_get {w : World} {base : Nat} {e : TypeId} {l : Sl} {xs : List W} (h : Own w base e l (uv xs)) {i : Nat} (hi : i < xs.length) : ∃ x, l.a = some x ∧ w.cell? (x.add i) = some (.int .u32 ((xs.getD i 0).toNat : Int)) :=
  h.reads i _ (uv_get hi)
theorem own_put {w : World} {base : Nat} {e : TypeId} {l : Sl} {xs : List W} (h : Own w base e l (uv xs)) {i : Nat} (hi : i < xs.length) (x : W) :
    ∃ y, l.a = some y ∧ Wr w (y.add i) ∧ ∀ w2, w2 = w.setCell (y.add i) (.int .u32 (x.toNat : Int)) → Own w2 base e l (uv (xs.set i x)) ∧ Fr (Vc.At l) w w2 := by
  obtain ⟨y, hy, hc, hw, hs⟩ := h.set (i := i) (by rw [uv_len]; exact hi)
  refine ⟨y, hy, hw, fun w2 hw2 => ?_⟩
  obtain ⟨h1, h2⟩ := hs (.int .u32 (x.toNat : Int))
  rw [hw2]
  exact ⟨by rw [uv, List.map_set]; exact h1, h2⟩

theorem f1_eq (i : Nat) (b c d : W) : (i < 20 → f1 i b c d = (b &&& c) ||| (~~~b &&& d) ∧ k1 i = 0x5a827999#32) ∧ (20 ≤ i → i < 40 → f1 i b c d = b ^^^ c ^^^ d ∧ k1 i = 0x6ed9eba1#32) ∧
    (40 ≤ i → i < 60 → f1 i b c d = (b &&& c) ||| (b &&& d) ||| (c &&& d) ∧ k1 i = 0x8f1bbcdc#32) ∧ (60 ≤ i → f1 i b c d = b ^^^ c ^^^ d ∧ k1 i = 0xca62c1d6#32) := by
  unfold f1 k1
  refine ⟨fun h => ?_, fun h h2 => ?_, fun h h2 => ?_, fun h => ?_⟩
  · rw [if_pos h, if_pos h]; exact ⟨rfl, rfl⟩
  · rw [if_neg (by omega), if_pos h2, if_neg (by omega), if_pos h2]; exact ⟨rfl, rfl⟩
  · rw [if_neg (by omega), if_neg (by omega), if_pos h2, if_neg (by omega), if_neg (by omega), if_pos h2]; exact ⟨rfl, rfl⟩
  · rw [if_neg (by omega), if_neg (by omega), if_neg (by omega), if_neg (by omega), if_neg (by omega), if_neg (by omega)]; exact ⟨rfl, rfl⟩

theorem block1_spec {w : World} {base : Nat} {l : Sl} {h : List W} (ho : Own w base T_uint32 l (uv h)) (hl : h.length = 5) (p : ByteArray) (hp : p.size = 64) :
    Calls Try.prog F_sha_block1 #[.slice l.a l.len l.cap, .string p] w fun e w' => e = .returned (.tuple #[]) ∧ Own w' base T_uint32 l (uv (block1 h p.data.toList)) ∧ Fr (Vc.At l) w w' := by
  refine vc_sha_block1_ok (R := fun v w' => v = .tuple #[] ∧ Own w' base T_uint32 l (uv (block1 h p.data.toList)) ∧ Fr (Vc.At l) w w') ?_ (fun v w' h => ⟨by rw [h.1], h.2⟩)
  intro w1 hw1
  have f1' : Fr (fun _ => False) w w1 := hw1 ▸ Fr.alloc _ _ _
  generalize hB : w.heap.size = wb at hw1
  obtain ⟨P, hPd⟩ : ∃ P, p.data.toList = P := ⟨_, rfl⟩
  rw [hPd]
  have hE : ∀ k, (E1 P k).length = k := E1_length P
  have o1 : Own w1 wb T_80_uint32 ⟨some ⟨wb, 0, none⟩, 80, 80⟩ (uv (arr (E1 P) 80 0)) := by
    refine ⟨rfl, .inr ⟨wb, _, rfl, Nat.le_refl _, by rw [hw1, ← hB]; exact alloc_new _ _, Nat.le_refl _, by simp [maxLen], rfl, rfl⟩⟩
  have hlen : l.len = 5 := by rw [ho.len, uv_len, hl]
  refine ⟨fun i w' => ∃ k : Nat, k ≤ 80 ∧ i = (k : Int) ∧ Own w' wb T_80_uint32 ⟨some ⟨wb, 0, none⟩, 80, 80⟩ (uv (arr (E1 P) 80 k)) ∧ Fr (fun _ => False) w w', fun i _ => (80 - i).toNat, ⟨0, by decide, rfl, o1, f1'⟩, ?_⟩
  rintro i w5 ⟨k, hk, rfl, o5, f5⟩
  have hAl := arr_length (n := 80) (hE k) hk
  have e1 : IntKind.i64.wrap ((k : Int) + 1) = ((k + 1 : Nat) : Int) := by rw [wrap_i64 (by omega) (by omega)]; omega
  have hX : ∀ {w' : World}, Fr (fun _ => False) w w' → ∀ {w2 : World}, Fr (Vc.At ⟨some ⟨wb, 0, none⟩, 80, 80⟩) w' w2 → Fr (fun _ => False) w w2 := fun {w'} hf {w2} h2 => hf.trans h2 fun q hq ⟨y, hy, e⟩ => by cases hy; simp only at e; omega
  refine ⟨fun hlt => ?_, fun hge => ?_⟩
  · have hlt := of_decide_eq_true hlt
    have hk80 : k < 80 := by omega
    refine ⟨fun h16 => ?_, fun h16 => ?_⟩
    · have h16 := of_decide_eq_true h16
      have e4 : IntKind.i64.wrap (4 * (k : Int)) = ((4 * k : Nat) : Int) := by rw [wrap_i64 (by omega) (by omega)]; omega
      rw [e4, Int.toNat_natCast]
      refine ⟨⟨by omega, by omega⟩, ?_⟩
      refine (word_spec _ (by rw [ByteArray.size_extract]; omega) w5).mono ?_
      rintro e w7 ⟨rfl, d7⟩
      refine ⟨_, rfl, ⟨by omega, by omega⟩, ?_⟩
      have hx : be (p.extract (4 * k) p.size).data.toList 0 = be P (4 * k) := by
        rw [ext_toList, hPd, List.take_of_length_le (by rw [List.length_drop, ← hPd]; simp), be_drop]
      rw [hx, Int.toNat_natCast, Nat.mul_one, e1]
      obtain ⟨y, hy, hwr, hset⟩ := own_put (o5.drew d7) (i := k) (by omega) (be P (4 * k))
      cases hy
      refine ⟨hwr, fun w9 hw9 => ?_⟩
      obtain ⟨o9, f9⟩ := hset w9 hw9
      rw [arr_set (hE k) hk80 (E1_low P (by omega))] at o9
      exact ⟨⟨k + 1, by omega, rfl, o9, hX (f5.trans' (.drew _ d7)) f9⟩, by dsimp only; omega⟩
    · have h16 := of_decide_eq_false h16
      intro w10 d10
      have o10 := o5.drew d10
      have g : ∀ j, j < k → w10.cell? (Addr.add ⟨wb, 0, none⟩ j) = some (.int .u32 (((E1 P k).getD j 0).toNat : Int)) := fun j hj => by
        obtain ⟨y, hy, hc⟩ := own_get o10 (i := j) (by omega)
        cases hy
        rw [arr_getD (hE k) hj] at hc; exact hc
      have s3 : (IntKind.i64.wrap ((k : Int) - 3)).toNat = k - 3 := by rw [wrap_i64 (by omega) (by omega)]; omega
      have s8 : (IntKind.i64.wrap ((k : Int) - 8)).toNat = k - 8 := by rw [wrap_i64 (by omega) (by omega)]; omega
      have s14 : (IntKind.i64.wrap ((k : Int) - 14)).toNat = k - 14 := by rw [wrap_i64 (by omega) (by omega)]; omega
      have s16 : (IntKind.i64.wrap ((k : Int) - 16)).toNat = k - 16 := by rw [wrap_i64 (by omega) (by omega)]; omega
      have r3 : IntKind.i64.wrap ((k : Int) - 3) = ((k - 3 : Nat) : Int) := by rw [wrap_i64 (by omega) (by omega)]; omega
      have r8 : IntKind.i64.wrap ((k : Int) - 8) = ((k - 8 : Nat) : Int) := by rw [wrap_i64 (by omega) (by omega)]; omega
      have r14 : IntKind.i64.wrap ((k : Int) - 14) = ((k - 14 : Nat) : Int) := by rw [wrap_i64 (by omega) (by omega)]; omega
      have r16 : IntKind.i64.wrap ((k : Int) - 16) = ((k - 16 : Nat) : Int) := by rw [wrap_i64 (by omega) (by omega)]; omega
      refine ⟨fun w => w = w10, rfl, by rw [r3]; exact ⟨by omega, by omega⟩, _, fun w hw => by rw [hw, s3, Nat.mul_one]; exact g _ (by omega), by rw [r8]; exact ⟨by omega, by omega⟩, _, fun w hw => by rw [hw, s8, Nat.mul_one]; exact g _ (by omega),
        by rw [r14]; exact ⟨by omega, by omega⟩, _, fun w hw => by rw [hw, s14, Nat.mul_one]; exact g _ (by omega), by rw [r16]; exact ⟨by omega, by omega⟩, _, fun w hw => by rw [hw, s16, Nat.mul_one]; exact g _ (by omega), ?_⟩
      simp only [u_of, u_wrap]
      refine (rot_spec _ 1 1 (by decide) (by decide) w10).mono ?_
      rintro e w21 ⟨rfl, rfl⟩
      refine ⟨_, rfl, rfl, ⟨by omega, by omega⟩, ?_⟩
      rw [← nxt1_at (hE k), Int.toNat_natCast, Nat.mul_one, e1]
      obtain ⟨y, hy, hwr, hset⟩ := own_put o10 (i := k) (by omega) (nxt1 (E1 P k))
      cases hy
      refine ⟨hwr, fun w9 hw9 => ?_⟩
      obtain ⟨o9, f9⟩ := hset w9 hw9
      rw [arr_set (hE k) hk80 (E1_high P (by omega))] at o9
      exact ⟨⟨k + 1, by omega, rfl, o9, hX (f5.trans' (.drew _ d10)) f9⟩, by omega⟩
  have hge := of_decide_eq_false hge
  have : k = 80 := by omega
  subst this
  have hfull : arr (E1 P) 80 80 = ext1 64 (words P) := by unfold arr; rw [Nat.sub_self, List.replicate_zero, List.append_nil, E1_ext P (by decide)]
  rw [hfull] at o5 hAl
  obtain ⟨h0, h1, h2, h3, h4, rfl⟩ : ∃ a b c d e, h = [a, b, c, d, e] := by
    match h, hl with
    | [a, b, c, d, e], _ => exact ⟨_, _, _, _, _, rfl⟩
  have oh := ho.keep f5 (by simp)
  have rd : ∀ {w' : World}, Own w' base T_uint32 l (uv [h0, h1, h2, h3, h4]) → ∃ x, l.a = some x ∧ w'.cell? (x.add 0) = some (.int .u32 (h0.toNat : Int)) ∧ w'.cell? (x.add 1) = some (.int .u32 (h1.toNat : Int)) ∧ w'.cell? (x.add 2) = some (.int .u32 (h2.toNat : Int)) ∧
      w'.cell? (x.add 3) = some (.int .u32 (h3.toNat : Int)) ∧ w'.cell? (x.add 4) = some (.int .u32 (h4.toNat : Int)) := fun {w'} o => by
    obtain ⟨x, hx, c0⟩ := own_get o (i := 0) (by simp)
    obtain ⟨x1, hx1, c1⟩ := own_get o (i := 1) (by simp)
    obtain ⟨x2, hx2, c2⟩ := own_get o (i := 2) (by simp)
    obtain ⟨x3, hx3, c3⟩ := own_get o (i := 3) (by simp)
    obtain ⟨x4, hx4, c4⟩ := own_get o (i := 4) (by simp)
    rw [hx] at hx1 hx2 hx3 hx4
    cases hx1; cases hx2; cases hx3; cases hx4
    exact ⟨x, hx, c0, c1, c2, c3, c4⟩
  obtain ⟨x, hx, c0, c1, c2, c3, c4⟩ := rd oh
  rw [hlen]
  refine ⟨⟨by decide, by decide⟩, x, hx, _, c0, ⟨by decide, by decide⟩, x, hx, _, c1, ⟨by decide, by decide⟩, x, hx, _, c2, ⟨by decide, by decide⟩, x, hx, _, c3, ⟨by decide, by decide⟩, x, hx, _, c4, fun w34 d34 => ?_⟩
  have o34 := o5.drew d34
  have oh34 := oh.drew d34
  have hload := load_agg (P := Try.prog) (t := T_80_uint32) (w := w34) (a := ⟨wb, 0, none⟩) (vs := uv (ext1 64 (words P))) (agg_of (by kernel_rfl)) (by rw [uv_len, hAl]; kernel_rfl) (fun j v hv => by
    obtain ⟨y, hy, hc⟩ := o34.reads j v hv
    cases hy; exact hc)
  refine ⟨_, hload, ?_⟩
  obtain ⟨S, hS⟩ : ∃ S, ext1 64 (words P) = S := ⟨_, rfl⟩
  rw [hS] at hAl ⊢
  have hbl : block1 [h0, h1, h2, h3, h4] P = adds [h0, h1, h2, h3, h4] (rds1 0 S [h0, h1, h2, h3, h4]) := by unfold block1; rw [hS]
  rw [hbl]
  refine ⟨fun a b c d e i w' => w' = w34 ∧ ∃ (A B C D E : W) (k : Nat), k ≤ 80 ∧ i = (k : Int) ∧ a = (A.toNat : Int) ∧ b = (B.toNat : Int) ∧ c = (C.toNat : Int) ∧ d = (D.toNat : Int) ∧ e = (E.toNat : Int) ∧ rds1 0 S [h0, h1, h2, h3, h4] = rds1 k (S.drop k) [A, B, C, D, E],
    fun _ _ _ _ _ i _ => (80 - i).toNat, ⟨rfl, h0, h1, h2, h3, h4, 0, by decide, rfl, rfl, rfl, rfl, rfl, rfl, rfl⟩, ?_⟩
  rintro a b c d e i w44 ⟨rfl, A, B, C, D, E, k, hk, rfl, rfl, rfl, rfl, rfl, rfl, hv⟩
  have e1 : IntKind.i64.wrap ((k : Int) + 1) = ((k + 1 : Nat) : Int) := by rw [wrap_i64 (by omega) (by omega)]; omega
  refine ⟨fun hlt => ?_, fun hge => ?_⟩
  · have hlt := of_decide_eq_true hlt
    have hk80 : k < 80 := by omega
    have hidx := index_agg (P := Try.prog) (w := w44) T_80_uint32 T_uint32 80 (uv S) .i64 k (by kernel_rfl) (by kernel_rfl) (by rw [uv_len]; omega) hk80 (by kernel_rfl)
    have hget : (uv S).getD k undef = .int .u32 ((S.getD k 0).toNat : Int) := by rw [List.getD_eq_getElem?_getD, uv_get (by omega)]; rfl
    rw [hget] at hidx
    refine ⟨w44, _, hidx, ?_⟩
    rw [rds1_step (by omega)] at hv
    have etd : IntKind.i64.wrap (Int.tdiv (k : Int) 20) = ((k / 20 : Nat) : Int) := by rw [Int.tdiv_eq_ediv_of_nonneg (by omega), wrap_i64 (by omega) (by omega)]; omega
    rw [etd]
    obtain ⟨q1, q2, q3, q4⟩ := f1_eq k B C D
    refine ⟨fun f q w' => f = ((f1 k B C D).toNat : Int) ∧ q = ((k1 k).toNat : Int) ∧ w' = w44, ⟨by decide, fun h => ?_, fun h => ⟨fun h => ?_, fun h' => ⟨fun h => ?_, fun h'' => ?_⟩⟩⟩, ?_⟩
    · have h : ((k / 20 : Nat) : Int) = 0 := by simpa using h
      obtain ⟨g1, g2⟩ := q1 (by omega)
      rw [g1, g2, neg32]
      exact ⟨by simp only [u_of, u_wrap, BitVec.allOnes_xor], rfl, rfl⟩
    · have h : ((k / 20 : Nat) : Int) = 1 := by simpa using h
      obtain ⟨g1, g2⟩ := q2 (by omega) (by omega)
      rw [g1, g2]
      exact ⟨by simp only [u_of, u_wrap], rfl, rfl⟩
    · have h : ((k / 20 : Nat) : Int) = 2 := by simpa using h
      obtain ⟨g1, g2⟩ := q3 (by omega) (by omega)
      rw [g1, g2]
      exact ⟨by simp only [u_of, u_wrap], rfl, rfl⟩
    · have h : ¬ ((k / 20 : Nat) : Int) = 0 := by simpa using h
      have h' : ¬ ((k / 20 : Nat) : Int) = 1 := by simpa using h'
      have h'' : ¬ ((k / 20 : Nat) : Int) = 2 := by simpa using h''
      obtain ⟨g1, g2⟩ := q4 (by omega)
      rw [g1, g2]
      exact ⟨by simp only [u_of, u_wrap], rfl, rfl⟩
    rintro f q w50 ⟨rfl, rfl, rfl⟩
    refine (rot_spec A 5 5 (by decide) (by decide) w50).mono ?_
    rintro e w52 ⟨rfl, rfl⟩
    refine ⟨_, rfl, ?_⟩
    refine (rot_spec B 30 30 (by decide) (by decide) w52).mono ?_
    rintro e w55 ⟨rfl, rfl⟩
    refine ⟨_, rfl, ?_⟩
    rw [e1, u_add, u_add, u_add, u_add]
    exact ⟨⟨rfl, _, _, _, _, _, k + 1, by omega, rfl, rfl, rfl, rfl, rfl, rfl, hv⟩, by dsimp only; omega⟩
  · have hge := of_decide_eq_false hge
    have : k = 80 := by omega
    subst this
    rw [List.drop_eq_nil_of_le (by omega)] at hv
    have hv : rds1 0 S [h0, h1, h2, h3, h4] = [A, B, C, D, E] := hv
    rw [hv]
    have fin : adds [h0, h1, h2, h3, h4] [A, B, C, D, E] = [h0 + A, h1 + B, h2 + C, h3 + D, h4 + E] := rfl
    rw [fin]
    obtain ⟨x, hx, c0, c1, c2, c3, c4⟩ := rd oh34
    have P0 := own_put oh34 (i := 0) (by simp) (h0 + A)
    obtain ⟨y, hy, hwr, hset⟩ := P0
    rw [hx] at hy; cases hy
    refine ⟨⟨by decide, by decide⟩, x, hx, _, c0, ⟨by decide, by decide⟩, x, hx, hwr, ?_⟩
    rw [u_add]
    intro w60 hw60
    obtain ⟨o60, f60⟩ := hset w60 hw60
    obtain ⟨y, hy, c1⟩ := own_get o60 (i := 1) (by simp)
    rw [hx] at hy; cases hy
    obtain ⟨y, hy, hwr, hset⟩ := own_put o60 (i := 1) (by simp) (h1 + B)
    rw [hx] at hy; cases hy
    refine ⟨⟨by decide, by decide⟩, x, hx, _, c1, ⟨by decide, by decide⟩, x, hx, hwr, ?_⟩
    rw [show ([h0, h1, h2, h3, h4].set 0 (h0 + A)).getD 1 0 = h1 from rfl, u_add]
    intro w64 hw64
    obtain ⟨o64, f64⟩ := hset w64 hw64
    obtain ⟨y, hy, c2⟩ := own_get o64 (i := 2) (by simp)
    rw [hx] at hy; cases hy
    obtain ⟨y, hy, hwr, hset⟩ := own_put o64 (i := 2) (by simp) (h2 + C)
    rw [hx] at hy; cases hy
    refine ⟨⟨by decide, by decide⟩, x, hx, _, c2, ⟨by decide, by decide⟩, x, hx, hwr, ?_⟩
    rw [show (([h0, h1, h2, h3, h4].set 0 (h0 + A)).set 1 (h1 + B)).getD 2 0 = h2 from rfl, u_add]
    intro w68 hw68
    obtain ⟨o68, f68⟩ := hset w68 hw68
    obtain ⟨y, hy, c3⟩ := own_get o68 (i := 3) (by simp)
    rw [hx] at hy; cases hy
    obtain ⟨y, hy, hwr, hset⟩ := own_put o68 (i := 3) (by simp) (h3 + D)
    rw [hx] at hy; cases hy
    refine ⟨⟨by decide, by decide⟩, x, hx, _, c3, ⟨by decide, by decide⟩, x, hx, hwr, ?_⟩
    rw [show ((([h0, h1, h2, h3, h4].set 0 (h0 + A)).set 1 (h1 + B)).set 2 (h2 + C)).getD 3 0 = h3 from rfl, u_add]
    intro w72 hw72
    obtain ⟨o72, f72⟩ := hset w72 hw72
    obtain ⟨y, hy, c4⟩ := own_get o72 (i := 4) (by simp)
    rw [hx] at hy; cases hy
    obtain ⟨y, hy, hwr, hset⟩ := own_put o72 (i := 4) (by simp) (h4 + E)
    rw [hx] at hy; cases hy
    refine ⟨⟨by decide, by decide⟩, x, hx, _, c4, ⟨by decide, by decide⟩, x, hx, hwr, ?_⟩
    rw [show (((([h0, h1, h2, h3, h4].set 0 (h0 + A)).set 1 (h1 + B)).set 2 (h2 + C)).set 3 (h3 + D)).getD 4 0 = h4 from rfl, u_add]
    intro w76 hw76
    obtain ⟨o76, f76⟩ := hset w76 hw76
    exact ⟨rfl, o76, ((((((f5.mono (by simp)).trans' (.drew _ d34)).trans' f60).trans' f64).trans' f68).trans' f72).trans' f76⟩
end Go.Proofs.Ytoagdpjickippaa

/- Words in a row, stored; sums of words. No condition. -/
set_option linter.unusedVariables false
namespace Go.Proofs.Ytoagdpjickippaa
open Go Vc ShaM Go.Proofs

theorem one_uv (l : List W) : ∀ u ∈ uv l, u.oneCell' = true := fun u h => by
  obtain ⟨b, _, rfl⟩ := List.mem_map.1 h; rfl
theorem setRow_fr (X : Nat → Prop) (w : World) (g : Nat) (cs : Array Value) (h : X g) : Fr X w (w.setRow g cs) :=
  ⟨rfl, rfl, rfl, by simp [World.setRow], fun k _ hx => by
    simp only [World.setRow, Array.getElem?_modify]
    rw [if_neg (fun e => hx (by rw [← e]; exact h))]⟩
/-- A whole array stored. -/
theorem store_arr {P : Program} {w : World} {base g n : Nat} {e t : TypeId} {xs ys : List W} (h : Own w base e ⟨some ⟨g, 0, none⟩, n, n⟩ (uv xs)) (hy : ys.length = n) (hi : (P.info? t).map (·.size) = some n) :
    ∃ w', (storeVar t ⟨g, 0, none⟩ (.agg (uv ys).toArray)).run P w = .ok () w' ∧ Own w' base e ⟨some ⟨g, 0, none⟩, n, n⟩ (uv ys) ∧ Fr (· = g) w w' := by
  have hn := h.1
  rcases h.2 with ⟨ha, _⟩ | ⟨g', cur, ha, hb, hg, hl, hm, hs, ht⟩
  · cases ha
  · cases ha
    have hr := run_storeVar_row (P := P) w g e t cur (uv ys).toArray hg (by rw [hi, List.size_toArray, uv_len, hy]) (by simp [hy]; exact hs)
      (by rw [Array.all_eq_true_iff_forall_mem]; intro v hv; exact one_uv ys v (by simpa using hv))
    refine ⟨_, hr, ⟨by rw [uv_len, hy], .inr ⟨g, _, rfl, hb, setRow_heap w g cur _ e (0, 0) hg, hl, hm, by rw [List.size_toArray, uv_len, hy], ?_⟩⟩, setRow_fr _ w g _ rfl⟩
    exact List.take_of_length_le (by simp [hy])
set_option maxRecDepth 100000 in
theorem adds_zip : ∀ (h v : List W), adds h v = List.zipWith (· + ·) h v
  | [], _ => by simp [adds]
  | a :: h, [] => by simp [adds]
  | a :: h, b :: v => by simp [adds, adds_zip h v]
/-- The words while they are added. -/
def mix (h v : List W) (i : Nat) : List W := (adds h v).take i ++ h.drop i
theorem mix_next {h v : List W} {i : Nat} (hl : h.length = v.length) (hi : i < h.length) : (mix h v i).set i (h.getD i 0 + v.getD i 0) = mix h v (i + 1) ∧ (mix h v i).getD i 0 = h.getD i 0 ∧ (mix h v i).length = h.length := by
  have hal : (adds h v).length = h.length := by rw [adds_zip, List.length_zipWith]; omega
  have htl : ((adds h v).take i).length = i := by rw [List.length_take]; omega
  have hx : (adds h v)[i]'(by omega) = h.getD i 0 + v.getD i 0 := by
    simp only [adds_zip, List.getElem_zipWith, List.getD_eq_getElem?_getD, List.getElem?_eq_getElem hi, List.getElem?_eq_getElem (show i < v.length by omega), Option.getD_some]
  refine ⟨?_, ?_, ?_⟩
  · unfold mix
    rw [List.set_append_right _ _ (by omega), htl, Nat.sub_self, List.take_succ_eq_append_getElem (by omega), hx, List.append_assoc, List.drop_eq_getElem_cons hi]
    rfl
  · unfold mix
    rw [List.getD_eq_getElem?_getD, List.getElem?_append_right (by omega), htl, Nat.sub_self, List.getElem?_drop]
    rw [List.getD_eq_getElem?_getD]; rfl
  · unfold mix
    rw [List.length_append, List.length_drop, htl]; omega
end Go.Proofs.Ytoagdpjickippaa

/- Plain facts: a sum is added up text by text. -/
set_option linter.unusedVariables false
namespace ShaM
/-- What waits for a whole block. -/
def rest (t : List UInt8) : List UInt8 := t.drop (64 * (t.length / 64))
/-- The words behind the whole blocks. -/
def stt (f : List W → List UInt8 → List W) (st : List W) (t : List UInt8) : List W := blocks f (t.length / 64) st t
theorem rest_length (t : List UInt8) : (rest t).length = t.length % 64 := by unfold rest; rw [List.length_drop]; omega
theorem blocks_add (f : List W → List UInt8 → List W) : ∀ (a b : Nat) (h : List W) (t : List UInt8), blocks f (a + b) h t = blocks f b (blocks f a h t) (t.drop (64 * a))
  | 0, b, h, t => by simp [blocks]
  | a + 1, b, h, t => by
    rw [show a + 1 + b = (a + b) + 1 by omega]
    simp only [blocks]
    rw [blocks_add f a b, List.drop_drop]
    congr 2; omega
theorem blocks_app (f : List W → List UInt8 → List W) : ∀ (n : Nat) (h : List W) (t u : List UInt8), 64 * n ≤ t.length → blocks f n h (t ++ u) = blocks f n h t
  | 0, h, t, u, _ => rfl
  | n + 1, h, t, u, hl => by
    simp only [blocks]
    rw [List.take_append_of_le_length (by omega), List.drop_append_of_le_length (by omega), blocks_app f n _ _ u (by rw [List.length_drop]; omega)]
theorem step_all (f : List W → List UInt8 → List W) (st : List W) (t x : List UInt8) :
    blocks f ((rest t ++ x).length / 64) (stt f st t) (rest t ++ x) = stt f st (t ++ x) ∧ (rest t ++ x).drop (64 * ((rest t ++ x).length / 64)) = rest (t ++ x) := by
  have h1 : rest t ++ x = (t ++ x).drop (64 * (t.length / 64)) := by unfold rest; rw [List.drop_append_of_le_length (by omega)]
  have h2 : (t ++ x).length / 64 = t.length / 64 + (rest t ++ x).length / 64 := by rw [List.length_append, List.length_append, rest_length]; omega
  constructor
  · unfold stt
    rw [h2, blocks_add, blocks_app f _ _ t x (by omega), h1]
  · show _ = (t ++ x).drop (64 * ((t ++ x).length / 64))
    rw [h2]
    generalize (rest t ++ x).length / 64 = q
    rw [h1, List.drop_drop, Nat.mul_add]
theorem blocks_step (f : List W → List UInt8 → List W) (q : Nat) (h : List W) (t : List UInt8) : blocks f (q + 1) h t = f (blocks f q h t) ((t.drop (64 * q)).take 64) := by
  rw [blocks_add f q 1]; rfl
theorem blocks_length {f : List W → List UInt8 → List W} {k : Nat} (hf : ∀ h p, h.length = k → (f h p).length = k) : ∀ (n : Nat) (h : List W) (t : List UInt8), h.length = k → (blocks f n h t).length = k
  | 0, h, t, hl => hl
  | n + 1, h, t, hl => blocks_length hf n _ _ (hf _ _ hl)
theorem adds_length : ∀ {h v : List W}, h.length = v.length → (adds h v).length = h.length
  | [], [], _ => rfl
  | a :: h, b :: v, hl => by simp only [adds, List.length_cons]; rw [adds_length (by simpa using hl)]
theorem rd1_length (i : Nat) (x : W) (v : List W) : (rd1 i x v).length = v.length := by
  unfold rd1; split <;> rfl
theorem rds1_length : ∀ (i : Nat) (l v : List W), (rds1 i l v).length = v.length
  | _, [], v => rfl
  | i, x :: r, v => by rw [rds1, rds1_length (i + 1) r, rd1_length]
theorem rd2_length (k x : W) (v : List W) : (rd2 k x v).length = v.length := by
  unfold rd2; split <;> rfl
theorem rds2_length : ∀ (k l v : List W), (rds2 k l v).length = v.length
  | [], _, v => by simp [rds2]
  | _ :: _, [], v => by simp [rds2]
  | k :: ks, x :: r, v => by rw [rds2, rds2_length ks r, rd2_length]
theorem block1_length (h : List W) (p : List UInt8) : (block1 h p).length = h.length := by
  unfold block1; rw [adds_length (by rw [rds1_length])]
theorem block2_length (K h : List W) (p : List UInt8) : (block2 K h p).length = h.length := by
  unfold block2; rw [adds_length (by rw [rds2_length])]
/-- The digest of a text by f. -/
def digest (f : List W → List UInt8 → List W) (st : List W) (t : List UInt8) : List UInt8 := out (stt f st (pad t))
theorem pad_length (t : List UInt8) : (pad t).length % 64 = 0 := by
  unfold pad; simp; omega
theorem dig1_len (t : List UInt8) : (digest block1 start1 t).length = 20 := by
  have hl : (stt block1 start1 (pad t)).length = 5 := blocks_length (f := block1) (fun h p hl => by rw [block1_length]; exact hl) _ _ _ rfl
  unfold digest
  match stt block1 start1 (pad t), hl with
  | [a, b, c, d, e], _ => rfl
end ShaM

/- What write and sum of the package sha do, by block1. Conditions: the texts are short enough for a slice to hold (2 to the 40th). -/
set_option linter.unusedVariables false
namespace Go.Proofs.Ytoagdpjickippaa
open Go Vc ShaM Go.Proofs

/-- A sum that is added up: t has been written. -/
structure HashAt (w : World) (b lo : Nat) (sl : Sl) (T : TypeId) (f : List ShaM.W → List UInt8 → List ShaM.W) (st : List ShaM.W) (t : List UInt8) : Prop where
  lob : lo ≤ b
  blk : ∃ r : ByteArray, r.data.toList = rest t ∧ w.heap[b]? = some (.cells #[.slice sl.a sl.len sl.cap, .string r, .int .u64 (t.length : Int)] T)
  len : t.length ≤ 1099511627776
  ne : ∀ y, sl.a = some y → y.block ≠ b
  own : (sl = ⟨none, 0, 0⟩ ∧ t = []) ∨ (Own w lo T_uint32 sl (uv (stt f st t)) ∧ sl.a ≠ none)
theorem HashAt.keep {w w2 : World} {b lo : Nat} {sl : Sl} {T : TypeId} {f : List ShaM.W → List UInt8 → List ShaM.W} {st : List ShaM.W} {t : List UInt8} (h : HashAt w b lo sl T f st t) {X : Nat → Prop} (hf : Fr X w w2) (hb : ¬ X b) (hs : ∀ y, sl.a = some y → ¬ X y.block) : HashAt w2 b lo sl T f st t := by
  obtain ⟨r, h1, h2⟩ := h.blk
  refine ⟨h.lob, ⟨r, h1, hf.keep h2 hb⟩, h.len, h.ne, ?_⟩
  rcases h.own with h3 | ⟨h3, h4⟩
  · exact .inl h3
  · exact .inr ⟨h3.keep hf hs, h4⟩


theorem hw1_spec {w : World} {b lo : Nat} {sl : Sl} {T : TypeId} {t : List UInt8} (hh : HashAt w b lo sl T block1 start1 t) {a : Option Addr} (c : Nat) (hst : Reads w a (uv start1)) (x : ByteArray) (hx : t.length + x.size ≤ 1099511627776) :
    Calls Try.prog F_sha_hash_write #[.pointer (some ⟨b, 0, none⟩), .string x, .slice a 5 c, .func (.func F_sha_block1) #[] #[]] w fun e w' =>
      e = .returned (.tuple #[]) ∧ ∃ sl', HashAt w' b lo sl' T block1 start1 (t ++ x.data.toList) ∧ sl'.a ≠ none ∧ Fr (fun k => k = b ∨ Vc.At sl k) w w' ∧ Since w sl sl' := by
  refine vc_sha_hash_write_1_ok (R := fun v w' => v = .tuple #[] ∧ ∃ sl', HashAt w' b lo sl' T block1 start1 (t ++ x.data.toList) ∧ sl'.a ≠ none ∧ Fr (fun k => k = b ∨ Vc.At sl k) w w' ∧ Since w sl sl') ?_ (fun v w' h => ⟨by rw [h.1], h.2⟩)
  obtain ⟨r, hr, hblk⟩ := hh.blk
  have hbw := lt_blk hblk
  have hlo := hh.lob
  have hxl : x.data.toList.length = x.size := by simp
  have hstl : (stt block1 start1 t).length = 5 := blocks_length (f := block1) (fun h p hl => by rw [block1_length]; exact hl) _ _ _ rfl
  have hrs : r.size = t.length % 64 := by rw [← rest_length, ← hr]; simp
  refine ⟨fun w6 => ∃ sl1, w6.heap[b]? = some (.cells #[.slice sl1.a sl1.len sl1.cap, .string r, .int .u64 (t.length : Int)] T) ∧ Own w6 lo T_uint32 sl1 (uv (stt block1 start1 t)) ∧ (∀ y, sl1.a = some y → y.block ≠ b) ∧ Fr (fun k => k = b ∨ Vc.At sl k) w w6 ∧ Since w sl sl1, ⟨sl, by rw [cell_blk hblk]; rfl, fun hnone => ?_, fun hsome => ?_⟩, ?_⟩
  · rcases hh.own with ⟨rfl, rfl⟩ | ⟨_, hne⟩
    · obtain ⟨w3, l4, hr3, o3, f3, s3⟩ := append_all' elU32 (Own.nil w lo T_uint32) c hst (one_uv _) (by simp only [List.length_nil, uv_len]; decide) (by simp only [List.length_nil, uv_len]; decide) (by omega) (m := 5) rfl
      rw [List.nil_append] at o3
      have f3' : Fr (fun _ => False) w w3 := f3.mono fun k hk ⟨y, hy, _⟩ => by cases hy
      have hb3 := f3'.keep hblk (by simp)
      refine ⟨w3, l4, hr3, wr_blk hb3 (by simp), ?_⟩
      intro w5 hw5
      have hb5 := set_blk hb3 0 (.slice l4.a l4.len l4.cap)
      rw [← hw5] at hb5
      have f5 : Fr (· = b) w3 w5 := hw5 ▸ Fr.set (· = b) _ (a := ⟨b, 0, none⟩) _ rfl
      have hne4 : ∀ y, l4.a = some y → y.block ≠ b := fun y hy => by
        rcases s3 y hy with ⟨z, hz, _⟩ | hn
        · cases hz
        · omega
      exact ⟨l4, hb5, o3.keep f5 (fun y hy => hne4 y hy), hne4, (f3'.mono (by simp)).trans f5 (fun k hk h => .inl h), s3⟩
    · exfalso
      cases hsa : sl.a with
      | none => exact hne hsa
      | some y => rw [hsa] at hnone; cases hnone
  · rcases hh.own with ⟨rfl, rfl⟩ | ⟨ho, hne⟩
    · cases hsome
    · exact ⟨sl, hblk, ho, hh.ne, .refl _ _, .refl _ _⟩
  rintro w6 ⟨sl1, hb6, o6, hne1, f6, s6⟩
  refine ⟨_, by rw [cell_blk hb6]; rfl, wr_blk hb6 (by simp), ?_⟩
  intro w8 hw8
  have en : IntKind.u64.wrap ((t.length : Int) + IntKind.u64.wrap (x.size : Int)) = (((t ++ x.data.toList).length : Nat) : Int) := by
    rw [List.length_append, hxl, wrap_u64 (x := (x.size : Int)) (by omega) (by omega), wrap_u64 (by omega) (by omega)]; omega
  rw [en] at hw8
  have hb8 := set_blk hb6 2 (.int .u64 (((t ++ x.data.toList).length : Nat) : Int))
  rw [← hw8] at hb8
  have f8 : Fr (· = b) w6 w8 := hw8 ▸ Fr.set (· = b) _ (a := ⟨b, 2, none⟩) _ rfl
  refine ⟨r, by rw [cell_blk hb8]; rfl, by omega, ?_⟩
  have hX : ∀ k, k < w.heap.size → Vc.At sl1 k → (k = b ∨ Vc.At sl k) := fun k hk ⟨y, hy, e⟩ => by
    rcases s6 y hy with ⟨z, hz, hzb⟩ | hn
    · exact .inr ⟨z, hz, by omega⟩
    · omega
  obtain ⟨TT, hTT⟩ : ∃ TT, rest t ++ x.data.toList = TT := ⟨_, rfl⟩
  have hTl : TT.length = t.length % 64 + x.size := by rw [← hTT, List.length_append, rest_length, hxl]
  obtain ⟨q1, q2⟩ := step_all block1 start1 t x.data.toList
  rw [hTT] at q1 q2
  refine ⟨fun s w' => ∃ q : Nat, 64 * q ≤ TT.length ∧ s.data.toList = TT.drop (64 * q) ∧ w'.heap[b]? = some (.cells #[.slice sl1.a sl1.len sl1.cap, .string r, .int .u64 (((t ++ x.data.toList).length : Nat) : Int)] T) ∧ Own w' lo T_uint32 sl1 (uv (blocks block1 q (stt block1 start1 t) TT)) ∧ Fr (Vc.At sl1) w8 w',
    fun s _ => s.size, ⟨0, by omega, by rw [← hTT, ← hr]; simp, hb8, o6.keep f8 (fun y hy => hne1 y hy), .refl _ _⟩, ?_⟩
  rintro s w13 ⟨q, hq, hs, hb13, o13, f13⟩
  have hsz : s.size = TT.length - 64 * q := by
    have : s.data.toList.length = s.size := by simp
    rw [← this, hs, List.length_drop]
  refine ⟨fun hge => ?_, fun hlt => ?_⟩
  · have hge := of_decide_eq_true hge
    intro w14 d14
    refine ⟨fun w => w = w14, rfl, sl1, fun w hw => by rw [hw, d14.cell, cell_blk hb13]; rfl, ⟨by decide, by omega⟩, ?_⟩
    have hbl := blocks_length (f := block1) (fun h p hl => by rw [block1_length]; exact hl) q (stt block1 start1 t) TT hstl
    have hex : (s.extract 0 (Int.toNat 64)).data.toList = (TT.drop (64 * q)).take 64 := by
      rw [ext_toList, hs]; rfl
    refine (block1_spec (o13.drew d14) hbl (s.extract 0 (Int.toNat 64)) (by rw [ByteArray.size_extract]; show min 64 s.size - 0 = 64; omega)).mono ?_
    rintro e w19 ⟨rfl, o19, f19⟩
    rw [hex, ← blocks_step block1] at o19
    have hb19 : w19.heap[b]? = _ := f19.keep ((Fr.drew (fun _ => False) d14).keep hb13 (by simp)) (fun ⟨y, hy, e⟩ => hne1 y hy e.symm)
    refine ⟨rfl, ⟨by decide, by omega⟩, ⟨q + 1, by omega, ?_, hb19, o19, (f13.trans' (.drew _ d14)).trans' f19⟩, ?_⟩
    · rw [ext_toList, hs, List.take_of_length_le (by rw [List.length_drop, List.length_drop]; show _ ≤ s.size - 64; omega), List.drop_drop]
      congr 1
    · dsimp only
      rw [ByteArray.size_extract]
      show min s.size s.size - 64 < s.size
      omega
  · have hlt := of_decide_eq_false hlt
    have hq2 : q = TT.length / 64 := by omega
    subst hq2
    rw [q1] at o13
    rw [q2] at hs
    refine ⟨wr_blk hb13 (by simp), ?_⟩
    intro w20 hw20
    have hb20 := set_blk hb13 1 (.string s)
    rw [← hw20] at hb20
    have f20 : Fr (· = b) w13 w20 := hw20 ▸ Fr.set (· = b) _ (a := ⟨b, 1, none⟩) _ rfl
    have o20 := o13.keep f20 (fun y hy => hne1 y hy)
    have hstl2 : (stt block1 start1 (t ++ x.data.toList)).length = 5 := blocks_length (f := block1) (fun h p hl => by rw [block1_length]; exact hl) _ _ _ rfl
    refine ⟨rfl, sl1, ⟨hlo, ⟨s, hs, hb20⟩, by rw [List.length_append, hxl]; omega, hne1, .inr ⟨o20, fun hn => ?_⟩⟩, fun hn => ?_, ((f6.trans f8 (fun k hk h => .inl h)).trans f13 hX).trans f20 (fun k hk h => .inl h), s6⟩
    all_goals
      obtain ⟨y, hy, _⟩ := own_get o20 (i := 0) (by omega)
      rw [hn] at hy; cases hy
end Go.Proofs.Ytoagdpjickippaa

/- What sum of the package sha does, by block1. Conditions: the texts are short enough for a slice to hold (2 to the 40th). -/
set_option linter.unusedVariables false
namespace Go.Proofs.Ytoagdpjickippaa
open Go Vc ShaM Go.Proofs

/-- What is put behind the text, block1. -/
def tail1 (n : Nat) : List UInt8 := 0x80 :: List.replicate ((119 - n % 64) % 64) 0 ++ (List.range 8).map fun i => UInt8.ofNat (n * 8 / 2 ^ (56 - 8 * i))
theorem pad1_eq (t : List UInt8) : pad t = t ++ tail1 t.length := by simp [pad, tail1]
theorem outw1_eq (x : ShaM.W) : (Array.mk [Value.int .u8 (IntKind.u8.wrap (Int.fdiv (x.toNat : Int) (2 ^ min (Int.toNat 24) 32))), .int .u8 (IntKind.u8.wrap (Int.fdiv (x.toNat : Int) (2 ^ min (Int.toNat 16) 32))), .int .u8 (IntKind.u8.wrap (Int.fdiv (x.toNat : Int) (2 ^ min (Int.toNat 8) 32))), .int .u8 (IntKind.u8.wrap (x.toNat : Int))] : Array Value) = (byteV (outw x)).toArray := by
  have h : ∀ (n k : Nat), IntKind.u8.wrap (Int.fdiv (n : Int) ((k + 1 : Nat) : Int)) = (((UInt8.ofNat (n / (k + 1))).toNat : Nat) : Int) := fun n k => by
    rw [Int.fdiv_eq_ediv_of_nonneg _ (Int.natCast_nonneg _), ← Int.natCast_ediv, wrap_u8_mod, UInt8.toNat_ofNat']
    omega
  have h0 : IntKind.u8.wrap (x.toNat : Int) = (((UInt8.ofNat x.toNat).toNat : Nat) : Int) := by rw [wrap_u8_mod, UInt8.toNat_ofNat']; omega
  have p24 : (2 : Int) ^ min (Int.toNat 24) 32 = ((16777215 + 1 : Nat) : Int) := rfl
  have p16 : (2 : Int) ^ min (Int.toNat 16) 32 = ((65535 + 1 : Nat) : Int) := rfl
  have p8 : (2 : Int) ^ min (Int.toNat 8) 32 = ((255 + 1 : Nat) : Int) := rfl
  rw [p24, p16, p8, h, h, h, h0]
  rfl
theorem hs1_spec {w : World} {b lo : Nat} {sl : Sl} {T : TypeId} {t : List UInt8} (hh : HashAt w b lo sl T block1 start1 t) {a : Option Addr} (c : Nat) (hst : Reads w a (uv start1)) (hx : t.length + 200 ≤ 1099511627776) :
    Calls Try.prog F_sha_hash_sum #[.pointer (some ⟨b, 0, none⟩), .slice a 5 c, .func (.func F_sha_block1) #[] #[]] w fun e w' => e = .returned (.string ⟨(digest block1 start1 t).toArray⟩) ∧ Fr (fun _ => False) w w' := by
  refine vc_sha_hash_sum_1_ok (R := fun v w' => v = .string ⟨(digest block1 start1 t).toArray⟩ ∧ Fr (fun _ => False) w w') ?_ (fun v w' h => ⟨by rw [h.1], h.2⟩)
  obtain ⟨r, hr, hblk⟩ := hh.blk
  have hbw := lt_blk hblk
  have hrs : r.size = t.length % 64 := by rw [← rest_length, ← hr]; simp
  -- the copy's words
  have copy_ : ∀ w2, Fr (fun _ => False) w w2 → ∃ w3 l3, (Builtin.append_ #[T_S_uint32, T_S_uint32] T_S_uint32 #[.slice none 0 0, .slice sl.a sl.len sl.cap]).run Try.prog w2 = .ok (.slice l3.a l3.len l3.cap) w3 ∧ Fr (fun _ => False) w2 w3 ∧
      (∀ y, l3.a = some y → w2.heap.size ≤ y.block ∧ y.block < w3.heap.size) ∧ ((sl = ⟨none, 0, 0⟩ ∧ t = [] ∧ l3 = ⟨none, 0, 0⟩) ∨ (Own w3 w.heap.size T_uint32 l3 (uv (stt block1 start1 t)) ∧ sl.a ≠ none)) := fun w2 f2 => by
    have hsz := f2.size
    rcases hh.own with ⟨h1, h2⟩ | ⟨ho, hne⟩
    · obtain ⟨w3, l3, hr3, o3, f3, s3⟩ := append_all' (w := w2) elU32 (Own.nil w2 w.heap.size T_uint32) sl.cap (Reads.nil w2 sl.a) (by simp) (by decide) (by decide) hsz (m := sl.len) (by rw [h1]; rfl)
      have f3' : Fr (fun _ => False) w2 w3 := f3.mono fun k hk ⟨y, hy, _⟩ => by cases hy
      have hl3 : l3.a = none := by
        cases h : l3.a with
        | none => rfl
        | some y =>
          exfalso
          subst h1
          have hr4 := append_all' (w := w2) elU32 (Own.nil w2 w.heap.size T_uint32) 0 (Reads.nil w2 none) (by simp) (by decide) (by decide) hsz (m := 0) rfl
          have : (Builtin.append_ #[T_S_uint32, T_S_uint32] T_S_uint32 #[.slice none 0 0, .slice none 0 0]).run Try.prog w2 = .ok (.slice none 0 0) w2 := by
            obtain ⟨i, hi, hi2⟩ := Option.map_eq_some_iff.1 elU32.info
            simp [Builtin.append_, run_underlying elU32.sl, Go.sizeOf, typeInfo, hi, Builtin.lenOf, Builtin.firstCells]
          rw [this] at hr3
          simp only [Result.ok.injEq, Value.slice.injEq] at hr3
          rw [← hr3.1.1] at h; cases h
      have hl3' : l3 = ⟨none, 0, 0⟩ := by
        rcases o3.2 with ⟨_, q1, q2⟩ | ⟨g, cur, hg, _⟩
        · cases l3; simp_all
        · rw [hl3] at hg; cases hg
      exact ⟨w3, l3, hr3, f3', (fun y hy => by rw [hl3] at hy; cases hy), .inl ⟨h1, h2, hl3'⟩⟩
    · obtain ⟨w3, l3, hr3, o3, f3, s3⟩ := append_all' (w := w2) elU32 (Own.nil w2 w.heap.size T_uint32) sl.cap ((ho.keep f2 (by simp)).reads) (one_uv _) (by simp only [List.length_nil, uv_len, stt, blocks_length (f := block1) (fun h p hl => by rw [block1_length]; exact hl) _ _ _ (rfl : start1.length = 5)]; decide)
        (by simp only [List.length_nil, uv_len, stt, blocks_length (f := block1) (fun h p hl => by rw [block1_length]; exact hl) _ _ _ (rfl : start1.length = 5)]; decide) hsz (m := sl.len) ho.len.symm
      rw [List.nil_append] at o3
      have f3' : Fr (fun _ => False) w2 w3 := f3.mono fun k hk ⟨y, hy, _⟩ => by cases hy
      refine ⟨w3, l3, hr3, f3', fun y hy => ?_, .inr ⟨o3, hne⟩⟩
      rcases s3 y hy with ⟨z, hz, _⟩ | hn
      · cases hz
      · exact ⟨hn, (o3.blk hy).2⟩
  refine ⟨fun q w' => ∃ eb slE, q = ⟨eb, 0, none⟩ ∧ w.heap.size ≤ eb ∧ HashAt w' eb w.heap.size slE T_sha_hash block1 start1 t ∧ Fr (fun _ => False) w w', ?_, ?_⟩
  · intro w2 d2
    have f2 : Fr (fun _ => False) w w2 := .drew _ d2
    refine ⟨Fr (fun _ => False) w, f2, sl, fun w5 h5 => by rw [cell_blk (h5.keep hblk (by simp))]; rfl, r, fun w5 h5 => by rw [cell_blk (h5.keep hblk (by simp))]; rfl, _, fun w5 h5 => by rw [cell_blk (h5.keep hblk (by simp))]; rfl, ?_, ?_⟩
    · obtain ⟨w10, l11, hr10, f10, hb10, hc⟩ := copy_ w2 f2
      refine ⟨w10, l11, hr10, f2.trans' f10, ?_⟩
      intro w12 hw12
      have f12 : Fr (fun _ => False) w10 w12 := hw12 ▸ Fr.alloc _ _ _
      have hz12 := alloc_new w10 (.cells #[.slice none 0 0, .string ⟨#[]⟩, .int .u64 0] T_sha_hash)
      rw [← hw12] at hz12
      have h12 := (f2.trans' f10).trans' f12
      have hs := run_storeVar_row (P := Try.prog) w12 w10.heap.size T_sha_hash T_sha_hash _ #[.slice l11.a l11.len l11.cap, .string r, .int .u64 (t.length : Int)] hz12 (by kernel_rfl) rfl (by simp [Value.oneCell'])
      refine ⟨h12, _, hs, w10.heap.size, l11, rfl, (f2.trans' f10).size, ?_, ?_⟩
      · have hrow := setRow_heap w12 w10.heap.size _ #[.slice l11.a l11.len l11.cap, .string r, .int .u64 (t.length : Int)] T_sha_hash (0, 0) hz12
        have frow : Fr (· = w10.heap.size) w12 (w12.setRow w10.heap.size #[.slice l11.a l11.len l11.cap, .string r, .int .u64 (t.length : Int)]) := setRow_fr _ _ _ _ rfl
        refine ⟨(f2.trans' f10).size, ⟨r, hr, hrow⟩, hh.len, fun y hy => by have := (hb10 y hy).2; omega, ?_⟩
        rcases hc with ⟨_, h2, h3⟩ | ⟨h1, h2⟩
        · exact .inl ⟨h3, h2⟩
        · refine .inr ⟨(h1.keep f12 (by simp)).keep frow (fun y hy => by have := (hb10 y hy).2; omega), fun hn => ?_⟩
          obtain ⟨y, hy, _⟩ := own_get h1 (i := 0) (by rw [stt, blocks_length (f := block1) (fun h p hl => by rw [block1_length]; exact hl) _ _ _ (rfl : start1.length = 5)]; decide)
          rw [hn] at hy; cases hy
      · exact h12.trans (setRow_fr (· = w10.heap.size) _ _ _ rfl) (fun q hq h => by have := (f2.trans' f10).size; omega)
    · intro w14 hw14
      have f14 : Fr (fun _ => False) w2 w14 := hw14 ▸ Fr.alloc _ _ _
      have hz14 := alloc_new w2 (.cells #[.slice none 0 0, .string ⟨#[]⟩, .int .u64 0] T_sha_hash)
      rw [← hw14] at hz14
      have h14 := f2.trans' f14
      obtain ⟨w15, l16, hr15, f15, hb15, hc⟩ := copy_ w14 h14
      have hz15 := f15.keep hz14 (by simp)
      have hs := run_storeVar_row (P := Try.prog) w15 w2.heap.size T_sha_hash T_sha_hash _ #[.slice l16.a l16.len l16.cap, .string r, .int .u64 (t.length : Int)] hz15 (by kernel_rfl) rfl (by simp [Value.oneCell'])
      have h15 := h14.trans' f15
      have hlt14 := lt_blk hz14
      refine ⟨h14, w15, l16, hr15, h15, _, hs, w2.heap.size, l16, rfl, f2.size, ?_, ?_⟩
      · have hrow := setRow_heap w15 w2.heap.size _ #[.slice l16.a l16.len l16.cap, .string r, .int .u64 (t.length : Int)] T_sha_hash (0, 0) hz15
        have frow : Fr (· = w2.heap.size) w15 (w15.setRow w2.heap.size #[.slice l16.a l16.len l16.cap, .string r, .int .u64 (t.length : Int)]) := setRow_fr _ _ _ _ rfl
        refine ⟨f2.size, ⟨r, hr, hrow⟩, hh.len, fun y hy => by have := (hb15 y hy).1; omega, ?_⟩
        rcases hc with ⟨_, h2, h3⟩ | ⟨h1, h2⟩
        · exact .inl ⟨h3, h2⟩
        · refine .inr ⟨h1.keep frow (fun y hy => by have := (hb15 y hy).1; omega), fun hn => ?_⟩
          obtain ⟨y, hy, _⟩ := own_get h1 (i := 0) (by rw [stt, blocks_length (f := block1) (fun h p hl => by rw [block1_length]; exact hl) _ _ _ (rfl : start1.length = 5)]; decide)
          rw [hn] at hy; cases hy
      · exact h15.trans (setRow_fr (· = w2.heap.size) _ _ _ rfl) (fun q hq h => by have := f2.size; omega)
  rintro q w19 ⟨eb, slE, rfl, heb, hE, f19⟩
  have hb19 := f19.keep hblk (by simp)
  refine ⟨fun w' => ∃ slE, HashAt w' eb w.heap.size slE T_sha_hash block1 start1 t ∧ Fr (fun _ => False) w w', ⟨sl, by rw [cell_blk hb19]; rfl, fun hnone => ?_, fun _ => ⟨slE, hE, f19⟩⟩, ?_⟩
  · rcases hh.own with ⟨h1, h2⟩ | ⟨_, hne⟩
    · obtain ⟨r2, hr2, hblk2⟩ := hE.blk
      refine ⟨wr_blk hblk2 (by simp), ?_⟩
      intro w22 hw22
      have hb22 := set_blk hblk2 0 (.slice none 0 0)
      rw [← hw22] at hb22
      have f22 : Fr (· = eb) w19 w22 := hw22 ▸ Fr.set (· = eb) _ (a := ⟨eb, 0, none⟩) _ rfl
      exact ⟨⟨none, 0, 0⟩, ⟨heb, ⟨r2, hr2, hb22⟩, hh.len, (fun y hy => by cases hy), .inl ⟨rfl, h2⟩⟩, f19.trans f22 (fun q hq h => by omega)⟩
    · exfalso
      cases hsa : sl.a with
      | none => exact hne hsa
      | some y => rw [hsa] at hnone; cases hnone
  clear hE f19 hb19 slE
  rintro w23 ⟨slE, hE, f23⟩
  refine ⟨fun s w' => w' = w23 ∧ ∃ j : Nat, j ≤ (119 - t.length % 64) % 64 ∧ s.data.toList = 0x80 :: List.replicate j 0, fun s _ => 200 - s.size, ⟨rfl, 0, Nat.zero_le _, rfl⟩, ?_⟩
  rintro s26 w27 ⟨rfl, j, hj, hs26⟩
  have hb27 := f23.keep hblk (by simp)
  have hs26l : s26.size = j + 1 := by
    have : s26.data.toList.length = s26.size := by simp
    rw [← this, hs26]; simp
  have htl := hh.len
  have e0 : Int.tmod (IntKind.i64.wrap ((r.size : Int) + (s26.size : Int))) 64 = ((((t.length % 64) + j + 1) % 64 : Nat) : Int) := by
    rw [wrap_i64 (by omega) (by omega), Int.tmod_eq_emod_of_nonneg (by omega)]; omega
  have e00 : ((ByteArray.mk (Array.mk [0])).size : Nat) = 1 := rfl
  refine ⟨r, by rw [cell_blk hb27]; rfl, by decide, ?_⟩
  rw [e0]
  refine ⟨fun hne => ?_, fun heq => ?_⟩
  · have hne : ¬ ((t.length % 64) + j + 1) % 64 = 56 := fun h => by rw [h] at hne; exact absurd hne (by decide)
    have hsz : (s26 ++ ByteArray.mk (Array.mk [0])).size = j + 2 := by rw [ByteArray.size_append, hs26l]; rfl
    refine ⟨by omega, ⟨rfl, j + 1, by omega, ?_⟩, ?_⟩
    · rw [ByteArray.data_append, Array.toList_append, hs26, List.replicate_succ']; rfl
    · dsimp only; omega
  have heq : ((t.length % 64) + j + 1) % 64 = 56 := by
    by_cases h : ((t.length % 64) + j + 1) % 64 = 56
    · exact h
    · exfalso
      have : ((((t.length % 64 + j + 1) % 64 : Nat) : Int) != 56) = true := by simp; omega
      rw [this] at heq; cases heq
  have hjz : j = (119 - t.length % 64) % 64 := by omega
  obtain ⟨bs, hbs⟩ : ∃ bs : List UInt8, (List.range 8).map (fun i => UInt8.ofNat (t.length * 8 / 2 ^ (56 - 8 * i))) = bs := ⟨_, rfl⟩
  have hbl : bs.length = 8 := by rw [← hbs]; simp
  refine ⟨fun l i w' => ∃ m : Nat, m ≤ 8 ∧ i = 56 - 8 * (m : Int) ∧ Own w' w27.heap.size T_uint8 l (byteV (bs.take m)) ∧ Fr (fun _ => False) w27 w', fun _ i _ => (i + 8).toNat, ⟨0, by decide, rfl, Own.nil _ _ _, .refl _ _⟩, ?_⟩
  rintro l31 i w33 ⟨m, hm, rfl, o33, f33⟩
  refine ⟨fun hge => ?_, fun hlt => ?_⟩
  · have hge := of_decide_eq_true hge
    have hb33 := f33.keep hb27 (by simp)
    refine ⟨_, by rw [cell_blk hb33]; rfl, hge, ?_⟩
    have hm8 : m < 8 := by omega
    have hg : bs[m]'(by omega) = UInt8.ofNat (t.length * 8 / 2 ^ (56 - 8 * m)) := by
      have h1 : bs[m]? = some (UInt8.ofNat (t.length * 8 / 2 ^ (56 - 8 * m))) := by
        rw [← hbs, List.getElem?_map, List.getElem?_range hm8]; rfl
      exact (List.getElem?_eq_some_iff.1 h1).2
    have htk : bs.take (m + 1) = bs.take m ++ [UInt8.ofNat (t.length * 8 / 2 ^ (56 - 8 * m))] := by rw [List.take_succ_eq_append_getElem (by omega), hg]
    have ev : IntKind.u8.wrap (Int.fdiv (IntKind.u64.wrap ((t.length : Int) * 8)) (2 ^ min (Int.toNat (56 - 8 * (m : Int))) 64)) = (((UInt8.ofNat (t.length * 8 / 2 ^ (56 - 8 * m))).toNat : Nat) : Int) := by
      have h1 : min (Int.toNat (56 - 8 * (m : Int))) 64 = 56 - 8 * m := by omega
      have hp : (2 : Int) ^ (56 - 8 * m) = ((2 ^ (56 - 8 * m) : Nat) : Int) := by push_cast; rfl
      have h2 : IntKind.u64.wrap ((t.length : Int) * 8) = ((t.length * 8 : Nat) : Int) := by rw [wrap_u64 (by omega) (by omega)]; omega
      rw [h1, hp, h2, Int.fdiv_eq_ediv_of_nonneg _ (Int.natCast_nonneg _), ← Int.natCast_ediv, wrap_u8_mod, UInt8.toNat_ofNat']
      omega
    rw [ev]
    intro w35 hw35
    have hl : (byteV (bs.take m)).length = m := by rw [List.length_map, List.length_take, hbl]; omega
    obtain ⟨w36, l37, hr36, o36, f36⟩ := append_one elByte o33 (v := .int .u8 (((UInt8.ofNat (t.length * 8 / 2 ^ (56 - 8 * m))).toNat : Nat) : Int)) rfl (by rw [hl]; unfold maxLen; omega) (by rw [hl]; omega) f33.size hw35
    have e8 : IntKind.i64.wrap (56 - 8 * (m : Int) - 8) = 56 - 8 * ((m + 1 : Nat) : Int) := by rw [wrap_i64 (by omega) (by omega)]; omega
    rw [e8]
    refine ⟨w36, l37, hr36, ⟨m + 1, by omega, rfl, ?_, f33.trans f36 (fun q hq ⟨y, hy, e⟩ => by have := (o33.blk hy).1; omega)⟩, by dsimp only; omega⟩
    rw [htk, byteV, List.map_append]; exact o36
  have hlt := of_decide_eq_false hlt
  have : m = 8 := by omega
  subst this
  rw [List.take_of_length_le (by omega)] at o33
  have hlb : bs.length = l31.len := by rw [o33.len, List.length_map]
  refine ⟨w33, _, bytes_str elByte.sl (by kernel_rfl) (by kernel_rfl) _ o33.reads hlb, ?_⟩
  have hbsz : (ByteArray.mk bs.toArray).size = 8 := by show bs.toArray.size = 8; rw [List.size_toArray, hbl]
  refine ⟨by omega, ?_⟩
  have hE33 := hE.keep f33 (by simp) (by simp)
  have hX : (s26 ++ ByteArray.mk bs.toArray).data.toList = tail1 t.length := by
    rw [ByteArray.data_append, Array.toList_append, hs26, hjz, tail1, hbs]
  have hXs : (s26 ++ ByteArray.mk bs.toArray).size ≤ 80 := by rw [ByteArray.size_append]; omega
  refine (hw1_spec hE33 c ((hst.keep f23 (by simp)).keep f33 (by simp)) (s26 ++ ByteArray.mk bs.toArray) (by omega)).mono ?_
  rintro e w41 ⟨rfl, sl', hE41, hne41, f41, s41⟩
  rw [hX, ← pad1_eq] at hE41
  have hebl : w.heap.size ≤ eb := heb
  have fE : Fr (fun _ => False) w w41 := (f23.trans' f33).trans f41 (fun q hq h => by
    rcases h with h | ⟨y, hy, h⟩
    · omega
    · rcases hE33.own with ⟨h1, _⟩ | ⟨h1, _⟩
      · rw [h1] at hy; cases hy
      · have := (h1.blk hy).1; omega)
  obtain ⟨r41, hr41, hblk41⟩ := hE41.blk
  have o41 : Own w41 w.heap.size T_uint32 sl' (uv (stt block1 start1 (pad t))) := by
    rcases hE41.own with ⟨h1, h2⟩ | ⟨h1, _⟩
    · rw [h1] at hne41; exact absurd rfl hne41
    · exact h1
  have hWl : (stt block1 start1 (pad t)).length = 5 := blocks_length (f := block1) (fun h p hl => by rw [block1_length]; exact hl) _ _ _ rfl
  refine ⟨rfl, sl', by rw [cell_blk hblk41]; rfl, ?_⟩
  have hsl' : sl'.len = 5 := by rw [o41.len, uv_len, hWl]
  have hdg : digest block1 start1 t = out (stt block1 start1 (pad t)) := rfl
  rw [hdg]
  generalize stt block1 start1 (pad t) = WS at o41 hWl
  refine ⟨fun l i w' => ∃ m : Nat, m ≤ 5 ∧ i = (m : Int) ∧ Own w' w41.heap.size T_uint8 l (byteV (out (WS.take m))) ∧ Fr (fun _ => False) w41 w', fun _ i _ => ((5 : Int) - i).toNat, ⟨0, by decide, rfl, Own.nil _ _ _, .refl _ _⟩, ?_⟩
  rintro l45 i w47 ⟨m, hm, rfl, o47, f47⟩
  have houtl : ∀ l : List ShaM.W, (out l).length = 4 * l.length := fun l => by
    induction l with
    | nil => rfl
    | cons x l ih => 
      show (outw x ++ out l).length = _
      rw [List.length_append, ih, List.length_cons]; simp only [outw, List.length_cons, List.length_nil]; omega
  refine ⟨fun hlt => ?_, fun hge => ?_⟩
  · have hlt := of_decide_eq_true hlt
    have hml : m < WS.length := by omega
    obtain ⟨y, hy, hc⟩ := own_get (o41.keep f47 (by simp)) (i := m) hml
    have e1 : IntKind.i64.wrap ((m : Int) + 1) = ((m + 1 : Nat) : Int) := by rw [wrap_i64 (by omega) (by omega)]; omega
    refine ⟨⟨by omega, by omega⟩, y, hy, _, by rw [Int.toNat_natCast, Nat.mul_one]; exact hc, by decide, by decide, by decide, ?_⟩
    rw [outw1_eq, e1]
    have hg : WS.getD m 0 = WS[m] := by rw [List.getD_eq_getElem?_getD, List.getElem?_eq_getElem hml]; rfl
    rw [hg]
    have htk : out (WS.take (m + 1)) = out (WS.take m) ++ outw WS[m] := by
      rw [List.take_succ_eq_append_getElem hml, out, List.flatMap_append]; simp [out]
    generalize WS[m] = x at htk
    intro w50 hw50
    have f50 : Fr (fun _ => False) w47 w50 := hw50 ▸ Fr.alloc _ _ _
    have hz50 := alloc_new w47 (.cells (byteV (outw x)).toArray T_uint8)
    rw [← hw50] at hz50
    have hrd : Reads w50 (some ⟨w47.heap.size, 0, none⟩) (byteV (outw x)) := fun i v hv => by
      refine ⟨_, rfl, ?_⟩
      rw [add_lit, cell_blk hz50, Nat.zero_add, ← hv]; simp
    have hl : (byteV (out (WS.take m))).length = 4 * m := by rw [List.length_map, houtl, List.length_take]; omega
    obtain ⟨w51, l52, hr51, o51, f51⟩ := append_all elByte (o47.keep f50 (by simp)) 4 hrd (byteV_one _) (by rw [hl]; simp [outw, maxLen]; omega) (by rw [hl]; simp [outw]; omega) (f47.trans' f50).size (m := 4) (by simp [outw])
    refine ⟨w51, l52, hr51, ⟨m + 1, by omega, rfl, ?_, (f47.trans' f50).trans f51 (fun q hq ⟨y, hy, e⟩ => by have := (o47.blk hy).1; omega)⟩, by dsimp only; omega⟩
    rw [htk, byteV, List.map_append]; exact o51
  · have hge := of_decide_eq_false hge
    have : m = 5 := by omega
    subst this
    rw [List.take_of_length_le (by omega)] at o47
    exact ⟨w47, _, bytes_str elByte.sl (by kernel_rfl) (by kernel_rfl) _ o47.reads (by rw [o47.len, List.length_map]), rfl, fE.trans' f47⟩
end Go.Proofs.Ytoagdpjickippaa

/- Hash1 and Sum1 of the package sha. Conditions: the texts are short enough for a slice to hold (2 to the 40th). -/
set_option linter.unusedVariables false
namespace Go.Proofs.Ytoagdpjickippaa
open Go Vc ShaM Go.Proofs

theorem start1_spec (w : World) : Calls Try.prog F_sha_start1 #[] w fun e w' => e = .returned (.slice (some ⟨w.heap.size, 0, none⟩) 5 5) ∧ Own w' w.heap.size T_uint32 ⟨some ⟨w.heap.size, 0, none⟩, 5, 5⟩ (uv start1) ∧ Fr (fun _ => False) w w' := by
  refine vc_sha_start1_ok (R := fun v w' => v = .slice (some ⟨w.heap.size, 0, none⟩) 5 5 ∧ Own w' w.heap.size T_uint32 ⟨some ⟨w.heap.size, 0, none⟩, 5, 5⟩ (uv start1) ∧ Fr (fun _ => False) w w') ?_ (fun v w' h => ⟨by rw [h.1], h.2⟩)
  intro w1 hw1
  exact ⟨rfl, ⟨rfl, .inr ⟨w.heap.size, _, rfl, Nat.le_refl _, hw1 ▸ alloc_new _ _, Nat.le_refl _, by simp [maxLen], rfl, rfl⟩⟩, hw1 ▸ Fr.alloc _ _ _⟩
theorem HashAt.zero {w w' : World} {T : TypeId} (f : List ShaM.W → List UInt8 → List ShaM.W) (st : List ShaM.W) (h : w' = w.alloc (.cells #[.slice none 0 0, .string ⟨#[]⟩, .int .u64 0] T)) : HashAt w' w.heap.size w.heap.size ⟨none, 0, 0⟩ T f st [] :=
  ⟨Nat.le_refl _, ⟨⟨#[]⟩, rfl, by rw [h]; exact alloc_new _ _⟩, Nat.zero_le _, (fun y hy => by cases hy), .inl ⟨rfl, rfl⟩⟩
section
variable {w : World} {b lo : Nat} {sl : Sl} {T : TypeId} {t : List UInt8}
theorem since_back {w w1 : World} {sl sl' : Sl} (f : Fr (fun _ => False) w w1) (h : Since w1 sl sl') : Since w sl sl' := fun y hy => by
  rcases h y hy with h | h
  · exact .inl h
  · exact .inr (by have := f.size; omega)
theorem h1write_spec (hh : HashAt w b lo sl T block1 start1 t) (x : ByteArray) (hx : t.length + x.size ≤ 1099511627776) :
    Calls Try.prog F_sha_Hash1_Write #[.pointer (some ⟨b, 0, none⟩), .string x] w fun e w' =>
      e = .returned (.tuple #[]) ∧ ∃ sl', HashAt w' b lo sl' T block1 start1 (t ++ x.data.toList) ∧ Fr (fun k => k = b ∨ Vc.At sl k) w w' ∧ Since w sl sl' := by
  refine vc_sha_Hash1_Write_ok (R := fun v w' => v = .tuple #[] ∧ ∃ sl', HashAt w' b lo sl' T block1 start1 (t ++ x.data.toList) ∧ Fr (fun k => k = b ∨ Vc.At sl k) w w' ∧ Since w sl sl') ?_ (fun v w' h => ⟨by rw [h.1], h.2⟩)
  intro w1 d1
  refine ⟨fun _ => True, trivial, (start1_spec w1).mono ?_⟩
  rintro e w4 ⟨rfl, o4, f4⟩
  have f14 : Fr (fun _ => False) w w4 := (Fr.drew _ d1).trans' f4
  refine ⟨⟨_, 5, 5⟩, rfl, trivial, ?_⟩
  refine (hw1_spec (hh.keep f14 (by simp) (by simp)) 5 o4.reads x hx).mono ?_
  rintro e w7 ⟨rfl, sl', h7, _, f7, s7⟩
  exact ⟨rfl, rfl, sl', h7, (f14.mono (by simp)).trans f7 (fun k _ h => h), since_back f14 s7⟩
theorem h1sum_spec (hh : HashAt w b lo sl T block1 start1 t) (hx : t.length + 200 ≤ 1099511627776) :
    Calls Try.prog F_sha_Hash1_Sum #[.pointer (some ⟨b, 0, none⟩)] w fun e w' => e = .returned (.string ⟨(digest block1 start1 t).toArray⟩) ∧ Fr (fun _ => False) w w' := by
  refine vc_sha_Hash1_Sum_ok (R := fun v w' => v = .string ⟨(digest block1 start1 t).toArray⟩ ∧ Fr (fun _ => False) w w') ?_ (fun v w' h => ⟨by rw [h.1], h.2⟩)
  intro w1 d1
  refine ⟨fun _ => True, trivial, (start1_spec w1).mono ?_⟩
  rintro e w4 ⟨rfl, o4, f4⟩
  have f14 : Fr (fun _ => False) w w4 := (Fr.drew _ d1).trans' f4
  refine ⟨⟨_, 5, 5⟩, rfl, trivial, ?_⟩
  refine (hs1_spec (hh.keep f14 (by simp) (by simp)) 5 o4.reads hx).mono ?_
  rintro e w7 ⟨rfl, f7⟩
  exact ⟨_, rfl, trivial, rfl, f14.trans' f7⟩
end
theorem sum1_spec (x : ByteArray) (hx : x.size + 200 ≤ 1099511627776) (w : World) : Calls Try.prog F_sha_Sum1 #[.string x] w fun e w' => e = .returned (.string ⟨(digest block1 start1 x.data.toList).toArray⟩) ∧ Fr (fun _ => False) w w' := by
  refine vc_sha_Sum1_ok (R := fun v w' => v = .string ⟨(digest block1 start1 x.data.toList).toArray⟩ ∧ Fr (fun _ => False) w w') ?_ (fun v w' h => ⟨by rw [h.1], h.2⟩)
  intro w1 hw1
  have f1 : Fr (fun _ => False) w w1 := hw1 ▸ Fr.alloc _ _ _
  have h1 := HashAt.zero (T := T_sha_Hash1) block1 start1 hw1
  refine (h1write_spec h1 x (by simp; omega)).mono ?_
  rintro e w3 ⟨rfl, sl', h3, f3, _⟩
  refine ⟨rfl, (h1sum_spec h3 (by simp; omega)).mono ?_⟩
  rintro e w5 ⟨rfl, f5⟩
  refine ⟨_, rfl, rfl, (f1.trans f3 (fun k hk h => ?_)).trans' f5⟩
  rcases h with h | ⟨y, hy, _⟩
  · omega
  · cases hy
end Go.Proofs.Ytoagdpjickippaa

/- The shapes of the types of this seat, a row a type. No condition. -/
import Derived.Test.YtoagdpjickippaaVcCode
namespace Go.Proofs.Ytoagdpjickippaa
open Vc
def tyL : List Sh := [
  .tup [],
  .one (.any),
  .one (.int .i64),
  .one (.int .i64),
  .one (.bool),
  .one (.int .u8),
  .one (.int .u8),
  .agg [.int .i64, .int .i64, .bool, .int .u8],
  .agg [.int .i64, .int .i64, .bool, .int .u8],
  .one (.str),
  .one (.str),
  .one (.str),
  .one (.int .u64),
  .agg [.str, .int .u64],
  .agg [.str, .int .u64],
  .one (.ptr),
  .one (.ptr),
  .one (.ptr),
  .agg [.ptr],
  .agg [.ptr],
  .one (.any),
  .one (.int .i32),
  .one (.slice),
  .one (.int .i64),
  .tup [(.one (.str)), (.one (.int .i64))],
  .one (.any),
  .one (.any),
  .one (.ptr),
  .tup [(.one (.ptr)), (.one (.int .i64))],
  .one (.any),
  .one (.int .u32),
  .agg [.str, .int .i64, .int .u32],
  .agg [.str, .int .i64, .int .u32],
  .tup [(.agg [.str, .int .i64, .int .u32]), (.one (.int .i64))],
  .one (.any),
  .one (.slice),
  .one (.any),
  .one (.any),
  .one (.any),
  .one (.slice),
  .tup [(.one (.slice)), (.one (.str)), (.one (.int .i64))],
  .one (.any),
  .one (.any),
  .one (.any),
  .agg [.str, .int .i64, .int .u32],
  .one (.any),
  .one (.any),
  .one (.any),
  .one (.any),
  .one (.any),
  .one (.any),
  .one (.any),
  .one (.any),
  .one (.any),
  .tup [(.one (.str)), (.one (.bool))],
  .one (.any),
  .one .any,
  .one (.any),
  .one (.int .u64),
  .one (.any),
  .one (.any),
  .one .any,
  .one .any,
  .one .any,
  .one (.any),
  .tup [(.one (.int .i64)), (.one (.bool))],
  .one (.any),
  .one (.any),
  .one (.slice),
  .one (.slice),
  .one (.any),
  .one (.any),
  .one (.any),
  .one (.any),
  .one (.any),
  .one (.int .u64),
  .one (.any),
  .one (.slice),
  .agg [.slice, .str, .int .u64],
  .agg [.slice, .str, .int .u64],
  .agg [.slice, .str, .int .u64],
  .agg [.slice, .str, .int .u64],
  .one (.any),
  .one (.any),
  .one (.any),
  .one (.any),
  .one (.any),
  .one (.any),
  .one (.int .i64),
  .tup [(.one (.int .i64)), (.one (.int .i64))],
  .one (.any),
  .one (.any),
  .one (.any),
  .one (.any),
  .one (.any),
  .one (.any),
  .one (.ptr),
  .one (.any),
  .one (.any),
  .one (.any),
  .one (.any),
  .one (.int .u64),
  .one (.any),
  .one (.any),
  .one (.any),
  .one (.ptr),
  .one (.any),
  .one (.ptr),
  .one (.any),
  .one .any,
  .one (.any),
  .one (.ptr),
  .tup [(.one (.int .i64)), (.one (.int .i64))],
  .one (.any),
  .agg [.ptr, .ptr, .ptr, .str],
  .agg [.ptr, .ptr, .ptr, .str],
  .agg [],
  .agg [],
  .agg [],
  .one (.int .u8),
  .one (.int .u8),
  .one (.any),
  .one (.ptr),
  .one (.int .i32),
  .one (.int .i32),
  .agg [.int .u64, .int .u64, .int .u32, .int .u8, .int .u8, .int .u8, .int .u8, .any, .ptr, .int .i32, .int .i32],
  .agg [.int .u64, .int .u64, .int .u32, .int .u8, .int .u8, .int .u8, .int .u8, .any, .ptr, .int .i32, .int .i32],
  .one (.any)]
def nth : List Sh → Nat → Sh
  | [], _ => .one .any
  | s :: _, 0 => s
  | _ :: r, n + 1 => nth r n
def ty (n : Nat) : Sh := nth tyL n
abbrev F_main_main : Nat := 0
abbrev F_gosem_cut : Nat := 1
abbrev F_gosem_cut_init : Nat := 2
abbrev F_cartularylaw12_PackidxFinds : Nat := 3
abbrev F_cartularylaw12_PackidxReads : Nat := 4
abbrev F_cartularylaw12_PackidxBuilds : Nat := 5
abbrev F_packidx_Build : Nat := 6
abbrev F_cartularylaw12_awake : Nat := 7
abbrev F_packidx_Parse : Nat := 8
abbrev F_packidx_Idx_Find : Nat := 9
abbrev F_packidx_Idx_Match : Nat := 10
abbrev F_cartularylaw01_Few : Nat := 11
abbrev F_cartularyref12_Parse : Nat := 12
abbrev F_cartularylaw12_is : Nat := 13
abbrev F_cartularyref12_Check : Nat := 14
abbrev F_cartularyref12_Text : Nat := 15
abbrev F_cartularyref12_Sorted : Nat := 16
abbrev F_slices_Clone : Nat := 17
abbrev F_slices_SortFunc : Nat := 18
abbrev F_packidx_Build_1 : Nat := 19
abbrev F_strings_Compare : Nat := 20
abbrev F_sums_Id : Nat := 21
abbrev F_sums_Unhex : Nat := 22
abbrev F_sums_Big : Nat := 23
abbrev F_sha_Sum1 : Nat := 24
abbrev F_packidx_Idx_Len : Nat := 25
abbrev F_sums_FromBig : Nat := 26
abbrev F_sums_Hex : Nat := 27
abbrev F_slices_BinarySearchFunc : Nat := 28
abbrev F_packidx_Idx_Find_1 : Nat := 29
abbrev F_packidx_Idx_Match_1 : Nat := 30
abbrev F_strings_HasPrefix : Nat := 31
abbrev F_cartularyref01_Number : Nat := 32
abbrev F_cartularyref01_Hex : Nat := 33
abbrev F_cartularyref02_Sum1 : Nat := 34
abbrev F_packidx_Idx_Sum : Nat := 35
abbrev F_packidx_Idx_At : Nat := 36
abbrev F_cartularyref07_Begins : Nat := 37
abbrev F_cartularyref07_Same : Nat := 38
abbrev F_cartularyref09_Id : Nat := 39
abbrev F_cartularyref01_Unhex : Nat := 40
abbrev F_cartularyref01_Big : Nat := 41
abbrev F_slices_pdqsortCmpFunc : Nat := 42
abbrev F_bits_Len : Nat := 43
abbrev F_bytealg_CompareString : Nat := 44
abbrev F_sums_digit : Nat := 45
abbrev F_sha_Hash1_Write : Nat := 46
abbrev F_sha_Hash1_Sum : Nat := 47
abbrev F_stringslite_HasPrefix : Nat := 48
abbrev F_cartularyref02_Pad : Nat := 49
abbrev F_cartularyref02_words : Nat := 50
abbrev F_cartularyref02_turn : Nat := 51
abbrev F_cartularyref02_out : Nat := 52
abbrev F_cartularyref01_Hexed : Nat := 53
abbrev F_cartularyref01_Turn : Nat := 54
abbrev F_cartularyref01_Little : Nat := 55
abbrev F_slices_insertionSortCmpFunc : Nat := 56
abbrev F_slices_heapSortCmpFunc : Nat := 57
abbrev F_slices_breakPatternsCmpFunc : Nat := 58
abbrev F_slices_choosePivotCmpFunc : Nat := 59
abbrev F_slices_reverseRangeCmpFunc : Nat := 60
abbrev F_slices_partialInsertionSortCmpFunc : Nat := 61
abbrev F_slices_partitionEqualCmpFunc : Nat := 62
abbrev F_slices_partitionCmpFunc : Nat := 63
abbrev F_bits_Len32 : Nat := 64
abbrev F_bits_Len64 : Nat := 65
abbrev F_bytealg_abigen_runtime_cmpstring : Nat := 66
abbrev F_sha_hash_write : Nat := 67
abbrev F_sha_start1 : Nat := 68
abbrev F_sha_block1 : Nat := 69
abbrev F_sha_hash_sum : Nat := 70
abbrev F_slices_siftDownCmpFunc : Nat := 71
abbrev F_slices_nextPowerOfTwo : Nat := 72
abbrev F_slices_xorshift_Next : Nat := 73
abbrev F_slices_medianAdjacentCmpFunc : Nat := 74
abbrev F_slices_medianCmpFunc : Nat := 75
abbrev F_sha_word : Nat := 76
abbrev F_bits_RotateLeft32 : Nat := 77
abbrev F_slices_order2CmpFunc : Nat := 78
abbrev F_runtime_boundsError_Error : Nat := 79
abbrev F_runtime_boundsError_RuntimeError : Nat := 80
abbrev F_runtime_errorString_Error : Nat := 81
abbrev F_runtime_errorString_RuntimeError : Nat := 82
abbrev F_runtime_plainError_Error : Nat := 83
abbrev F_runtime_plainError_RuntimeError : Nat := 84
abbrev F_runtime_errorAddressString_Error : Nat := 85
abbrev F_runtime_errorAddressString_RuntimeError : Nat := 86
abbrev F_runtime_TypeAssertionError_Error : Nat := 87
abbrev F_runtime_TypeAssertionError_RuntimeError : Nat := 88
abbrev F_runtime_PanicNilError_Error : Nat := 89
abbrev F_runtime_PanicNilError_RuntimeError : Nat := 90
abbrev F_abi_Type_Align : Nat := 91
abbrev F_maps_unhashableTypeError_Error : Nat := 92
abbrev F_maps_unhashableTypeError_RuntimeError : Nat := 93
abbrev F_abi_Kind_String : Nat := 94
abbrev T_int64 : Nat := 2
abbrev T_int : Nat := 3
abbrev T_bool : Nat := 4
abbrev T_uint8 : Nat := 5
abbrev T_abi_BoundsErrorCode : Nat := 6
abbrev T_runtime_boundsError : Nat := 8
abbrev T_string : Nat := 9
abbrev T_runtime_errorString : Nat := 10
abbrev T_runtime_plainError : Nat := 11
abbrev T_uintptr : Nat := 12
abbrev T_runtime_errorAddressString : Nat := 14
abbrev T_P_runtime_TypeAssertionError : Nat := 15
abbrev T_P_runtime_PanicNilError : Nat := 16
abbrev T_P_abi_Type : Nat := 17
abbrev T_maps_unhashableTypeError : Nat := 19
abbrev T_int32 : Nat := 21
abbrev T_S_packidx_Row : Nat := 22
abbrev T_api_Errno : Nat := 23
abbrev T_P_packidx_Idx : Nat := 27
abbrev T_uint32 : Nat := 30
abbrev T_packidx_Row : Nat := 32
abbrev T_S_string : Nat := 35
abbrev T_S_cartularyref12_Row : Nat := 39
abbrev T_cartularyref12_Row : Nat := 44
abbrev T_256_int : Nat := 56
abbrev T_uint64 : Nat := 58
abbrev T_257_int : Nat := 61
abbrev T_packidx_Idx : Nat := 63
abbrev T_S_uint8 : Nat := 68
abbrev T_S_uint64 : Nat := 69
abbrev T_uint : Nat := 75
abbrev T_S_uint32 : Nat := 77
abbrev T_sha_hash : Nat := 79
abbrev T_sha_Hash1 : Nat := 81
abbrev T_slices_sortedHint : Nat := 88
abbrev T_P_sha_Hash1 : Nat := 96
abbrev T_slices_xorshift : Nat := 101
abbrev T_P_int : Nat := 105
abbrev T_P_sha_hash : Nat := 107
abbrev T_sha_block : Nat := 108
abbrev T_80_uint32 : Nat := 109
abbrev T_P_slices_xorshift : Nat := 111
abbrev T_runtime_TypeAssertionError : Nat := 115
abbrev T_0_P_runtime_PanicNilError : Nat := 116
abbrev T_runtime_PanicNilError : Nat := 118
abbrev T_abi_TFlag : Nat := 119
abbrev T_abi_Kind : Nat := 120
abbrev T_P_uint8 : Nat := 122
abbrev T_abi_NameOff : Nat := 123
abbrev T_abi_TypeOff : Nat := 124
abbrev T_abi_Type : Nat := 126
abbrev G_bytealg_MaxLen : Nat := 0
end Go.Proofs.Ytoagdpjickippaa

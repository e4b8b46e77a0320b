/- The shapes of the types of this seat, a row a type. No condition. -/
import Derived.Test.YtcboiljbkkleiaaVcCode
namespace Go.Proofs.Ytcboiljbkkleiaa
open Vc
def tyL : List Sh := [
  .tup [],
  .one (.any),
  .one (.int .i64),
  .one (.int .i64),
  .one (.bool),
  .one (.int .u8),
  .one (.int .u8),
  .agg [.int .i64, .int .i64, .bool, .int .u8],
  .agg [.int .i64, .int .i64, .bool, .int .u8],
  .one (.str),
  .one (.str),
  .one (.str),
  .one (.int .u64),
  .agg [.str, .int .u64],
  .agg [.str, .int .u64],
  .one (.ptr),
  .one (.ptr),
  .one (.ptr),
  .agg [.ptr],
  .agg [.ptr],
  .one (.any),
  .one (.int .i32),
  .one (.slice),
  .one (.ptr),
  .one (.any),
  .one (.any),
  .one (.int .u32),
  .tup [(.one (.int .u32)), (.one (.int .i64))],
  .one (.any),
  .tup [(.one (.int .u32)), (.one (.bool))],
  .one (.any),
  .one (.any),
  .one (.any),
  .one (.any),
  .one (.ptr),
  .one (.int .i64),
  .tup [(.one (.ptr)), (.one (.int .i64))],
  .one (.any),
  .one (.any),
  .one (.slice),
  .one (.any),
  .one (.slice),
  .one (.any),
  .one (.any),
  .one (.any),
  .one (.slice),
  .one (.any),
  .one (.any),
  .agg [.int .i64, .int .i64, .int .u32, .str],
  .agg [.int .i64, .int .i64, .int .u32, .str],
  .one (.any),
  .one (.any),
  .tup [(.one (.str)), (.one (.bool))],
  .one (.any),
  .one (.any),
  .one (.any),
  .one (.slice),
  .one (.slice),
  .one (.int .u64),
  .agg [.slice, .int .u64, .int .i64],
  .agg [.slice, .int .u64, .int .i64],
  .one (.any),
  .one (.any),
  .one (.any),
  .one (.any),
  .one (.any),
  .one (.any),
  .tup [(.one (.int .i64)), (.one (.int .i64))],
  .one (.any),
  .tup [(.one (.int .i64)), (.one (.int .i64)), (.one (.int .i64))],
  .one (.any),
  .one (.any),
  .one (.any),
  .one (.any),
  .one (.any),
  .one (.any),
  .one (.slice),
  .agg [.slice, .str, .int .u64],
  .agg [.slice, .str, .int .u64],
  .agg [.slice, .str, .int .u64],
  .agg [.slice, .str, .int .u64],
  .agg [.slice, .str, .int .u64],
  .one (.any),
  .one (.any),
  .one (.any),
  .agg [.str, .int .i64, .int .u64, .int .i64, .int .i64],
  .agg [.str, .int .i64, .int .u64, .int .i64, .int .i64],
  .one (.any),
  .agg [.int .i64, .int .i64, .int .i64, .int .i64, .int .i64, .int .i64, .int .i64, .int .i64, .int .i64, .int .i64, .int .i64, .int .i64, .int .i64, .int .i64, .int .i64, .int .i64],
  .agg [.slice, .int .i64, .int .i64, .int .i64, .int .i64, .int .i64, .int .i64, .int .i64, .int .i64, .int .i64, .int .i64, .int .i64, .int .i64, .int .i64, .int .i64, .int .i64, .int .i64, .slice],
  .agg [.slice, .int .i64, .int .i64, .int .i64, .int .i64, .int .i64, .int .i64, .int .i64, .int .i64, .int .i64, .int .i64, .int .i64, .int .i64, .int .i64, .int .i64, .int .i64, .int .i64, .slice],
  .one (.int .u64),
  .one (.ptr),
  .one (.any),
  .one (.any),
  .one (.any),
  .one (.any),
  .one (.any),
  .one (.slice),
  .one (.any),
  .one (.any),
  .one (.ptr),
  .one (.any),
  .one (.any),
  .one (.ptr),
  .one (.any),
  .one (.any),
  .one (.ptr),
  .one (.any),
  .one .any,
  .one (.any),
  .one .any,
  .one (.any),
  .agg [.int .u32, .int .u32, .int .u32, .int .u32, .int .u32, .int .u32, .int .u32, .int .u32],
  .tup [(.one (.int .u64)), (.one (.int .u64))],
  .one (.any),
  .agg [.ptr, .ptr, .ptr, .str],
  .agg [.ptr, .ptr, .ptr, .str],
  .agg [],
  .agg [],
  .agg [],
  .one (.int .u8),
  .one (.int .u8),
  .one (.any),
  .one (.ptr),
  .one (.int .i32),
  .one (.int .i32),
  .agg [.int .u64, .int .u64, .int .u32, .int .u8, .int .u8, .int .u8, .int .u8, .any, .ptr, .int .i32, .int .i32],
  .agg [.int .u64, .int .u64, .int .u32, .int .u8, .int .u8, .int .u8, .int .u8, .any, .ptr, .int .i32, .int .i32],
  .one (.any)]
def nth : List Sh → Nat → Sh
  | [], _ => .one .any
  | s :: _, 0 => s
  | _ :: r, n + 1 => nth r n
def ty (n : Nat) : Sh := nth tyL n
abbrev F_main_main : Nat := 0
abbrev F_gosem_cut : Nat := 1
abbrev F_gosem_cut_init : Nat := 2
abbrev F_cartularylaw03_BitinPeeks : Nat := 3
abbrev F_cartularylaw04_HuffCodes : Nat := 4
abbrev F_cartularylaw04_HuffApart : Nat := 5
abbrev F_cartularylaw03_BitinReads : Nat := 6
abbrev F_cartularylaw03_BitinBack : Nat := 7
abbrev F_cartularylaw03_BitinWrites : Nat := 8
abbrev F_cartularylaw04_HuffReads : Nat := 9
abbrev F_cartularylaw04_HuffAll : Nat := 10
abbrev F_cartularylaw02_ShaSums : Nat := 11
abbrev F_cartularylaw02_ShaParts : Nat := 12
abbrev F_cartularylaw02_ShaAsks : Nat := 13
abbrev F_cartularylaw04_HuffBack : Nat := 14
abbrev F_bitin_New : Nat := 15
abbrev F_bitin_Reader_Left : Nat := 16
abbrev F_bitin_Reader_Peek : Nat := 17
abbrev F_bitin_Reader_Bits : Nat := 18
abbrev F_cartularylaw03_awake : Nat := 19
abbrev F_bitin_Reader_Used : Nat := 20
abbrev F_cartularylaw04_few : Nat := 21
abbrev F_huff_New : Nat := 22
abbrev F_cartularyref04_Check : Nat := 23
abbrev F_cartularylaw04_awake : Nat := 24
abbrev F_cartularyref04_Codes : Nat := 25
abbrev F_huff_Table_Code : Nat := 26
abbrev F_cartularyref03_Number : Nat := 27
abbrev F_cartularyref03_Turn : Nat := 28
abbrev F_cartularylaw01_Few : Nat := 29
abbrev F_cartularyref03_Bits : Nat := 30
abbrev F_bitin_Reader_Skip : Nat := 31
abbrev F_bitin_Reader_Align : Nat := 32
abbrev F_cartularyref03_Up : Nat := 33
abbrev F_bitin_Reader_Bytes : Nat := 34
abbrev F_cartularyref03_Text : Nat := 35
abbrev F_bitin_Writer_Bits : Nat := 36
abbrev F_bitin_Writer_Text : Nat := 37
abbrev F_cartularyref03_Low : Nat := 38
abbrev F_bitin_Writer_Code : Nat := 39
abbrev F_bitin_Writer_Align : Nat := 40
abbrev F_bitin_Writer_Bytes : Nat := 41
abbrev F_huff_Table_Read : Nat := 42
abbrev F_cartularyref04_Read : Nat := 43
abbrev F_cartularylaw02_awake : Nat := 44
abbrev F_sha_Sum1 : Nat := 45
abbrev F_cartularyref02_Sum1 : Nat := 46
abbrev F_sha_Sum256 : Nat := 47
abbrev F_cartularyref02_Sum256 : Nat := 48
abbrev F_cartularyref02_Table : Nat := 49
abbrev F_sha_Hash1_Write : Nat := 50
abbrev F_sha_Hash256_Write : Nat := 51
abbrev F_sha_Hash1_Sum : Nat := 52
abbrev F_sha_Hash256_Sum : Nat := 53
abbrev F_bitin_Reader_fill : Nat := 54
abbrev F_cartularyref04_begins : Nat := 55
abbrev F_cartularyref01_Hex : Nat := 56
abbrev F_cartularyref02_Pad : Nat := 57
abbrev F_cartularyref02_words : Nat := 58
abbrev F_cartularyref02_turn : Nat := 59
abbrev F_cartularyref02_out : Nat := 60
abbrev F_cartularyref02_primes : Nat := 61
abbrev F_cartularyref02_Roots : Nat := 62
abbrev F_sha_hash_write : Nat := 63
abbrev F_sha_start1 : Nat := 64
abbrev F_sha_block1 : Nat := 65
abbrev F_sha_start256 : Nat := 66
abbrev F_sha_block256 : Nat := 67
abbrev F_sha_hash_sum : Nat := 68
abbrev F_cartularyref02_under : Nat := 69
abbrev F_sha_word : Nat := 70
abbrev F_bits_RotateLeft32 : Nat := 71
abbrev F_sha_table256 : Nat := 72
abbrev F_cartularyref02_mul : Nat := 73
abbrev F_runtime_boundsError_Error : Nat := 74
abbrev F_runtime_boundsError_RuntimeError : Nat := 75
abbrev F_runtime_errorString_Error : Nat := 76
abbrev F_runtime_errorString_RuntimeError : Nat := 77
abbrev F_runtime_plainError_Error : Nat := 78
abbrev F_runtime_plainError_RuntimeError : Nat := 79
abbrev F_runtime_errorAddressString_Error : Nat := 80
abbrev F_runtime_errorAddressString_RuntimeError : Nat := 81
abbrev F_runtime_TypeAssertionError_Error : Nat := 82
abbrev F_runtime_TypeAssertionError_RuntimeError : Nat := 83
abbrev F_runtime_PanicNilError_Error : Nat := 84
abbrev F_runtime_PanicNilError_RuntimeError : Nat := 85
abbrev F_abi_Type_Align : Nat := 86
abbrev F_maps_unhashableTypeError_Error : Nat := 87
abbrev F_maps_unhashableTypeError_RuntimeError : Nat := 88
abbrev F_abi_Kind_String : Nat := 89
abbrev T_int64 : Nat := 2
abbrev T_int : Nat := 3
abbrev T_bool : Nat := 4
abbrev T_uint8 : Nat := 5
abbrev T_abi_BoundsErrorCode : Nat := 6
abbrev T_runtime_boundsError : Nat := 8
abbrev T_string : Nat := 9
abbrev T_runtime_errorString : Nat := 10
abbrev T_runtime_plainError : Nat := 11
abbrev T_uintptr : Nat := 12
abbrev T_runtime_errorAddressString : Nat := 14
abbrev T_P_runtime_TypeAssertionError : Nat := 15
abbrev T_P_runtime_PanicNilError : Nat := 16
abbrev T_P_abi_Type : Nat := 17
abbrev T_maps_unhashableTypeError : Nat := 19
abbrev T_int32 : Nat := 21
abbrev T_S_int : Nat := 22
abbrev T_P_bitin_Reader : Nat := 23
abbrev T_uint32 : Nat := 26
abbrev T_P_huff_Table : Nat := 34
abbrev T_api_Errno : Nat := 35
abbrev T_S_S_bool : Nat := 39
abbrev T_S_bool : Nat := 41
abbrev T_S_cartularylaw03_Op : Nat := 45
abbrev T_cartularylaw03_Op : Nat := 49
abbrev T_S_uint32 : Nat := 56
abbrev T_S_uint8 : Nat := 57
abbrev T_uint64 : Nat := 58
abbrev T_bitin_Writer : Nat := 60
abbrev T_S_string : Nat := 76
abbrev T_sha_hash : Nat := 78
abbrev T_sha_Hash1 : Nat := 80
abbrev T_sha_Hash256 : Nat := 81
abbrev T_bitin_Reader : Nat := 86
abbrev T_16_int : Nat := 88
abbrev T_huff_Table : Nat := 90
abbrev T_uint : Nat := 91
abbrev T_P_bitin_Writer : Nat := 92
abbrev T_S_uint64 : Nat := 98
abbrev T_P_sha_Hash1 : Nat := 101
abbrev T_P_sha_Hash256 : Nat := 104
abbrev T_P_sha_hash : Nat := 107
abbrev T_sha_block : Nat := 108
abbrev T_80_uint32 : Nat := 109
abbrev T_64_uint32 : Nat := 111
abbrev T_8_uint32 : Nat := 113
abbrev T_runtime_TypeAssertionError : Nat := 117
abbrev T_0_P_runtime_PanicNilError : Nat := 118
abbrev T_runtime_PanicNilError : Nat := 120
abbrev T_abi_TFlag : Nat := 121
abbrev T_abi_Kind : Nat := 122
abbrev T_P_uint8 : Nat := 124
abbrev T_abi_NameOff : Nat := 125
abbrev T_abi_TypeOff : Nat := 126
abbrev T_abi_Type : Nat := 128
end Go.Proofs.Ytcboiljbkkleiaa

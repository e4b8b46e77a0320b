/- The shapes of the types of this seat, a row a type. No condition. -/
import Derived.Test.YtcebplekflpbiaaVcCode
namespace Go.Proofs.Ytcebplekflpbiaa
open Vc
def tyL : List Sh := [
  .tup [],
  .one (.any),
  .one (.int .i64),
  .one (.int .i64),
  .one (.bool),
  .one (.int .u8),
  .one (.int .u8),
  .agg [.int .i64, .int .i64, .bool, .int .u8],
  .agg [.int .i64, .int .i64, .bool, .int .u8],
  .one (.str),
  .one (.str),
  .one (.str),
  .one (.int .u64),
  .agg [.str, .int .u64],
  .agg [.str, .int .u64],
  .one (.ptr),
  .one (.ptr),
  .one (.ptr),
  .agg [.ptr],
  .agg [.ptr],
  .one (.any),
  .one (.int .i32),
  .one (.any),
  .one (.int .i64),
  .tup [(.one (.str)), (.one (.int .i64)), (.one (.int .i64))],
  .one (.any),
  .tup [(.one (.str)), (.one (.int .i64)), (.one (.int .i64))],
  .one (.any),
  .one (.any),
  .one (.any),
  .one (.any),
  .one (.any),
  .one (.any),
  .one (.any),
  .one (.int .u64),
  .one (.any),
  .one (.ptr),
  .one (.ptr),
  .one (.any),
  .one (.slice),
  .agg [.ptr, .slice, .int .i64],
  .agg [.ptr, .slice, .int .i64],
  .one (.any),
  .one (.any),
  .one (.ptr),
  .one (.slice),
  .one (.any),
  .agg [.slice, .int .i64, .slice, .int .i64, .int .i64],
  .agg [.slice, .int .i64, .slice, .int .i64, .int .i64],
  .one (.any),
  .one (.any),
  .one (.slice),
  .tup [(.one (.slice)), (.one (.slice))],
  .one (.any),
  .one (.any),
  .one (.int .u32),
  .one (.int .u64),
  .one (.any),
  .one (.any),
  .one (.any),
  .one (.any),
  .agg [.str, .int .i64, .int .u64, .int .i64, .int .i64],
  .agg [.str, .int .i64, .int .u64, .int .i64, .int .i64],
  .one (.ptr),
  .tup [(.one (.int .u32)), (.one (.bool))],
  .one (.any),
  .tup [(.one (.ptr)), (.one (.ptr))],
  .one (.any),
  .tup [(.one (.ptr)), (.one (.ptr)), (.one (.int .i64))],
  .one (.any),
  .tup [(.one (.int .i64)), (.one (.int .i64))],
  .one (.any),
  .one (.any),
  .one (.any),
  .one (.any),
  .one (.any),
  .one (.slice),
  .one (.any),
  .tup [(.one (.slice)), (.one (.slice)), (.one (.slice)), (.one (.slice))],
  .one (.any),
  .one (.any),
  .one (.any),
  .agg [.int .u32, .int .u32],
  .agg [.int .u32, .int .u32],
  .one (.any),
  .one (.any),
  .one (.any),
  .tup [(.one (.int .u32)), (.one (.int .i64))],
  .one (.any),
  .one (.any),
  .tup [(.one (.str)), (.one (.bool))],
  .one (.any),
  .tup [(.one (.ptr)), (.one (.int .i64))],
  .one (.any),
  .one .any,
  .one (.any),
  .agg [.int .i64, .int .i64, .int .i64, .int .i64, .int .i64, .int .i64, .int .i64, .int .i64, .int .i64, .int .i64, .int .i64, .int .i64, .int .i64, .int .i64, .int .i64, .int .i64],
  .agg [.slice, .int .i64, .int .i64, .int .i64, .int .i64, .int .i64, .int .i64, .int .i64, .int .i64, .int .i64, .int .i64, .int .i64, .int .i64, .int .i64, .int .i64, .int .i64, .int .i64, .slice],
  .agg [.slice, .int .i64, .int .i64, .int .i64, .int .i64, .int .i64, .int .i64, .int .i64, .int .i64, .int .i64, .int .i64, .int .i64, .int .i64, .int .i64, .int .i64, .int .i64, .int .i64, .slice],
  .tup [(.one (.int .i64)), (.one (.int .i64))],
  .one (.any),
  .tup [(.one (.int .i64)), (.one (.int .i64)), (.one (.int .i64))],
  .one (.any),
  .one (.ptr),
  .agg [.slice, .int .u64, .int .i64],
  .agg [.slice, .int .u64, .int .i64],
  .one (.any),
  .one (.any),
  .one (.any),
  .one (.ptr),
  .agg [.ptr, .ptr, .ptr, .str],
  .agg [.ptr, .ptr, .ptr, .str],
  .agg [],
  .agg [],
  .agg [],
  .one (.int .u8),
  .one (.int .u8),
  .one (.any),
  .one (.ptr),
  .one (.int .i32),
  .one (.int .i32),
  .agg [.int .u64, .int .u64, .int .u32, .int .u8, .int .u8, .int .u8, .int .u8, .any, .ptr, .int .i32, .int .i32],
  .agg [.int .u64, .int .u64, .int .u32, .int .u8, .int .u8, .int .u8, .int .u8, .any, .ptr, .int .i32, .int .i32],
  .one (.any)]
def nth : List Sh → Nat → Sh
  | [], _ => .one .any
  | s :: _, 0 => s
  | _ :: r, n + 1 => nth r n
def ty (n : Nat) : Sh := nth tyL n
abbrev F_main_main : Nat := 0
abbrev F_gosem_cut : Nat := 1
abbrev F_gosem_cut_init : Nat := 2
abbrev F_cartularylaw05_InflateReads : Nat := 3
abbrev F_cartularylaw05_InflateBegins : Nat := 4
abbrev F_cartularylaw05_InflateLimits : Nat := 5
abbrev F_cartularylaw06_ZlibReads : Nat := 6
abbrev F_cartularylaw06_ZlibAround : Nat := 7
abbrev F_cartularylaw06_ZlibHeads : Nat := 8
abbrev F_cartularylaw01_Few : Nat := 9
abbrev F_inflate_Inflate : Nat := 10
abbrev F_cartularyref05_Inflate : Nat := 11
abbrev F_cartularylaw05_awake : Nat := 12
abbrev F_zlib_Read : Nat := 13
abbrev F_cartularyref06_Read : Nat := 14
abbrev F_cartularylaw06_awake : Nat := 15
abbrev F_zlib_Head : Nat := 16
abbrev F_cartularyref06_Head : Nat := 17
abbrev F_bitin_New : Nat := 18
abbrev F_inflate_state_run : Nat := 19
abbrev F_bitin_Reader_Used : Nat := 20
abbrev F_cartularyref03_Bits : Nat := 21
abbrev F_cartularyref05_Stream_fail : Nat := 22
abbrev F_cartularyref05_Stream_number : Nat := 23
abbrev F_cartularyref05_Stream_stored : Nat := 24
abbrev F_cartularyref05_Fixed : Nat := 25
abbrev F_cartularyref05_Stream_packed : Nat := 26
abbrev F_cartularyref05_Stream_dynamic : Nat := 27
abbrev F_cartularyref03_Up : Nat := 28
abbrev F_sums_FromBig : Nat := 29
abbrev F_sums_Adler32 : Nat := 30
abbrev F_cartularyref01_Big : Nat := 31
abbrev F_cartularyref01_Adler32 : Nat := 32
abbrev F_zlib_Plain : Nat := 33
abbrev F_bitin_Reader_Bits : Nat := 34
abbrev F_inflate_state_stored : Nat := 35
abbrev F_inflate_fixed : Nat := 36
abbrev F_inflate_state_tables : Nat := 37
abbrev F_huff_Table_Read : Nat := 38
abbrev F_inflate_state_put : Nat := 39
abbrev F_inflate_state_repeat : Nat := 40
abbrev F_cartularyref03_Number : Nat := 41
abbrev F_cartularyref05_Stream_put : Nat := 42
abbrev F_cartularyref04_Codes : Nat := 43
abbrev F_cartularyref05_Lengths : Nat := 44
abbrev F_cartularyref05_Stream_symbol : Nat := 45
abbrev F_cartularyref04_Check : Nat := 46
abbrev F_sums_Adler_Write : Nat := 47
abbrev F_sums_Adler_Sum : Nat := 48
abbrev F_cartularyref01_Turn : Nat := 49
abbrev F_cartularyref01_Little : Nat := 50
abbrev F_zlib_frame : Nat := 51
abbrev F_inflate_Stored : Nat := 52
abbrev F_bitin_Reader_Peek : Nat := 53
abbrev F_bitin_Reader_Skip : Nat := 54
abbrev F_bitin_Reader_Bytes : Nat := 55
abbrev F_sums_FromLittle : Nat := 56
abbrev F_bitin_Reader_Left : Nat := 57
abbrev F_huff_New : Nat := 58
abbrev F_inflate_order : Nat := 59
abbrev F_inflate_lengthBase : Nat := 60
abbrev F_inflate_distBase : Nat := 61
abbrev F_cartularyref04_Read : Nat := 62
abbrev F_sums_Big : Nat := 63
abbrev F_bitin_Writer_Bits : Nat := 64
abbrev F_bitin_Writer_Bytes : Nat := 65
abbrev F_sums_Little : Nat := 66
abbrev F_bitin_Writer_Text : Nat := 67
abbrev F_bitin_Reader_fill : Nat := 68
abbrev F_bitin_Reader_Align : Nat := 69
abbrev F_cartularyref04_begins : Nat := 70
abbrev F_bitin_Writer_Align : Nat := 71
abbrev F_runtime_boundsError_Error : Nat := 72
abbrev F_runtime_boundsError_RuntimeError : Nat := 73
abbrev F_runtime_errorString_Error : Nat := 74
abbrev F_runtime_errorString_RuntimeError : Nat := 75
abbrev F_runtime_plainError_Error : Nat := 76
abbrev F_runtime_plainError_RuntimeError : Nat := 77
abbrev F_runtime_errorAddressString_Error : Nat := 78
abbrev F_runtime_errorAddressString_RuntimeError : Nat := 79
abbrev F_runtime_TypeAssertionError_Error : Nat := 80
abbrev F_runtime_TypeAssertionError_RuntimeError : Nat := 81
abbrev F_runtime_PanicNilError_Error : Nat := 82
abbrev F_runtime_PanicNilError_RuntimeError : Nat := 83
abbrev F_abi_Type_Align : Nat := 84
abbrev F_maps_unhashableTypeError_Error : Nat := 85
abbrev F_maps_unhashableTypeError_RuntimeError : Nat := 86
abbrev F_huff_Table_Code : Nat := 87
abbrev F_abi_Kind_String : Nat := 88
abbrev T_int64 : Nat := 2
abbrev T_int : Nat := 3
abbrev T_bool : Nat := 4
abbrev T_uint8 : Nat := 5
abbrev T_abi_BoundsErrorCode : Nat := 6
abbrev T_runtime_boundsError : Nat := 8
abbrev T_string : Nat := 9
abbrev T_runtime_errorString : Nat := 10
abbrev T_runtime_plainError : Nat := 11
abbrev T_uintptr : Nat := 12
abbrev T_runtime_errorAddressString : Nat := 14
abbrev T_P_runtime_TypeAssertionError : Nat := 15
abbrev T_P_runtime_PanicNilError : Nat := 16
abbrev T_P_abi_Type : Nat := 17
abbrev T_maps_unhashableTypeError : Nat := 19
abbrev T_int32 : Nat := 21
abbrev T_api_Errno : Nat := 23
abbrev T_uint : Nat := 34
abbrev T_P_inflate_state : Nat := 36
abbrev T_P_bitin_Reader : Nat := 37
abbrev T_S_uint8 : Nat := 39
abbrev T_inflate_state : Nat := 41
abbrev T_P_cartularyref05_Stream : Nat := 44
abbrev T_S_bool : Nat := 45
abbrev T_cartularyref05_Stream : Nat := 48
abbrev T_S_int : Nat := 51
abbrev T_uint32 : Nat := 55
abbrev T_uint64 : Nat := 56
abbrev T_bitin_Reader : Nat := 62
abbrev T_P_huff_Table : Nat := 63
abbrev T_S_S_bool : Nat := 76
abbrev T_sums_Adler : Nat := 83
abbrev T_19_int : Nat := 94
abbrev T_16_int : Nat := 96
abbrev T_huff_Table : Nat := 98
abbrev T_P_sums_Adler : Nat := 103
abbrev T_bitin_Writer : Nat := 105
abbrev T_P_bitin_Writer : Nat := 109
abbrev T_runtime_TypeAssertionError : Nat := 111
abbrev T_0_P_runtime_PanicNilError : Nat := 112
abbrev T_runtime_PanicNilError : Nat := 114
abbrev T_abi_TFlag : Nat := 115
abbrev T_abi_Kind : Nat := 116
abbrev T_P_uint8 : Nat := 118
abbrev T_abi_NameOff : Nat := 119
abbrev T_abi_TypeOff : Nat := 120
abbrev T_abi_Type : Nat := 122
end Go.Proofs.Ytcebplekflpbiaa

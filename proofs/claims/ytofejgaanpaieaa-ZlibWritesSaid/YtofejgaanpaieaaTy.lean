/- The shapes of the types of this seat, a row a type. No condition. -/
import Derived.Test.YtofejgaanpaieaaVcCode
namespace Go.Proofs.Ytofejgaanpaieaa
open Vc
def tyL : List Sh := [
  .tup [],
  .one (.any),
  .one (.int .i64),
  .one (.int .i64),
  .one (.bool),
  .one (.int .u8),
  .one (.int .u8),
  .agg [.int .i64, .int .i64, .bool, .int .u8],
  .agg [.int .i64, .int .i64, .bool, .int .u8],
  .one (.str),
  .one (.str),
  .one (.str),
  .one (.int .u64),
  .agg [.str, .int .u64],
  .agg [.str, .int .u64],
  .one (.ptr),
  .one (.ptr),
  .one (.ptr),
  .agg [.ptr],
  .agg [.ptr],
  .one (.any),
  .one (.int .i32),
  .one (.any),
  .one (.int .i64),
  .tup [(.one (.str)), (.one (.int .i64)), (.one (.int .i64))],
  .one (.any),
  .tup [(.one (.str)), (.one (.int .i64)), (.one (.int .i64))],
  .one (.any),
  .one (.any),
  .one (.any),
  .one (.any),
  .one (.any),
  .one (.any),
  .one (.any),
  .one (.int .u64),
  .one (.any),
  .one (.any),
  .one (.slice),
  .one (.any),
  .one (.any),
  .one (.slice),
  .one (.any),
  .one (.any),
  .one (.any),
  .one (.ptr),
  .one (.ptr),
  .one (.any),
  .agg [.ptr, .slice, .int .i64],
  .agg [.ptr, .slice, .int .i64],
  .one (.any),
  .one (.any),
  .one (.ptr),
  .one (.slice),
  .one (.any),
  .agg [.slice, .int .i64, .slice, .int .i64, .int .i64],
  .agg [.slice, .int .i64, .slice, .int .i64, .int .i64],
  .one (.any),
  .one (.any),
  .one (.slice),
  .tup [(.one (.slice)), (.one (.slice))],
  .one (.any),
  .one (.any),
  .one (.int .u32),
  .one (.int .u64),
  .one (.any),
  .one (.any),
  .one (.any),
  .agg [.slice, .int .u64, .int .i64],
  .agg [.slice, .int .u64, .int .i64],
  .one (.any),
  .one (.any),
  .one (.any),
  .one (.ptr),
  .tup [(.one (.ptr)), (.one (.ptr))],
  .one (.any),
  .one (.map),
  .tup [(.one (.int .i64)), (.one (.bool))],
  .tup [(.one (.int .u32)), (.one (.int .i64))],
  .one (.any),
  .tup [(.one (.int .i64)), (.one (.int .u32)), (.one (.int .i64))],
  .one (.any),
  .one (.any),
  .agg [.str, .int .i64, .int .u64, .int .i64, .int .i64],
  .agg [.str, .int .i64, .int .u64, .int .i64, .int .i64],
  .tup [(.one (.int .u32)), (.one (.bool))],
  .one (.any),
  .tup [(.one (.ptr)), (.one (.ptr)), (.one (.int .i64))],
  .one (.any),
  .tup [(.one (.int .i64)), (.one (.int .i64))],
  .one (.any),
  .one (.any),
  .one (.any),
  .one (.any),
  .one (.any),
  .one (.slice),
  .one (.any),
  .tup [(.one (.slice)), (.one (.slice)), (.one (.slice)), (.one (.slice))],
  .one (.any),
  .one (.any),
  .one (.any),
  .agg [.int .u32, .int .u32],
  .agg [.int .u32, .int .u32],
  .one (.any),
  .one (.ptr),
  .tup [(.one (.ptr)), (.one (.int .i64))],
  .one (.any),
  .agg [.int .i64, .int .i64, .int .i64, .int .i64, .int .i64, .int .i64, .int .i64, .int .i64, .int .i64, .int .i64, .int .i64, .int .i64, .int .i64, .int .i64, .int .i64, .int .i64],
  .agg [.slice, .int .i64, .int .i64, .int .i64, .int .i64, .int .i64, .int .i64, .int .i64, .int .i64, .int .i64, .int .i64, .int .i64, .int .i64, .int .i64, .int .i64, .int .i64, .int .i64, .slice],
  .agg [.slice, .int .i64, .int .i64, .int .i64, .int .i64, .int .i64, .int .i64, .int .i64, .int .i64, .int .i64, .int .i64, .int .i64, .int .i64, .int .i64, .int .i64, .int .i64, .int .i64, .slice],
  .tup [(.one (.int .i64)), (.one (.int .i64))],
  .one (.any),
  .tup [(.one (.str)), (.one (.bool))],
  .one (.any),
  .one .any,
  .one (.any),
  .tup [(.one (.int .i64)), (.one (.int .i64)), (.one (.int .i64))],
  .one (.any),
  .one (.ptr),
  .one (.any),
  .agg [.ptr, .ptr, .ptr, .str],
  .agg [.ptr, .ptr, .ptr, .str],
  .agg [],
  .agg [],
  .agg [],
  .one (.int .u8),
  .one (.int .u8),
  .one (.any),
  .one (.ptr),
  .one (.int .i32),
  .one (.int .i32),
  .agg [.int .u64, .int .u64, .int .u32, .int .u8, .int .u8, .int .u8, .int .u8, .any, .ptr, .int .i32, .int .i32],
  .agg [.int .u64, .int .u64, .int .u32, .int .u8, .int .u8, .int .u8, .int .u8, .any, .ptr, .int .i32, .int .i32],
  .one (.any)]
def nth : List Sh → Nat → Sh
  | [], _ => .one .any
  | s :: _, 0 => s
  | _ :: r, n + 1 => nth r n
def ty (n : Nat) : Sh := nth tyL n
abbrev F_main_main : Nat := 0
abbrev F_gosem_cut : Nat := 1
abbrev F_gosem_cut_init : Nat := 2
abbrev F_cartularylaw05_InflateReads : Nat := 3
abbrev F_cartularylaw06_ZlibReads : Nat := 4
abbrev F_cartularylaw06_ZlibAround : Nat := 5
abbrev F_cartularylaw06_ZlibHeads : Nat := 6
abbrev F_cartularylaw05_InflateWrites : Nat := 7
abbrev F_cartularylaw05_InflateInside : Nat := 8
abbrev F_cartularylaw05_InflateTwice : Nat := 9
abbrev F_cartularylaw06_ZlibWrites : Nat := 10
abbrev F_cartularylaw01_Few : Nat := 11
abbrev F_inflate_Inflate : Nat := 12
abbrev F_cartularyref05_Inflate : Nat := 13
abbrev F_cartularylaw05_awake : Nat := 14
abbrev F_zlib_Read : Nat := 15
abbrev F_cartularyref06_Read : Nat := 16
abbrev F_cartularylaw06_awake : Nat := 17
abbrev F_zlib_Head : Nat := 18
abbrev F_cartularyref06_Head : Nat := 19
abbrev F_inflate_Stored : Nat := 20
abbrev F_inflate_Deflate : Nat := 21
abbrev F_cartularyref05_Stored : Nat := 22
abbrev F_zlib_Write : Nat := 23
abbrev F_zlib_Plain : Nat := 24
abbrev F_cartularyref06_Frame : Nat := 25
abbrev F_bitin_New : Nat := 26
abbrev F_inflate_state_run : Nat := 27
abbrev F_bitin_Reader_Used : Nat := 28
abbrev F_cartularyref03_Bits : Nat := 29
abbrev F_cartularyref05_Stream_fail : Nat := 30
abbrev F_cartularyref05_Stream_number : Nat := 31
abbrev F_cartularyref05_Stream_stored : Nat := 32
abbrev F_cartularyref05_Fixed : Nat := 33
abbrev F_cartularyref05_Stream_packed : Nat := 34
abbrev F_cartularyref05_Stream_dynamic : Nat := 35
abbrev F_cartularyref03_Up : Nat := 36
abbrev F_sums_FromBig : Nat := 37
abbrev F_sums_Adler32 : Nat := 38
abbrev F_cartularyref01_Big : Nat := 39
abbrev F_cartularyref01_Adler32 : Nat := 40
abbrev F_bitin_Writer_Bits : Nat := 41
abbrev F_bitin_Writer_Bytes : Nat := 42
abbrev F_sums_Little : Nat := 43
abbrev F_bitin_Writer_Text : Nat := 44
abbrev F_inflate_fixed : Nat := 45
abbrev F_huff_Table_Code : Nat := 46
abbrev F_bitin_Writer_Code : Nat := 47
abbrev F_inflate_symbolOf : Nat := 48
abbrev F_inflate_lengthBase : Nat := 49
abbrev F_inflate_distBase : Nat := 50
abbrev F_zlib_frame : Nat := 51
abbrev F_bitin_Reader_Bits : Nat := 52
abbrev F_inflate_state_stored : Nat := 53
abbrev F_inflate_state_tables : Nat := 54
abbrev F_huff_Table_Read : Nat := 55
abbrev F_inflate_state_put : Nat := 56
abbrev F_inflate_state_repeat : Nat := 57
abbrev F_cartularyref03_Number : Nat := 58
abbrev F_cartularyref05_Stream_put : Nat := 59
abbrev F_cartularyref04_Codes : Nat := 60
abbrev F_cartularyref05_Lengths : Nat := 61
abbrev F_cartularyref05_Stream_symbol : Nat := 62
abbrev F_cartularyref04_Check : Nat := 63
abbrev F_sums_Adler_Write : Nat := 64
abbrev F_sums_Adler_Sum : Nat := 65
abbrev F_cartularyref01_Turn : Nat := 66
abbrev F_cartularyref01_Little : Nat := 67
abbrev F_bitin_Writer_Align : Nat := 68
abbrev F_huff_New : Nat := 69
abbrev F_sums_Big : Nat := 70
abbrev F_bitin_Reader_Peek : Nat := 71
abbrev F_bitin_Reader_Skip : Nat := 72
abbrev F_bitin_Reader_Bytes : Nat := 73
abbrev F_sums_FromLittle : Nat := 74
abbrev F_bitin_Reader_Left : Nat := 75
abbrev F_inflate_order : Nat := 76
abbrev F_cartularyref04_Read : Nat := 77
abbrev F_bitin_Reader_fill : Nat := 78
abbrev F_bitin_Reader_Align : Nat := 79
abbrev F_cartularyref04_begins : Nat := 80
abbrev F_runtime_boundsError_Error : Nat := 81
abbrev F_runtime_boundsError_RuntimeError : Nat := 82
abbrev F_runtime_errorString_Error : Nat := 83
abbrev F_runtime_errorString_RuntimeError : Nat := 84
abbrev F_runtime_plainError_Error : Nat := 85
abbrev F_runtime_plainError_RuntimeError : Nat := 86
abbrev F_runtime_errorAddressString_Error : Nat := 87
abbrev F_runtime_errorAddressString_RuntimeError : Nat := 88
abbrev F_runtime_TypeAssertionError_Error : Nat := 89
abbrev F_runtime_TypeAssertionError_RuntimeError : Nat := 90
abbrev F_runtime_PanicNilError_Error : Nat := 91
abbrev F_runtime_PanicNilError_RuntimeError : Nat := 92
abbrev F_abi_Type_Align : Nat := 93
abbrev F_maps_unhashableTypeError_Error : Nat := 94
abbrev F_maps_unhashableTypeError_RuntimeError : Nat := 95
abbrev F_abi_Kind_String : Nat := 96
abbrev T_int64 : Nat := 2
abbrev T_int : Nat := 3
abbrev T_bool : Nat := 4
abbrev T_uint8 : Nat := 5
abbrev T_abi_BoundsErrorCode : Nat := 6
abbrev T_runtime_boundsError : Nat := 8
abbrev T_string : Nat := 9
abbrev T_runtime_errorString : Nat := 10
abbrev T_runtime_plainError : Nat := 11
abbrev T_uintptr : Nat := 12
abbrev T_runtime_errorAddressString : Nat := 14
abbrev T_P_runtime_TypeAssertionError : Nat := 15
abbrev T_P_runtime_PanicNilError : Nat := 16
abbrev T_P_abi_Type : Nat := 17
abbrev T_maps_unhashableTypeError : Nat := 19
abbrev T_int32 : Nat := 21
abbrev T_api_Errno : Nat := 23
abbrev T_uint : Nat := 34
abbrev T_S_string : Nat := 37
abbrev T_S_uint8 : Nat := 40
abbrev T_P_inflate_state : Nat := 44
abbrev T_P_bitin_Reader : Nat := 45
abbrev T_inflate_state : Nat := 48
abbrev T_P_cartularyref05_Stream : Nat := 51
abbrev T_S_bool : Nat := 52
abbrev T_cartularyref05_Stream : Nat := 55
abbrev T_S_int : Nat := 58
abbrev T_uint32 : Nat := 62
abbrev T_uint64 : Nat := 63
abbrev T_bitin_Writer : Nat := 68
abbrev T_P_huff_Table : Nat := 72
abbrev T_map_string_int : Nat := 75
abbrev T_bitin_Reader : Nat := 83
abbrev T_S_S_bool : Nat := 94
abbrev T_sums_Adler : Nat := 101
abbrev T_P_bitin_Writer : Nat := 103
abbrev T_16_int : Nat := 106
abbrev T_huff_Table : Nat := 108
abbrev T_19_int : Nat := 113
abbrev T_P_sums_Adler : Nat := 117
abbrev T_runtime_TypeAssertionError : Nat := 120
abbrev T_0_P_runtime_PanicNilError : Nat := 121
abbrev T_runtime_PanicNilError : Nat := 123
abbrev T_abi_TFlag : Nat := 124
abbrev T_abi_Kind : Nat := 125
abbrev T_P_uint8 : Nat := 127
abbrev T_abi_NameOff : Nat := 128
abbrev T_abi_TypeOff : Nat := 129
abbrev T_abi_Type : Nat := 131
end Go.Proofs.Ytofejgaanpaieaa

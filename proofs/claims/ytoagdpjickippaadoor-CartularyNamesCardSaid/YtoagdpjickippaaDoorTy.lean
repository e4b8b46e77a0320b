/- The shapes of the types of this seat, a row a type. No condition. -/
import Derived.Test.YtoagdpjickippaaDoorVcCode
namespace Go.Proofs.YtoagdpjickippaaDoor
open Vc
def tyL : List Sh := [
  .tup [],
  .one (.any),
  .one (.int .i64),
  .one (.int .i64),
  .one (.bool),
  .one (.int .u8),
  .one (.int .u8),
  .agg [.int .i64, .int .i64, .bool, .int .u8],
  .agg [.int .i64, .int .i64, .bool, .int .u8],
  .one (.str),
  .one (.str),
  .one (.str),
  .one (.int .u64),
  .agg [.str, .int .u64],
  .agg [.str, .int .u64],
  .one (.ptr),
  .one (.ptr),
  .one (.ptr),
  .agg [.ptr],
  .agg [.ptr],
  .one (.any),
  .one (.int .i32),
  .one (.slice),
  .one (.int .i64),
  .tup [(.one (.str)), (.one (.int .i64))],
  .one (.any),
  .agg [.int .i64, .str],
  .agg [.int .i64, .str],
  .one (.slice),
  .one (.any),
  .agg [.str, .str],
  .agg [.str, .str],
  .one (.ptr),
  .tup [(.one (.ptr)), (.one (.int .i64))],
  .one (.any),
  .one (.any),
  .one (.slice),
  .one (.any),
  .one (.any),
  .tup [(.agg [.int .i64, .str]), (.one (.int .i64))],
  .one (.any),
  .one (.any),
  .one (.any),
  .one (.any),
  .one (.any),
  .one (.any),
  .agg [.slice, .int .i64],
  .agg [.slice, .int .i64],
  .one (.any),
  .one (.any),
  .one (.any),
  .tup [(.one (.int .i64)), (.one (.bool))],
  .one (.any),
  .one (.any),
  .tup [(.one (.str)), (.one (.str)), (.one (.bool))],
  .one (.any),
  .one (.any),
  .one (.any),
  .one (.slice),
  .one (.int .u64),
  .one (.slice),
  .one (.int .u64),
  .agg [.slice, .str, .int .u64],
  .agg [.slice, .str, .int .u64],
  .agg [.slice, .str, .int .u64],
  .agg [.slice, .str, .int .u64],
  .one (.any),
  .one (.any),
  .one (.any),
  .one (.any),
  .one (.any),
  .one (.any),
  .one (.any),
  .one (.any),
  .one (.any),
  .one (.any),
  .one (.any),
  .one (.noerr),
  .tup [(.one (.int .i64)), (.one (.noerr))],
  .one (.any),
  .one (.ptr),
  .one (.any),
  .one (.any),
  .one (.any),
  .one (.any),
  .one (.any),
  .one (.any),
  .one (.int .i64),
  .tup [(.one (.int .i64)), (.one (.int .i64))],
  .one (.any),
  .one (.any),
  .one (.any),
  .one (.any),
  .one (.any),
  .one (.int .u32),
  .one (.any),
  .one (.any),
  .one (.any),
  .one (.any),
  .one (.ptr),
  .one (.any),
  .one .any,
  .one (.any),
  .one (.any),
  .one .any,
  .one (.any),
  .tup [(.one (.slice)), (.one (.str))],
  .one (.any),
  .one (.int .u64),
  .one (.any),
  .one (.any),
  .one (.any),
  .one (.ptr),
  .one (.any),
  .tup [(.one (.int .i32)), (.one (.int .i64))],
  .one (.any),
  .one (.any),
  .one (.any),
  .one (.any),
  .one (.int .i64),
  .tup [(.one (.int .i64)), (.one (.noerr))],
  .one (.any),
  .one (.ptr),
  .one (.any),
  .one (.any),
  .one (.any),
  .one .any,
  .one .any,
  .one (.any),
  .one (.ptr),
  .tup [(.one (.int .i64)), (.one (.int .i64))],
  .one (.any),
  .tup [(.one (.int .u32)), (.one (.int .u32))],
  .one (.any),
  .tup [(.one (.int .u64)), (.one (.noerr))],
  .one (.any),
  .agg [.str, .str, .any],
  .agg [.str, .str, .any],
  .one (.any),
  .one .any,
  .agg [.int .u8, .int .u8],
  .agg [.int .u8, .int .u8],
  .one .any,
  .one (.any),
  .one (.ptr),
  .one (.ptr),
  .agg [.str],
  .agg [.str],
  .one .any,
  .one .any,
  .agg [.ptr, .ptr, .ptr, .str],
  .agg [.ptr, .ptr, .ptr, .str],
  .agg [],
  .agg [],
  .agg [],
  .one (.int .u8),
  .one (.int .u8),
  .one (.any),
  .one (.int .i32),
  .one (.int .i32),
  .agg [.int .u64, .int .u64, .int .u32, .int .u8, .int .u8, .int .u8, .int .u8, .any, .ptr, .int .i32, .int .i32],
  .agg [.int .u64, .int .u64, .int .u32, .int .u8, .int .u8, .int .u8, .int .u8, .any, .ptr, .int .i32, .int .i32],
  .one (.any)]
def nth : List Sh → Nat → Sh
  | [], _ => .one .any
  | s :: _, 0 => s
  | _ :: r, n + 1 => nth r n
def ty (n : Nat) : Sh := nth tyL n
abbrev F_main_main : Nat := 0
abbrev F_gosem_cut : Nat := 1
abbrev F_gosem_cut_init : Nat := 2
abbrev F_cartularytop_CartularyNames : Nat := 3
abbrev F_object_Id : Nat := 4
abbrev F_cartularylaw01_Few : Nat := 5
abbrev F_object_Encode : Nat := 6
abbrev F_snap_New : Nat := 7
abbrev F_snap_Snap_Len : Nat := 8
abbrev F_snap_Snap_Under : Nat := 9
abbrev F_snap_Snap_Get : Nat := 10
abbrev F_object_Decode : Nat := 11
abbrev F_sums_Hex : Nat := 12
abbrev F_sha_Sum1 : Nat := 13
abbrev F_object_Check : Nat := 14
abbrev F_object_Name : Nat := 15
abbrev F_strconv_Itoa : Nat := 16
abbrev F_slices_Clone : Nat := 17
abbrev F_slices_SortFunc : Nat := 18
abbrev F_snap_byPath : Nat := 19
abbrev F_snap_Clean : Nat := 20
abbrev F_slices_BinarySearchFunc : Nat := 21
abbrev F_strings_HasPrefix : Nat := 22
abbrev F_strings_Cut : Nat := 23
abbrev F_object_Number : Nat := 24
abbrev F_object_Kind : Nat := 25
abbrev F_sha_Hash1_Write : Nat := 26
abbrev F_sha_Hash1_Sum : Nat := 27
abbrev F_slices_pdqsortCmpFunc : Nat := 29
abbrev F_bits_Len : Nat := 30
abbrev F_strings_Compare : Nat := 31
abbrev F_strings_SplitSeq : Nat := 32
abbrev F_strings_ContainsFunc : Nat := 33
abbrev F_snap_Clean_1 : Nat := 34
abbrev F_stringslite_HasPrefix : Nat := 35
abbrev F_stringslite_Cut : Nat := 36
abbrev F_strconv_Atoi : Nat := 37
abbrev F_sha_hash_write : Nat := 38
abbrev F_sha_start1 : Nat := 39
abbrev F_sha_block1 : Nat := 40
abbrev F_sha_hash_sum : Nat := 41
abbrev F_strconv_FormatInt : Nat := 42
abbrev F_slices_insertionSortCmpFunc : Nat := 43
abbrev F_slices_heapSortCmpFunc : Nat := 44
abbrev F_slices_breakPatternsCmpFunc : Nat := 45
abbrev F_slices_choosePivotCmpFunc : Nat := 46
abbrev F_slices_reverseRangeCmpFunc : Nat := 47
abbrev F_slices_partialInsertionSortCmpFunc : Nat := 48
abbrev F_slices_partitionEqualCmpFunc : Nat := 49
abbrev F_slices_partitionCmpFunc : Nat := 50
abbrev F_bits_Len32 : Nat := 51
abbrev F_bits_Len64 : Nat := 52
abbrev F_bytealg_CompareString : Nat := 53
abbrev F_strings_splitSeq : Nat := 54
abbrev F_strings_IndexFunc : Nat := 55
abbrev F_stringslite_Index : Nat := 56
abbrev F_strconv_toError : Nat := 58
abbrev F_sha_word : Nat := 59
abbrev F_bits_RotateLeft32 : Nat := 60
abbrev F_strconv_small : Nat := 61
abbrev F_strconv_numDigits : Nat := 62
abbrev F_strconv_formatBase10 : Nat := 63
abbrev F_strconv_formatBits : Nat := 64
abbrev F_slices_siftDownCmpFunc : Nat := 65
abbrev F_slices_nextPowerOfTwo : Nat := 66
abbrev F_slices_xorshift_Next : Nat := 67
abbrev F_slices_medianAdjacentCmpFunc : Nat := 68
abbrev F_slices_medianCmpFunc : Nat := 69
abbrev F_bytealg_abigen_runtime_cmpstring : Nat := 70
abbrev F_strings_splitSeq_1 : Nat := 71
abbrev F_utf8_DecodeRuneInString : Nat := 72
abbrev F_strings_Index : Nat := 73
abbrev F_strings_indexFunc : Nat := 74
abbrev F_stringslite_IndexByte : Nat := 75
abbrev F_bytealg_IndexString : Nat := 76
abbrev F_bytealg_Cutover : Nat := 77
abbrev F_bytealg_IndexRabinKarp : Nat := 78
abbrev F_strconv_ParseInt : Nat := 79
abbrev F_strconv_syntaxError : Nat := 80
abbrev F_strconv_rangeError : Nat := 81
abbrev F_strconv_baseError : Nat := 82
abbrev F_strconv_bitSizeError : Nat := 83
abbrev F_strconv_log10Pow2 : Nat := 84
abbrev F_strconv_bool2 : Nat := 85
abbrev F_strconv_isPowerOfTwo : Nat := 86
abbrev F_bits_TrailingZeros : Nat := 87
abbrev F_slices_order2CmpFunc : Nat := 88
abbrev F_utf8_decodeRuneInStringSlow : Nat := 89
abbrev F_bytealg_IndexByteString : Nat := 90
abbrev F_bytealg_hashStr : Nat := 91
abbrev F_strconv_ParseUint : Nat := 92
abbrev F_stringslite_Clone : Nat := 93
abbrev F_errors_New : Nat := 94
abbrev F_bits_TrailingZeros32 : Nat := 95
abbrev F_bits_TrailingZeros64 : Nat := 96
abbrev F_strconv_lower : Nat := 97
abbrev F_strconv_underscoreOK : Nat := 98
abbrev F_runtime_boundsError_Error : Nat := 99
abbrev F_runtime_boundsError_RuntimeError : Nat := 100
abbrev F_runtime_errorString_Error : Nat := 101
abbrev F_runtime_errorString_RuntimeError : Nat := 102
abbrev F_runtime_plainError_Error : Nat := 103
abbrev F_runtime_plainError_RuntimeError : Nat := 104
abbrev F_runtime_errorAddressString_Error : Nat := 105
abbrev F_runtime_errorAddressString_RuntimeError : Nat := 106
abbrev F_runtime_TypeAssertionError_Error : Nat := 107
abbrev F_runtime_TypeAssertionError_RuntimeError : Nat := 108
abbrev F_runtime_PanicNilError_Error : Nat := 109
abbrev F_runtime_PanicNilError_RuntimeError : Nat := 110
abbrev F_abi_Type_Align : Nat := 111
abbrev F_maps_unhashableTypeError_Error : Nat := 112
abbrev F_maps_unhashableTypeError_RuntimeError : Nat := 113
abbrev F_strconv_Error_Error : Nat := 114
abbrev F_strconv_NumError_Error : Nat := 115
abbrev F_errors_errorString_Error : Nat := 116
abbrev F_abi_Kind_String : Nat := 117
abbrev F_var_s_door_gosem_cut_vars_holds_initialisers_alone_see_the_manifest_s_row_cutvarsword_look_11_test_files_too_ : Nat := 118
abbrev F_strconv_uint64pow10_is_laid_by_its_own_initialiser_plain_data_look_11_ : Nat := 119
abbrev F_bits_deBruijn32tab_is_laid_by_its_own_initialiser_plain_data_look_11_ : Nat := 120
abbrev F_bits_deBruijn64tab_is_laid_by_its_own_initialiser_plain_data_look_11_ : Nat := 121
abbrev F_var_s_door_strconv_ErrRange_is_laid_by_its_own_call_of_errors_New_on_one_literal_look_11_ : Nat := 122
abbrev F_var_s_door_strconv_ErrSyntax_is_laid_by_its_own_call_of_errors_New_on_one_literal_look_11_ : Nat := 123
abbrev F_var_s_door_the_look_of_gosem_cut_vars_went_over_the_folder_that_the_caller_named_as_the_repository_s_root_look_11_ : Nat := 124
abbrev F_utf8_acceptRanges_is_laid_by_its_own_initialiser_plain_data_look_11_ : Nat := 125
abbrev F_utf8_first_is_laid_by_its_text_alone_pinned_1_ : Nat := 126
abbrev F_gosem_cut_vars : Nat := 127
abbrev T_int64 : Nat := 2
abbrev T_int : Nat := 3
abbrev T_bool : Nat := 4
abbrev T_uint8 : Nat := 5
abbrev T_abi_BoundsErrorCode : Nat := 6
abbrev T_runtime_boundsError : Nat := 8
abbrev T_string : Nat := 9
abbrev T_runtime_errorString : Nat := 10
abbrev T_runtime_plainError : Nat := 11
abbrev T_uintptr : Nat := 12
abbrev T_runtime_errorAddressString : Nat := 14
abbrev T_P_runtime_TypeAssertionError : Nat := 15
abbrev T_P_runtime_PanicNilError : Nat := 16
abbrev T_P_abi_Type : Nat := 17
abbrev T_maps_unhashableTypeError : Nat := 19
abbrev T_int32 : Nat := 21
abbrev T_S_api_Object : Nat := 22
abbrev T_api_Errno : Nat := 23
abbrev T_api_Object : Nat := 27
abbrev T_S_api_File : Nat := 28
abbrev T_api_File : Nat := 31
abbrev T_P_snap_Snap : Nat := 32
abbrev T_S_string : Nat := 36
abbrev T_snap_Snap : Nat := 47
abbrev T_S_uint8 : Nat := 58
abbrev T_uint : Nat := 59
abbrev T_S_uint32 : Nat := 60
abbrev T_uint64 : Nat := 61
abbrev T_sha_hash : Nat := 63
abbrev T_sha_Hash1 : Nat := 65
abbrev T_iter_Seq : Nat := 72
abbrev T_error : Nat := 77
abbrev T_P_sha_Hash1 : Nat := 80
abbrev T_slices_sortedHint : Nat := 87
abbrev T_uint32 : Nat := 94
abbrev T_P_sha_hash : Nat := 99
abbrev T_sha_block : Nat := 100
abbrev T_80_uint32 : Nat := 101
abbrev T_24_uint8 : Nat := 104
abbrev T_slices_xorshift : Nat := 108
abbrev T_P_int : Nat := 112
abbrev T_strconv_Error : Nat := 119
abbrev T_P_strconv_NumError : Nat := 122
abbrev T_20_uint64 : Nat := 126
abbrev T_65_uint8 : Nat := 127
abbrev T_P_slices_xorshift : Nat := 129
abbrev T_strconv_NumError : Nat := 137
abbrev T_256_uint8 : Nat := 139
abbrev T_utf8_acceptRange : Nat := 141
abbrev T_16_utf8_acceptRange : Nat := 142
abbrev T_P_uint8 : Nat := 144
abbrev T_P_errors_errorString : Nat := 145
abbrev T_errors_errorString : Nat := 147
abbrev T_32_uint8 : Nat := 148
abbrev T_64_uint8 : Nat := 149
abbrev T_runtime_TypeAssertionError : Nat := 151
abbrev T_0_P_runtime_PanicNilError : Nat := 152
abbrev T_runtime_PanicNilError : Nat := 154
abbrev T_abi_TFlag : Nat := 155
abbrev T_abi_Kind : Nat := 156
abbrev T_abi_NameOff : Nat := 158
abbrev T_abi_TypeOff : Nat := 159
abbrev T_abi_Type : Nat := 161
abbrev G_bytealg_MaxLen : Nat := 0
abbrev G_strconv_uint64pow10 : Nat := 1
abbrev G_strconv_ErrSyntax : Nat := 2
abbrev G_strconv_ErrRange : Nat := 3
abbrev G_utf8_first : Nat := 4
abbrev G_utf8_acceptRanges : Nat := 5
abbrev G_bits_deBruijn32tab : Nat := 6
abbrev G_bits_deBruijn64tab : Nat := 7
end Go.Proofs.YtoagdpjickippaaDoor

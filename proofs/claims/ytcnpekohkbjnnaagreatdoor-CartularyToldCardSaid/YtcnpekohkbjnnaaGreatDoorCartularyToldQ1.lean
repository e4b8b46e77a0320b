/- Texts of this seat in one: made by a program of ours. -/
import Derived.Test.YtcnpekohkbjnnaaGreatDoorCartularyToldQ0
import Derived.Test.YtcnpekohkbjnnaaGreatDoorProg
import Derived.Shelf.Lays
import Derived.Shelf.Strings.BuilderX
import Derived.Shelf.Strings.Search1
import Derived.RangeFuncNested
import Derived.RangeFuncBound
import Derived.RangeFuncCalls
import Derived.RangeFuncLeaves
import Derived.Shelf.Abstract
import Derived.Shelf.RegionOpen
import Derived.WalkKit
import Derived.OwnWalkIn
import Derived.TacticsInMore
import Derived.LoopNIn
import Derived.LoopIn
import Derived.Shelf.SlSortCmp.WholeK
import Derived.Shelf.Small.Strs
import Derived.Sort.Walk0
/- The shapes of the types of this seat, a row a type. No condition. -/
namespace Go.Proofs.YtcnpekohkbjnnaaGreatDoor
open Vc
def tyL : List Sh := [
  .tup [],
  .one (.any),
  .one (.int .i64),
  .one (.int .i64),
  .one (.bool),
  .one (.int .u8),
  .one (.int .u8),
  .agg [.int .i64, .int .i64, .bool, .int .u8],
  .agg [.int .i64, .int .i64, .bool, .int .u8],
  .one (.str),
  .one (.str),
  .one (.str),
  .one (.int .u64),
  .agg [.str, .int .u64],
  .agg [.str, .int .u64],
  .one (.ptr),
  .one (.ptr),
  .one (.ptr),
  .agg [.ptr],
  .agg [.ptr],
  .one (.any),
  .one (.int .i32),
  .one (.any),
  .one (.any),
  .agg [.str, .str],
  .agg [.str, .str],
  .one (.int .i64),
  .tup [(.agg [.str, .str]), (.one (.int .i64))],
  .one (.any),
  .agg [.int .i64, .str],
  .agg [.int .i64, .str],
  .one (.ptr),
  .tup [(.one (.ptr)), (.one (.int .i64))],
  .one (.any),
  .one (.slice),
  .one (.slice),
  .one (.any),
  .tup [(.agg [.int .i64, .str]), (.one (.int .i64))],
  .one (.any),
  .tup [(.one (.str)), (.one (.int .i64))],
  .one (.any),
  .one (.any),
  .one (.any),
  .one (.slice),
  .one (.any),
  .one (.map),
  .tup [(.one (.int .i64)), (.one (.bool))],
  .one (.any),
  .one (.any),
  .one (.any),
  .one (.any),
  .agg [.slice, .int .i64],
  .agg [.slice, .int .i64],
  .one (.any),
  .one (.any),
  .one (.any),
  .one (.any),
  .one (.any),
  .one (.any),
  .tup [(.one (.int .i64)), (.one (.int .i64)), (.one (.int .i64)), (.one (.int .i64))],
  .one (.any),
  .one (.int .i64),
  .tup [(.one (.int .i64)), (.one (.bool))],
  .one (.ptr),
  .agg [.str, .int .i64],
  .agg [.str, .int .i64],
  .one (.any),
  .tup [(.one (.int .i64)), (.one (.int .i64))],
  .one (.any),
  .one (.int .u64),
  .one (.any),
  .one (.any),
  .one (.any),
  .one (.any),
  .one (.any),
  .one (.any),
  .one (.any),
  .one (.any),
  .one (.any),
  .one (.any),
  .one (.any),
  .one (.ptr),
  .agg [.ptr, .slice],
  .agg [.ptr, .slice],
  .one (.any),
  .one (.any),
  .one (.noerr),
  .tup [(.one (.int .i64)), (.one (.noerr))],
  .one (.any),
  .tup [(.one (.int .i32)), (.one (.int .i64))],
  .one (.any),
  .one (.any),
  .tup [(.one (.str)), (.one (.int .i64)), (.one (.int .i64))],
  .one (.any),
  .one (.slice),
  .one (.int .u64),
  .agg [.slice, .str, .int .u64],
  .agg [.slice, .str, .int .u64],
  .agg [.slice, .str, .int .u64],
  .agg [.slice, .str, .int .u64],
  .one (.any),
  .tup [(.one (.str)), (.one (.bool))],
  .one (.any),
  .one (.any),
  .one (.int .u32),
  .one (.any),
  .agg [.slice, .int .u64, .int .i64],
  .agg [.slice, .int .u64, .int .i64],
  .one (.ptr),
  .tup [(.one (.ptr)), (.one (.ptr))],
  .one (.any),
  .one (.any),
  .tup [(.one (.int .u32)), (.one (.int .i64))],
  .one (.any),
  .tup [(.one (.int .i64)), (.one (.int .u32)), (.one (.int .i64))],
  .one (.any),
  .one (.any),
  .one (.int .i64),
  .tup [(.one (.int .i64)), (.one (.int .i64))],
  .one (.any),
  .one (.any),
  .one (.any),
  .one (.any),
  .one (.any),
  .one (.any),
  .one (.any),
  .one (.any),
  .one (.any),
  .one (.any),
  .one (.ptr),
  .one (.any),
  .one (.any),
  .tup [(.one (.str)), (.one (.str)), (.one (.bool))],
  .one (.any),
  .one (.any),
  .one (.ptr),
  .one (.any),
  .one (.any),
  .one (.any),
  .one (.any),
  .one (.any),
  .one (.any),
  .agg [.int .u32, .int .u32],
  .agg [.int .u32, .int .u32],
  .one (.any),
  .one (.slice),
  .tup [(.one (.ptr)), (.one (.int .i64))],
  .one (.any),
  .one (.ptr),
  .agg [.int .i64, .int .i64, .int .i64, .int .i64, .int .i64, .int .i64, .int .i64, .int .i64, .int .i64, .int .i64, .int .i64, .int .i64, .int .i64, .int .i64, .int .i64, .int .i64],
  .agg [.slice, .int .i64, .int .i64, .int .i64, .int .i64, .int .i64, .int .i64, .int .i64, .int .i64, .int .i64, .int .i64, .int .i64, .int .i64, .int .i64, .int .i64, .int .i64, .int .i64, .slice],
  .agg [.slice, .int .i64, .int .i64, .int .i64, .int .i64, .int .i64, .int .i64, .int .i64, .int .i64, .int .i64, .int .i64, .int .i64, .int .i64, .int .i64, .int .i64, .int .i64, .int .i64, .slice],
  .one (.int .u64),
  .one (.any),
  .one (.any),
  .one (.any),
  .one (.ptr),
  .one (.any),
  .one (.any),
  .one (.any),
  .one (.any),
  .one (.any),
  .one .any,
  .agg [.int .u8, .int .u8],
  .agg [.int .u8, .int .u8],
  .one .any,
  .one (.ptr),
  .one (.ptr),
  .one (.any),
  .agg [.ptr, .slice, .int .i64],
  .agg [.ptr, .slice, .int .i64],
  .one (.any),
  .one (.ptr),
  .one (.any),
  .one .any,
  .one (.any),
  .one .any,
  .one (.any),
  .tup [(.one (.slice)), (.one (.str))],
  .one (.any),
  .one (.ptr),
  .one (.ptr),
  .one (.any),
  .tup [(.one (.int .u32)), (.one (.int .u32))],
  .one (.any),
  .agg [.str, .int .i64, .int .u64, .int .i64, .int .i64],
  .agg [.str, .int .i64, .int .u64, .int .i64, .int .i64],
  .tup [(.one (.int .u32)), (.one (.bool))],
  .one (.any),
  .tup [(.one (.ptr)), (.one (.ptr)), (.one (.int .i64))],
  .one (.any),
  .tup [(.one (.int .i64)), (.one (.int .i64))],
  .one (.any),
  .one (.any),
  .one (.any),
  .one (.any),
  .one (.any),
  .one .any,
  .one .any,
  .one (.any),
  .one (.any),
  .one .any,
  .one (.any),
  .one (.int .i64),
  .tup [(.one (.int .i64)), (.one (.noerr))],
  .one (.any),
  .one (.ptr),
  .one (.any),
  .one (.any),
  .tup [(.one (.int .u64)), (.one (.noerr))],
  .one (.any),
  .agg [.str, .str, .any],
  .agg [.str, .str, .any],
  .one (.any),
  .one .any,
  .one .any,
  .one (.any),
  .one (.ptr),
  .agg [.str],
  .agg [.str],
  .agg [.ptr, .ptr, .ptr, .str],
  .agg [.ptr, .ptr, .ptr, .str],
  .agg [],
  .agg [],
  .agg [],
  .one (.int .u8),
  .one (.int .u8),
  .one (.any),
  .one (.int .i32),
  .one (.int .i32),
  .agg [.int .u64, .int .u64, .int .u32, .int .u8, .int .u8, .int .u8, .int .u8, .any, .ptr, .int .i32, .int .i32],
  .agg [.int .u64, .int .u64, .int .u32, .int .u8, .int .u8, .int .u8, .int .u8, .any, .ptr, .int .i32, .int .i32]]
def nth : List Sh → Nat → Sh
  | [], _ => .one .any
  | s :: _, 0 => s
  | _ :: r, n + 1 => nth r n
def ty (n : Nat) : Sh := nth tyL n
abbrev F_main_main : Nat := 0
abbrev F_gosem_cut : Nat := 1
abbrev F_gosem_cut_init : Nat := 2
abbrev F_cartularytop_CartularyTold : Nat := 3
abbrev F_cartularylaw01_Few : Nat := 4
abbrev F_delta_Make : Nat := 5
abbrev F_loose_Write : Nat := 6
abbrev F_snap_New : Nat := 7
abbrev F_loose_List : Nat := 8
abbrev F_loose_Read : Nat := 9
abbrev F_object_Id : Nat := 10
abbrev F_delta_Apply : Nat := 11
abbrev F_delta_sized : Nat := 12
abbrev F_delta_Make_1 : Nat := 13
abbrev F_delta_copyOf : Nat := 14
abbrev F_object_Encode : Nat := 15
abbrev F_loose_Path : Nat := 16
abbrev F_zlib_Write : Nat := 17
abbrev F_slices_Clone : Nat := 18
abbrev F_slices_SortFunc : Nat := 19
abbrev F_snap_byPath : Nat := 20
abbrev F_snap_Clean : Nat := 21
abbrev F_snap_Snap_Under : Nat := 22
abbrev F_strings_Replace : Nat := 23
abbrev F_snap_Snap_Get : Nat := 24
abbrev F_loose_Unpack : Nat := 25
abbrev F_sums_Hex : Nat := 26
abbrev F_sha_Sum1 : Nat := 27
abbrev F_delta_Sizes : Nat := 28
abbrev F_delta_Apply_1 : Nat := 29
abbrev F_delta_reader_byte : Nat := 30
abbrev F_delta_reader_copied : Nat := 31
abbrev F_object_Check : Nat := 32
abbrev F_object_Name : Nat := 33
abbrev F_strconv_Itoa : Nat := 34
abbrev F_sums_Id : Nat := 35
abbrev F_zlib_frame : Nat := 36
abbrev F_inflate_Deflate : Nat := 37
abbrev F_slices_pdqsortCmpFunc : Nat := 38
abbrev F_bits_Len : Nat := 39
abbrev F_strings_Compare : Nat := 40
abbrev F_strings_SplitSeq : Nat := 41
abbrev F_strings_ContainsFunc : Nat := 42
abbrev F_snap_Clean_1 : Nat := 43
abbrev F_slices_BinarySearchFunc : Nat := 44
abbrev F_strings_HasPrefix : Nat := 45
abbrev F_strings_Count : Nat := 46
abbrev F_strings_Builder_Grow : Nat := 47
abbrev F_strings_Index : Nat := 48
abbrev F_strings_Builder_WriteString : Nat := 49
abbrev F_utf8_DecodeRuneInString : Nat := 50
abbrev F_strings_Builder_String : Nat := 51
abbrev F_zlib_Read : Nat := 52
abbrev F_object_Decode : Nat := 53
abbrev F_sha_Hash1_Write : Nat := 54
abbrev F_sha_Hash1_Sum : Nat := 55
abbrev F_delta_Sizes_1 : Nat := 56
abbrev F_delta_reader_size : Nat := 57
abbrev F_sums_Unhex : Nat := 59
abbrev F_sums_Big : Nat := 60
abbrev F_sums_Adler32 : Nat := 61
abbrev F_inflate_fixed : Nat := 62
abbrev F_bitin_Writer_Bits : Nat := 63
abbrev F_huff_Table_Code : Nat := 64
abbrev F_bitin_Writer_Code : Nat := 65
abbrev F_inflate_symbolOf : Nat := 66
abbrev F_inflate_lengthBase : Nat := 67
abbrev F_inflate_distBase : Nat := 68
abbrev F_bitin_Writer_Text : Nat := 69
abbrev F_inflate_Stored : Nat := 70
abbrev F_slices_insertionSortCmpFunc : Nat := 71
abbrev F_slices_heapSortCmpFunc : Nat := 72
abbrev F_slices_breakPatternsCmpFunc : Nat := 73
abbrev F_slices_choosePivotCmpFunc : Nat := 74
abbrev F_slices_reverseRangeCmpFunc : Nat := 75
abbrev F_slices_partialInsertionSortCmpFunc : Nat := 76
abbrev F_slices_partitionEqualCmpFunc : Nat := 77
abbrev F_slices_partitionCmpFunc : Nat := 78
abbrev F_bits_Len32 : Nat := 79
abbrev F_bits_Len64 : Nat := 80
abbrev F_bytealg_CompareString : Nat := 81
abbrev F_strings_splitSeq : Nat := 82
abbrev F_strings_IndexFunc : Nat := 83
abbrev F_stringslite_HasPrefix : Nat := 84
abbrev F_utf8_RuneCountInString : Nat := 85
abbrev F_bytealg_CountString : Nat := 86
abbrev F_strings_Builder_copyCheck : Nat := 87
abbrev F_strings_Builder_grow : Nat := 88
abbrev F_stringslite_Index : Nat := 89
abbrev F_utf8_decodeRuneInStringSlow : Nat := 90
abbrev F_zlib_Head : Nat := 91
abbrev F_inflate_Inflate : Nat := 92
abbrev F_sums_FromBig : Nat := 93
abbrev F_strings_Cut : Nat := 94
abbrev F_object_Number : Nat := 95
abbrev F_object_Kind : Nat := 96
abbrev F_sha_hash_write : Nat := 97
abbrev F_sha_start1 : Nat := 98
abbrev F_sha_block1 : Nat := 99
abbrev F_sha_hash_sum : Nat := 100
abbrev F_strconv_FormatInt : Nat := 101
abbrev F_sums_digit : Nat := 102
abbrev F_sums_Adler_Write : Nat := 103
abbrev F_sums_Adler_Sum : Nat := 104
abbrev F_huff_New : Nat := 105
abbrev F_bitin_Writer_Bytes : Nat := 106
abbrev F_sums_Little : Nat := 107
abbrev F_slices_siftDownCmpFunc : Nat := 108
abbrev F_slices_nextPowerOfTwo : Nat := 109
abbrev F_slices_xorshift_Next : Nat := 110
abbrev F_slices_medianAdjacentCmpFunc : Nat := 111
abbrev F_slices_medianCmpFunc : Nat := 112
abbrev F_bytealg_abigen_runtime_cmpstring : Nat := 113
abbrev F_strings_splitSeq_1 : Nat := 114
abbrev F_strings_indexFunc : Nat := 115
abbrev F_abi_NoEscape : Nat := 116
abbrev F_bytealg_MakeNoZero : Nat := 117
abbrev F_stringslite_IndexByte : Nat := 118
abbrev F_bytealg_IndexString : Nat := 119
abbrev F_bytealg_Cutover : Nat := 120
abbrev F_bytealg_IndexRabinKarp : Nat := 121
abbrev F_bitin_New : Nat := 122
abbrev F_inflate_state_run : Nat := 123
abbrev F_bitin_Reader_Used : Nat := 124
abbrev F_stringslite_Cut : Nat := 125
abbrev F_strconv_Atoi : Nat := 126
abbrev F_sha_word : Nat := 127
abbrev F_bits_RotateLeft32 : Nat := 128
abbrev F_strconv_small : Nat := 129
abbrev F_strconv_numDigits : Nat := 130
abbrev F_strconv_formatBase10 : Nat := 131
abbrev F_strconv_formatBits : Nat := 132
abbrev F_bitin_Writer_Align : Nat := 133
abbrev F_slices_order2CmpFunc : Nat := 134
abbrev F_bytealg_IndexByteString : Nat := 135
abbrev F_bytealg_hashStr : Nat := 136
abbrev F_bitin_Reader_Bits : Nat := 137
abbrev F_inflate_state_stored : Nat := 138
abbrev F_inflate_state_tables : Nat := 139
abbrev F_huff_Table_Read : Nat := 140
abbrev F_inflate_state_put : Nat := 141
abbrev F_inflate_state_repeat : Nat := 142
abbrev F_strconv_toError : Nat := 144
abbrev F_strconv_log10Pow2 : Nat := 145
abbrev F_strconv_bool2 : Nat := 146
abbrev F_strconv_isPowerOfTwo : Nat := 147
abbrev F_bits_TrailingZeros : Nat := 148
abbrev F_bitin_Reader_Peek : Nat := 149
abbrev F_bitin_Reader_Skip : Nat := 150
abbrev F_bitin_Reader_Bytes : Nat := 151
abbrev F_sums_FromLittle : Nat := 152
abbrev F_bitin_Reader_Left : Nat := 153
abbrev F_inflate_order : Nat := 154
abbrev F_strconv_ParseInt : Nat := 155
abbrev F_strconv_syntaxError : Nat := 156
abbrev F_strconv_rangeError : Nat := 157
abbrev F_strconv_baseError : Nat := 158
abbrev F_strconv_bitSizeError : Nat := 159
abbrev F_bits_TrailingZeros32 : Nat := 160
abbrev F_bits_TrailingZeros64 : Nat := 161
abbrev F_bitin_Reader_fill : Nat := 162
abbrev F_bitin_Reader_Align : Nat := 163
abbrev F_strconv_ParseUint : Nat := 164
abbrev F_stringslite_Clone : Nat := 165
abbrev F_errors_New : Nat := 166
abbrev F_strconv_lower : Nat := 167
abbrev F_strconv_underscoreOK : Nat := 168
abbrev F_runtime_boundsError_Error : Nat := 169
abbrev F_runtime_boundsError_RuntimeError : Nat := 170
abbrev F_runtime_errorString_Error : Nat := 171
abbrev F_runtime_errorString_RuntimeError : Nat := 172
abbrev F_runtime_plainError_Error : Nat := 173
abbrev F_runtime_plainError_RuntimeError : Nat := 174
abbrev F_runtime_errorAddressString_Error : Nat := 175
abbrev F_runtime_errorAddressString_RuntimeError : Nat := 176
abbrev F_runtime_TypeAssertionError_Error : Nat := 177
abbrev F_runtime_TypeAssertionError_RuntimeError : Nat := 178
abbrev F_runtime_PanicNilError_Error : Nat := 179
abbrev F_runtime_PanicNilError_RuntimeError : Nat := 180
abbrev F_abi_Type_Align : Nat := 181
abbrev F_maps_unhashableTypeError_Error : Nat := 182
abbrev F_maps_unhashableTypeError_RuntimeError : Nat := 183
abbrev F_snap_Snap_Len : Nat := 184
abbrev F_strings_Builder_Reset : Nat := 185
abbrev F_strconv_Error_Error : Nat := 186
abbrev F_strconv_NumError_Error : Nat := 187
abbrev F_errors_errorString_Error : Nat := 188
abbrev F_abi_Kind_String : Nat := 189
abbrev F_var_s_door_gosem_cut_vars_holds_initialisers_alone_see_the_manifest_s_row_cutvarsword_look_11_test_files_too_ : Nat := 190
abbrev F_strconv_uint64pow10_is_laid_by_its_own_initialiser_plain_data_look_11_ : Nat := 191
abbrev F_bits_deBruijn32tab_is_laid_by_its_own_initialiser_plain_data_look_11_ : Nat := 192
abbrev F_bits_deBruijn64tab_is_laid_by_its_own_initialiser_plain_data_look_11_ : Nat := 193
abbrev F_var_s_door_strconv_ErrRange_is_laid_by_its_own_call_of_errors_New_on_one_literal_look_11_ : Nat := 194
abbrev F_var_s_door_strconv_ErrSyntax_is_laid_by_its_own_call_of_errors_New_on_one_literal_look_11_ : Nat := 195
abbrev F_var_s_door_the_look_of_gosem_cut_vars_went_over_the_folder_that_the_caller_named_as_the_repository_s_root_look_11_ : Nat := 196
abbrev F_utf8_acceptRanges_is_laid_by_its_own_initialiser_plain_data_look_11_ : Nat := 197
abbrev F_utf8_first_is_laid_by_its_text_alone_pinned_1_ : Nat := 198
abbrev F_gosem_cut_vars : Nat := 199
abbrev T_int64 : Nat := 2
abbrev T_int : Nat := 3
abbrev T_bool : Nat := 4
abbrev T_uint8 : Nat := 5
abbrev T_abi_BoundsErrorCode : Nat := 6
abbrev T_runtime_boundsError : Nat := 8
abbrev T_string : Nat := 9
abbrev T_runtime_errorString : Nat := 10
abbrev T_runtime_plainError : Nat := 11
abbrev T_uintptr : Nat := 12
abbrev T_runtime_errorAddressString : Nat := 14
abbrev T_P_runtime_TypeAssertionError : Nat := 15
abbrev T_P_runtime_PanicNilError : Nat := 16
abbrev T_P_abi_Type : Nat := 17
abbrev T_maps_unhashableTypeError : Nat := 19
abbrev T_int32 : Nat := 21
abbrev T_api_File : Nat := 25
abbrev T_api_Errno : Nat := 26
abbrev T_api_Object : Nat := 30
abbrev T_P_snap_Snap : Nat := 31
abbrev T_S_api_File : Nat := 34
abbrev T_S_string : Nat := 35
abbrev T_S_uint8 : Nat := 43
abbrev T_map_string_int : Nat := 45
abbrev T_snap_Snap : Nat := 52
abbrev T_delta_wrong : Nat := 61
abbrev T_P_delta_reader : Nat := 63
abbrev T_delta_reader : Nat := 65
abbrev T_uint : Nat := 69
abbrev T_iter_Seq : Nat := 76
abbrev T_P_strings_Builder : Nat := 81
abbrev T_strings_Builder : Nat := 83
abbrev T_error : Nat := 86
abbrev T_S_uint32 : Nat := 94
abbrev T_uint64 : Nat := 95
abbrev T_sha_hash : Nat := 97
abbrev T_sha_Hash1 : Nat := 99
abbrev T_uint32 : Nat := 104
abbrev T_bitin_Writer : Nat := 107
abbrev T_P_huff_Table : Nat := 108
abbrev T_slices_sortedHint : Nat := 117
abbrev T_P_uint8 : Nat := 129
abbrev T_P_sha_Hash1 : Nat := 135
abbrev T_sums_Adler : Nat := 143
abbrev T_S_int : Nat := 145
abbrev T_P_bitin_Writer : Nat := 148
abbrev T_16_int : Nat := 149
abbrev T_huff_Table : Nat := 151
abbrev T_slices_xorshift : Nat := 152
abbrev T_P_int : Nat := 156
abbrev T_256_uint8 : Nat := 162
abbrev T_utf8_acceptRange : Nat := 164
abbrev T_16_utf8_acceptRange : Nat := 165
abbrev T_P_inflate_state : Nat := 166
abbrev T_P_bitin_Reader : Nat := 167
abbrev T_inflate_state : Nat := 170
abbrev T_P_sha_hash : Nat := 172
abbrev T_sha_block : Nat := 173
abbrev T_80_uint32 : Nat := 174
abbrev T_24_uint8 : Nat := 176
abbrev T_P_sums_Adler : Nat := 180
abbrev T_P_slices_xorshift : Nat := 181
abbrev T_bitin_Reader : Nat := 186
abbrev T_20_uint64 : Nat := 197
abbrev T_65_uint8 : Nat := 198
abbrev T_19_int : Nat := 201
abbrev T_strconv_Error : Nat := 203
abbrev T_P_strconv_NumError : Nat := 206
abbrev T_strconv_NumError : Nat := 212
abbrev T_32_uint8 : Nat := 214
abbrev T_64_uint8 : Nat := 215
abbrev T_P_errors_errorString : Nat := 217
abbrev T_errors_errorString : Nat := 219
abbrev T_runtime_TypeAssertionError : Nat := 221
abbrev T_0_P_runtime_PanicNilError : Nat := 222
abbrev T_runtime_PanicNilError : Nat := 224
abbrev T_abi_TFlag : Nat := 225
abbrev T_abi_Kind : Nat := 226
abbrev T_abi_NameOff : Nat := 228
abbrev T_abi_TypeOff : Nat := 229
abbrev T_abi_Type : Nat := 231
abbrev G_bytealg_MaxLen : Nat := 0
abbrev G_utf8_first : Nat := 1
abbrev G_utf8_acceptRanges : Nat := 2
abbrev G_strconv_uint64pow10 : Nat := 3
abbrev G_strconv_ErrSyntax : Nat := 4
abbrev G_strconv_ErrRange : Nat := 5
abbrev G_bits_deBruijn32tab : Nat := 6
abbrev G_bits_deBruijn64tab : Nat := 7
end Go.Proofs.YtcnpekohkbjnnaaGreatDoor

/- Formulas of 4 Go functions of this seat (written by a program of the author's, vcgen.py), and that each is enough for the call. No condition. -/
set_option linter.unusedVariables false
namespace Go.Proofs.YtcnpekohkbjnnaaGreatDoor
open Go Vc Go.Proofs
set_option maxRecDepth 100000
/-- internal/stringslite.Index -/
def vc_stringslite_Index (x0 : ByteArray) (x1 : ByteArray) (w : World) (R : Value → World → Prop) : Prop :=
  ∃ I1 : World → Prop, ((((((↑(ByteArray.size x1) : Int) == 0) = true →
      R (Value.int IntKind.i64 0) w)) ∧
    (((↑(ByteArray.size x1) : Int) == 0) = false →
      ((((ByteArray.toList x1 == ByteArray.toList x0) = true →
         R (Value.int IntKind.i64 0) w)) ∧
       ((ByteArray.toList x1 == ByteArray.toList x0) = false →
         (((((↑(ByteArray.size x1) : Int) == 1) = true →
            (((0 : Int) ≤ (0 : Int) ∧
              0 < (↑(ByteArray.size x1) : Int)) ∧
             Calls Tryz.prog (118 : Nat) (Array.mk [Value.string x0, Value.int IntKind.u8 (byteAt x1 0)]) (w) (fun e2 w3 =>
               ∃ n4 : Int, (e2 = Ending.returned (Value.int IntKind.i64 n4) ∧
                R (Value.int IntKind.i64 n4) w3))))) ∧
          (((↑(ByteArray.size x1) : Int) == 1) = false →
            (((decide ((↑(ByteArray.size x1) : Int) ≥ (↑(ByteArray.size x0) : Int)) = true →
               R (Value.int IntKind.i64 (-1)) w)) ∧
             (decide ((↑(ByteArray.size x1) : Int) ≥ (↑(ByteArray.size x0) : Int)) = false →
               ∃ n5 : Int, (World.cell? w (Addr.mk 0 0 none) = some (Value.int IntKind.i64 n5) ∧
                (((decide ((↑(ByteArray.size x1) : Int) ≤ n5) = true →
                   (((decide ((↑(ByteArray.size x0) : Int) ≤ 64) = true →
                      False)) ∧
                    (decide ((↑(ByteArray.size x0) : Int) ≤ 64) = false →
                      I1 w)))) ∧
                 (decide ((↑(ByteArray.size x1) : Int) ≤ n5) = false →
                   I1 w))))))))))) ∧
   ∀ w6 : World,
   (I1 w6 →
     (((0 : Int) ≤ (0 : Int) ∧
       0 < (↑(ByteArray.size x1) : Int)) ∧
      (((0 : Int) ≤ (1 : Int) ∧
        1 < (↑(ByteArray.size x1) : Int)) ∧
       ∃ I7 : Int → Int → World → Prop, ∃ I8 : Int → Int → World → Nat, (I7 0 0 w6 ∧
        ∀ n9 : Int,
        ∀ n10 : Int,
        ∀ w11 : World,
        (I7 n9 n10 w11 →
          (((decide (n9 < IntKind.wrap IntKind.i64 (IntKind.wrap IntKind.i64 ((↑(ByteArray.size x0) : Int) - (↑(ByteArray.size x1) : Int)) + 1)) = true →
             ∃ I12 : Int → World → Prop, (((0 ≤ n9 ∧
                n9 < (↑(ByteArray.size x0) : Int)) ∧
               ((((byteAt x0 n9 != byteAt x1 0) = true →
                  ((0 ≤ IntKind.wrap IntKind.i64 (n9 + 1) ∧
                    (IntKind.wrap IntKind.i64 (n9 + 1) ≤ IntKind.wrap IntKind.i64 (IntKind.wrap IntKind.i64 ((↑(ByteArray.size x0) : Int) - (↑(ByteArray.size x1) : Int)) + 1) ∧
                     IntKind.wrap IntKind.i64 (IntKind.wrap IntKind.i64 ((↑(ByteArray.size x0) : Int) - (↑(ByteArray.size x1) : Int)) + 1) ≤ (↑(ByteArray.size x0) : Int))) ∧
                   Calls Tryz.prog (118 : Nat) (Array.mk [Value.string (ByteArray.extract x0 (Int.toNat (IntKind.wrap IntKind.i64 (n9 + 1))) (Int.toNat (IntKind.wrap IntKind.i64 (IntKind.wrap IntKind.i64 ((↑(ByteArray.size x0) : Int) - (↑(ByteArray.size x1) : Int)) + 1)))), Value.int IntKind.u8 (byteAt x1 0)]) (w11) (fun e13 w14 =>
                     ∃ n15 : Int, (e13 = Ending.returned (Value.int IntKind.i64 n15) ∧
                      (((decide (n15 < 0) = true →
                         R (Value.int IntKind.i64 (-1)) w14)) ∧
                       (decide (n15 < 0) = false →
                         I12 (IntKind.wrap IntKind.i64 (n9 + IntKind.wrap IntKind.i64 (n15 + 1))) w14))))))) ∧
                ((byteAt x0 n9 != byteAt x1 0) = false →
                  I12 n9 w11))) ∧
              ∀ n16 : Int,
              ∀ w17 : World,
              (I12 n16 w17 →
                ∃ I18 : World → Prop, (((0 ≤ IntKind.wrap IntKind.i64 (n16 + 1) ∧
                   IntKind.wrap IntKind.i64 (n16 + 1) < (↑(ByteArray.size x0) : Int)) ∧
                  ((((byteAt x0 (IntKind.wrap IntKind.i64 (n16 + 1)) == byteAt x1 1) = true →
                     ((0 ≤ n16 ∧
                       (n16 ≤ IntKind.wrap IntKind.i64 (n16 + (↑(ByteArray.size x1) : Int)) ∧
                        IntKind.wrap IntKind.i64 (n16 + (↑(ByteArray.size x1) : Int)) ≤ (↑(ByteArray.size x0) : Int))) ∧
                      ((((ByteArray.toList (ByteArray.extract x0 (Int.toNat n16) (Int.toNat (IntKind.wrap IntKind.i64 (n16 + (↑(ByteArray.size x1) : Int))))) == ByteArray.toList x1) = true →
                         R (Value.int IntKind.i64 n16) w17)) ∧
                       ((ByteArray.toList (ByteArray.extract x0 (Int.toNat n16) (Int.toNat (IntKind.wrap IntKind.i64 (n16 + (↑(ByteArray.size x1) : Int))))) == ByteArray.toList x1) = false →
                         I18 w17))))) ∧
                   ((byteAt x0 (IntKind.wrap IntKind.i64 (n16 + 1)) == byteAt x1 1) = false →
                     I18 w17))) ∧
                 ∀ w19 : World,
                 (I18 w19 →
                   ∃ I20 : Bool → World → Prop, ((∃ n21 : Int, (World.cell? w19 (Addr.mk 0 0 none) = some (Value.int IntKind.i64 n21) ∧
                     (((decide ((↑(ByteArray.size x1) : Int) ≤ n21) = true →
                        Calls Tryz.prog (120 : Nat) (Array.mk [Value.int IntKind.i64 (IntKind.wrap IntKind.i64 (n16 + 1))]) (w19) (fun e22 w23 =>
                          ∃ n24 : Int, (e22 = Ending.returned (Value.int IntKind.i64 n24) ∧
                           I20 (decide (IntKind.wrap IntKind.i64 (n10 + 1) > n24)) w23)))) ∧
                      (decide ((↑(ByteArray.size x1) : Int) ≤ n21) = false →
                        I20 false w19)))) ∧
                    ∀ b25 : Bool,
                    ∀ w26 : World,
                    (I20 b25 w26 →
                      (((b25 = true →
                         ((0 ≤ IntKind.wrap IntKind.i64 (n16 + 1) ∧
                           IntKind.wrap IntKind.i64 (n16 + 1) ≤ (↑(ByteArray.size x0) : Int)) ∧
                          False))) ∧
                       (b25 = false →
                         ∃ n27 : Int, (World.cell? w26 (Addr.mk 0 0 none) = some (Value.int IntKind.i64 n27) ∧
                          (((decide ((↑(ByteArray.size x1) : Int) > n27) = true →
                             ((0 : Int) ≤ (4 : Int) ∧
                              (((decide (IntKind.wrap IntKind.i64 (n10 + 1) ≥ IntKind.wrap IntKind.i64 (4 + Int.fdiv (IntKind.wrap IntKind.i64 (n16 + 1)) (2 ^ min (Int.toNat 4) 64))) = true →
                                 (((decide (IntKind.wrap IntKind.i64 (n16 + 1) < IntKind.wrap IntKind.i64 (IntKind.wrap IntKind.i64 ((↑(ByteArray.size x0) : Int) - (↑(ByteArray.size x1) : Int)) + 1)) = true →
                                    ((0 ≤ IntKind.wrap IntKind.i64 (n16 + 1) ∧
                                      IntKind.wrap IntKind.i64 (n16 + 1) ≤ (↑(ByteArray.size x0) : Int)) ∧
                                     Calls Tryz.prog (121 : Nat) (Array.mk [Value.string (ByteArray.extract x0 (Int.toNat (IntKind.wrap IntKind.i64 (n16 + 1))) (ByteArray.size x0)), Value.string x1]) (w26) (fun e28 w29 =>
                                       ∃ n30 : Int, (e28 = Ending.returned (Value.int IntKind.i64 n30) ∧
                                        (((decide (n30 < 0) = true →
                                           R (Value.int IntKind.i64 (-1)) w29)) ∧
                                         (decide (n30 < 0) = false →
                                           R (Value.int IntKind.i64 (IntKind.wrap IntKind.i64 (IntKind.wrap IntKind.i64 (n16 + 1) + n30))) w29))))))) ∧
                                  (decide (IntKind.wrap IntKind.i64 (n16 + 1) < IntKind.wrap IntKind.i64 (IntKind.wrap IntKind.i64 ((↑(ByteArray.size x0) : Int) - (↑(ByteArray.size x1) : Int)) + 1)) = false →
                                    (I7 (IntKind.wrap IntKind.i64 (n16 + 1)) (IntKind.wrap IntKind.i64 (n10 + 1)) w26 ∧
                                     I8 (IntKind.wrap IntKind.i64 (n16 + 1)) (IntKind.wrap IntKind.i64 (n10 + 1)) w26 < I8 n9 n10 w11))))) ∧
                               (decide (IntKind.wrap IntKind.i64 (n10 + 1) ≥ IntKind.wrap IntKind.i64 (4 + Int.fdiv (IntKind.wrap IntKind.i64 (n16 + 1)) (2 ^ min (Int.toNat 4) 64))) = false →
                                 (I7 (IntKind.wrap IntKind.i64 (n16 + 1)) (IntKind.wrap IntKind.i64 (n10 + 1)) w26 ∧
                                  I8 (IntKind.wrap IntKind.i64 (n16 + 1)) (IntKind.wrap IntKind.i64 (n10 + 1)) w26 < I8 n9 n10 w11)))))) ∧
                           (decide ((↑(ByteArray.size x1) : Int) > n27) = false →
                             (I7 (IntKind.wrap IntKind.i64 (n16 + 1)) (IntKind.wrap IntKind.i64 (n10 + 1)) w26 ∧
                              I8 (IntKind.wrap IntKind.i64 (n16 + 1)) (IntKind.wrap IntKind.i64 (n10 + 1)) w26 < I8 n9 n10 w11)))))))))))))) ∧
           (decide (n9 < IntKind.wrap IntKind.i64 (IntKind.wrap IntKind.i64 ((↑(ByteArray.size x0) : Int) - (↑(ByteArray.size x1) : Int)) + 1)) = false →
             R (Value.int IntKind.i64 (-1)) w11))))))))
theorem vc_stringslite_Index_ok {x0 : ByteArray} {x1 : ByteArray} {w : World} {R : Value → World → Prop} {R' : Ending → World → Prop} (h : vc_stringslite_Index x0 x1 w R) (hR : ∀ v w', R v w' → R' (.returned v) w') :
    Calls Tryz.prog 89 #[.string x0, .string x1] w R' :=
  calls_of_body (vs := [(.string x0, false), (.string x1, false)]) (ty := ty) (ann := ⟨[(10, []), (21, [(8, .int .i64)]), (23, []), (26, [(107, .bool)])], [(15, [(8, .int .i64), (10, .int .i64)])], [], []⟩) (c := Tryz.f89.body.getD .skip) (by kernel_rfl) Tryz.func89 (by kernel_rfl) (by kernel_rfl) (Eq.mp (by kernel_rfl) h) hR
/-- strings.Index -/
def vc_strings_Index (x0 : ByteArray) (x1 : ByteArray) (w : World) (R : Value → World → Prop) : Prop :=
  Calls Tryz.prog (89 : Nat) (Array.mk [Value.string x0, Value.string x1]) (w) (fun e1 w2 =>
    ∃ n3 : Int, (e1 = Ending.returned (Value.int IntKind.i64 n3) ∧
     R (Value.int IntKind.i64 n3) w2))
theorem vc_strings_Index_ok {x0 : ByteArray} {x1 : ByteArray} {w : World} {R : Value → World → Prop} {R' : Ending → World → Prop} (h : vc_strings_Index x0 x1 w R) (hR : ∀ v w', R v w' → R' (.returned v) w') :
    Calls Tryz.prog 48 #[.string x0, .string x1] w R' :=
  calls_of_body (vs := [(.string x0, false), (.string x1, false)]) (ty := ty) (ann := ⟨[], [], [], []⟩) (c := Tryz.f48.body.getD .skip) (by kernel_rfl) Tryz.func48 (by kernel_rfl) (by kernel_rfl) (Eq.mp (by kernel_rfl) h) hR
/-- internal/stringslite.Cut -/
def vc_stringslite_Cut (x0 : ByteArray) (x1 : ByteArray) (w : World) (R : Value → World → Prop) : Prop :=
  Calls Tryz.prog (89 : Nat) (Array.mk [Value.string x0, Value.string x1]) (w) (fun e1 w2 =>
    ∃ n3 : Int, (e1 = Ending.returned (Value.int IntKind.i64 n3) ∧
     (((decide (n3 ≥ 0) = true →
        ((0 ≤ n3 ∧
          n3 ≤ (↑(ByteArray.size x0) : Int)) ∧
         ((0 ≤ IntKind.wrap IntKind.i64 (n3 + (↑(ByteArray.size x1) : Int)) ∧
           IntKind.wrap IntKind.i64 (n3 + (↑(ByteArray.size x1) : Int)) ≤ (↑(ByteArray.size x0) : Int)) ∧
          ∀ w4 : World,
          (Drew w2 w4 →
            R (Value.tuple (Array.mk [Value.string (ByteArray.extract x0 0 (Int.toNat n3)), Value.string (ByteArray.extract x0 (Int.toNat (IntKind.wrap IntKind.i64 (n3 + (↑(ByteArray.size x1) : Int)))) (ByteArray.size x0)), Value.bool true])) w4))))) ∧
      (decide (n3 ≥ 0) = false →
        R (Value.tuple (Array.mk [Value.string x0, Value.string (ByteArray.mk (Array.mk [])), Value.bool false])) w2))))
theorem vc_stringslite_Cut_ok {x0 : ByteArray} {x1 : ByteArray} {w : World} {R : Value → World → Prop} {R' : Ending → World → Prop} (h : vc_stringslite_Cut x0 x1 w R) (hR : ∀ v w', R v w' → R' (.returned v) w') :
    Calls Tryz.prog 125 #[.string x0, .string x1] w R' :=
  calls_of_body (vs := [(.string x0, false), (.string x1, false)]) (ty := ty) (ann := ⟨[], [], [(3, .quiet)], []⟩) (c := Tryz.f125.body.getD .skip) (by kernel_rfl) Tryz.func125 (by kernel_rfl) (by kernel_rfl) (Eq.mp (by kernel_rfl) h) hR
/-- strings.Cut -/
def vc_strings_Cut (x0 : ByteArray) (x1 : ByteArray) (w : World) (R : Value → World → Prop) : Prop :=
  Calls Tryz.prog (125 : Nat) (Array.mk [Value.string x0, Value.string x1]) (w) (fun e1 w2 =>
    ∃ s3 : ByteArray, ∃ s4 : ByteArray, ∃ b5 : Bool, (e1 = Ending.returned (Value.tuple (Array.mk [Value.string s3, Value.string s4, Value.bool b5])) ∧
     R (Value.tuple (Array.mk [Value.string s3, Value.string s4, Value.bool b5])) w2))
theorem vc_strings_Cut_ok {x0 : ByteArray} {x1 : ByteArray} {w : World} {R : Value → World → Prop} {R' : Ending → World → Prop} (h : vc_strings_Cut x0 x1 w R) (hR : ∀ v w', R v w' → R' (.returned v) w') :
    Calls Tryz.prog 94 #[.string x0, .string x1] w R' :=
  calls_of_body (vs := [(.string x0, false), (.string x1, false)]) (ty := ty) (ann := ⟨[], [], [], []⟩) (c := Tryz.f94.body.getD .skip) (by kernel_rfl) Tryz.func94 (by kernel_rfl) (by kernel_rfl) (Eq.mp (by kernel_rfl) h) hR
end Go.Proofs.YtcnpekohkbjnnaaGreatDoor

/- Structures of the kit over its shelf, at this seat (written by a program of the author's, laysn.py). No condition. -/
namespace Go.Proofs.YtcnpekohkbjnnaaGreatDoor
open Go Go.Shelf Go.Proofs
def lays217_ren : Go.Shelf.Ren := ⟨fun | 217 => 118 | 266 => 135 | n => n, fun | 3 => 3 | 5 => 5 | 9 => 9 | n => n, fun  | n => n⟩
theorem lays217 : Go.Proofs.Lays.n217 Tryz.prog lays217_ren := {
  mixed := by kernel_rfl,
  f217 := Tryz.func118.trans (congrArg some (by kernel_rfl)),
  f266 := Tryz.func135.trans (congrArg some (by kernel_rfl)),
  t3 := Tryz.underlying3,
  a3 := Tryz.isAgg3,
  z3 := Tryz.sizeOf3,
  v3 := Tryz.zeroValue3,
  t5 := Tryz.underlying5,
  a5 := Tryz.isAgg5,
  z5 := Tryz.sizeOf5,
  v5 := Tryz.zeroValue5,
  t9 := Tryz.underlying9,
  a9 := Tryz.isAgg9,
  z9 := Tryz.sizeOf9,
  v9 := Tryz.zeroValue9 }
end Go.Proofs.YtcnpekohkbjnnaaGreatDoor

/- Go's text functions of this seat: Index at one byte. Conditions: as named. -/
set_option linter.unusedVariables false
namespace Go.Proofs.YtcnpekohkbjnnaaGreatDoor
open Go Vc Go.Proofs

theorem indexByteL_spec (s : ByteArray) (c : Int) (w : World) : Calls Tryz.prog F_stringslite_IndexByte #[.string s, .int .u8 c] w fun e w' => e = .returned (.int .i64 (Lib.indexByte s.data.toList c.toNat.toUInt8)) ∧ w' = w :=
  Any.stringslite_IndexByte lays217 s c w
/-- 'Index' at one byte. -/
theorem index1_spec (s : ByteArray) (c : Nat) (hc : c < 256) (w : World) : Calls Tryz.prog F_stringslite_Index #[.string s, .string ⟨#[UInt8.ofNat c]⟩] w fun e w' => e = .returned (.int .i64 (Lib.indexByte s.data.toList (UInt8.ofNat c))) ∧ w' = w := by
  refine vc_stringslite_Index_ok (R := fun v w' => v = .int .i64 (Lib.indexByte s.data.toList (UInt8.ofNat c)) ∧ w' = w) ?_ (fun v w' h => ⟨by rw [h.1], h.2⟩)
  have hb : byteAt ⟨#[UInt8.ofNat c]⟩ 0 = (c : Int) := by
    show (((UInt8.ofNat c).toNat : Nat) : Int) = _
    rw [toNat_of c hc]
  have h1 : (ByteArray.mk #[UInt8.ofNat c]).size = 1 := rfl
  refine ⟨fun _ => False, ⟨fun h => absurd h (by rw [h1]; decide), fun _ => ⟨fun h => ?_, fun _ => ⟨fun _ => ⟨⟨by decide, by rw [h1]; decide⟩, ?_⟩, fun h => absurd h (by rw [h1]; decide)⟩⟩⟩, fun _ h => h.elim⟩
  · rw [bs_eq] at h
    have h := of_decide_eq_true h
    subst h
    refine ⟨?_, rfl⟩
    have : Lib.indexByte (ByteArray.mk #[UInt8.ofNat c]).data.toList (UInt8.ofNat c) = ((0 : Nat) : Int) :=
      fnd_at (by rw [h1]; decide) rfl (fun k hk => by omega)
    rw [this]; rfl
  · rw [hb]
    refine (indexByteL_spec s c w).mono ?_
    rintro e w2 ⟨rfl, rfl⟩
    refine ⟨_, rfl, ?_, rfl⟩
    simp
/-- What 'Cut' at one byte says. -/
def cutS (s : ByteArray) (c : UInt8) : ByteArray × ByteArray × Bool :=
  if Lib.indexByte s.data.toList c = -1 then (s, ⟨#[]⟩, false) else (s.extract 0 (Lib.indexByte s.data.toList c).toNat, s.extract ((Lib.indexByte s.data.toList c).toNat + 1) s.size, true)
end Go.Proofs.YtcnpekohkbjnnaaGreatDoor

/- Formulas of 4 Go functions of this seat (written by a program of the author's, vcgen.py), and that each is enough for the call. No condition. -/
set_option linter.unusedVariables false
namespace Go.Proofs.YtcnpekohkbjnnaaGreatDoor
open Go Vc Go.Proofs
set_option maxRecDepth 100000
/-- snap.Clean$1 -/
def vc_snap_Clean_1 (x0 : Int) (w : World) (R : Value → World → Prop) : Prop :=
  (((decide (x0 < 32) = true →
     R (Value.bool true) w)) ∧
   (decide (x0 < 32) = false →
     R (Value.bool (decide (x0 > 126))) w))
theorem vc_snap_Clean_1_ok {x0 : Int} {w : World} {R : Value → World → Prop} {R' : Ending → World → Prop} (h : vc_snap_Clean_1 x0 w R) (hR : ∀ v w', R v w' → R' (.returned v) w') :
    Calls Tryz.prog 43 #[.int .i32 x0] w R' :=
  calls_of_body (vs := [(.int .i32 x0, false)]) (ty := ty) (ann := ⟨[], [], [], []⟩) (c := Tryz.f43.body.getD .skip) (by kernel_rfl) Tryz.func43 (by kernel_rfl) (by kernel_rfl) (Eq.mp (by kernel_rfl) h) hR
/-- strings.indexFunc#clean -/
def vc_strings_indexFunc_clean (x0 : ByteArray) (x2 : Bool) (w : World) (R : Value → World → Prop) : Prop :=
  ∃ w1 : World, ∃ a2 : Addr, (Sem.run Tryz.prog (Instr.range 9 (Value.string x0)) w = Result.ok (Value.pointer (some a2)) w1 ∧
   ∃ I3 : World → Prop, ∃ I4 : World → Nat, (I3 w1 ∧
    ∀ w5 : World,
    (I3 w5 →
      ((∃ w6 : World, (Sem.run Tryz.prog (Instr.next (Value.pointer (some a2)) true 0) w5 = Result.ok (Value.tuple (Array.mk [Value.bool false])) w6 ∧
        (((false = true →
           False)) ∧
         (false = false →
           R (Value.int IntKind.i64 (-1)) w6)))) ∨
       (∃ w7 : World, ∃ n8 : Int, ∃ n9 : Int, (Sem.run Tryz.prog (Instr.next (Value.pointer (some a2)) true 0) w5 = Result.ok (Value.tuple (Array.mk [Value.bool true, Value.int IntKind.i64 n8, Value.int IntKind.i32 n9])) w7 ∧
        (((true = true →
           Calls Tryz.prog (43 : FuncId) (Array.mk [Value.int IntKind.i32 n9]) (w7) (fun e10 w11 =>
             ∃ b12 : Bool, (e10 = Ending.returned (Value.bool b12) ∧
              ((((b12 == x2) = true →
                 R (Value.int IntKind.i64 n8) w11)) ∧
               ((b12 == x2) = false →
                 (I3 w11 ∧
                  I4 w11 < I4 w5))))))) ∧
         (true = false →
           R (Value.int IntKind.i64 (-1)) w7))))))))
theorem vc_strings_indexFunc_clean_ok {x0 : ByteArray} {x2 : Bool} {w : World} {R : Value → World → Prop} {R' : Ending → World → Prop} (h : vc_strings_indexFunc_clean x0 x2 w R) (hR : ∀ v w', R v w' → R' (.returned v) w') :
    Calls Tryz.prog 115 #[.string x0, .func (.func 43) #[] #[], .bool x2] w R' :=
  calls_of_body (vs := [(.string x0, false), (.func (.func 43) #[] #[], false), (.bool x2, false)]) (ty := ty) (ann := ⟨[], [(2, [])], [], []⟩) (c := Tryz.f115.body.getD .skip) (by kernel_rfl) Tryz.func115 (by kernel_rfl) (by kernel_rfl) (Eq.mp (by kernel_rfl) h) hR
/-- strings.IndexFunc#clean -/
def vc_strings_IndexFunc_clean (x0 : ByteArray) (w : World) (R : Value → World → Prop) : Prop :=
  Calls Tryz.prog (115 : Nat) (Array.mk [Value.string x0, Value.func (Fn.func 43) (Array.mk []) (Array.mk []), Value.bool true]) (w) (fun e1 w2 =>
    ∃ n3 : Int, (e1 = Ending.returned (Value.int IntKind.i64 n3) ∧
     R (Value.int IntKind.i64 n3) w2))
theorem vc_strings_IndexFunc_clean_ok {x0 : ByteArray} {w : World} {R : Value → World → Prop} {R' : Ending → World → Prop} (h : vc_strings_IndexFunc_clean x0 w R) (hR : ∀ v w', R v w' → R' (.returned v) w') :
    Calls Tryz.prog 83 #[.string x0, .func (.func 43) #[] #[]] w R' :=
  calls_of_body (vs := [(.string x0, false), (.func (.func 43) #[] #[], false)]) (ty := ty) (ann := ⟨[], [], [], []⟩) (c := Tryz.f83.body.getD .skip) (by kernel_rfl) Tryz.func83 (by kernel_rfl) (by kernel_rfl) (Eq.mp (by kernel_rfl) h) hR
/-- strings.ContainsFunc#clean -/
def vc_strings_ContainsFunc_clean (x0 : ByteArray) (w : World) (R : Value → World → Prop) : Prop :=
  Calls Tryz.prog (83 : Nat) (Array.mk [Value.string x0, Value.func (Fn.func 43) (Array.mk []) (Array.mk [])]) (w) (fun e1 w2 =>
    ∃ n3 : Int, (e1 = Ending.returned (Value.int IntKind.i64 n3) ∧
     R (Value.bool (decide (n3 ≥ 0))) w2))
theorem vc_strings_ContainsFunc_clean_ok {x0 : ByteArray} {w : World} {R : Value → World → Prop} {R' : Ending → World → Prop} (h : vc_strings_ContainsFunc_clean x0 w R) (hR : ∀ v w', R v w' → R' (.returned v) w') :
    Calls Tryz.prog 42 #[.string x0, .func (.func 43) #[] #[]] w R' :=
  calls_of_body (vs := [(.string x0, false), (.func (.func 43) #[] #[], false)]) (ty := ty) (ann := ⟨[], [], [], []⟩) (c := Tryz.f42.body.getD .skip) (by kernel_rfl) Tryz.func42 (by kernel_rfl) (by kernel_rfl) (Eq.mp (by kernel_rfl) h) hR
end Go.Proofs.YtcnpekohkbjnnaaGreatDoor

/- strings.SplitSeq at a slash, a range over it, ContainsFunc, snap.Clean. Conditions: as named. -/
set_option linter.unusedVariables false
namespace Go.Proofs.YtcnpekohkbjnnaaGreatDoor
open Go Vc Go.Proofs Go.RowKit Go.Shelf
attribute [local go_sem] Oper.semAt_some

/-- The parts of a text, cut at each slash. -/
def partsF : Nat → ByteArray → List ByteArray
  | 0, s => [s]
  | f + 1, s => if Lib.indexByte s.data.toList 47 = -1 then [s] else s.extract 0 (Lib.indexByte s.data.toList 47).toNat :: partsF f (s.extract ((Lib.indexByte s.data.toList 47).toNat + 1) s.size)
theorem index47 (s : ByteArray) (w : World) : Calls Tryz.prog F_strings_Index #[.string s, .string ⟨#[47]⟩] w fun e w' => e = .returned (.int .i64 (Lib.indexByte s.data.toList 47)) ∧ w' = w := by
  refine vc_strings_Index_ok (R := fun v w' => v = .int .i64 (Lib.indexByte s.data.toList 47) ∧ w' = w) ?_ (fun v w' h => ⟨by rw [h.1], h.2⟩)
  refine (index1_spec s 47 (by decide) w).mono ?_
  rintro e w2 ⟨rfl, rfl⟩
  exact ⟨_, rfl, rfl, rfl⟩
theorem partsF_no {s : ByteArray} (h : Lib.indexByte s.data.toList 47 = -1) (g : Nat) : partsF g s = [s] := by
  cases g with
  | zero => rfl
  | succ g => rw [partsF, if_pos h]
theorem partsF_yes {s : ByteArray} {i : Nat} (h : Lib.indexByte s.data.toList 47 = (i : Int)) (g : Nat) : partsF (g + 1) s = s.extract 0 i :: partsF g (s.extract (i + 1) s.size) := by
  rw [partsF, h, if_neg (by omega), Int.toNat_natCast]
set_option maxRecDepth 100000 in
set_option maxHeartbeats 2000000 in
theorem splitSeq_rounds (n : Nat) (hn : 1 ≤ n) (l b0 b1 b2 n₀ : Nat) (h0n : b0 < n₀) (h1n : b1 < n₀) (h2n : b2 < n₀) (h01 : b0 ≠ b1) (h12 : b2 ≠ b1) (s0 : ByteArray) (hs : s0.size ≤ 140737488355328) (f : Nat) (hf : s0.size ≤ f)
    (J Jx : List ByteArray → World → Prop) (hJ : ∀ pre W1 W2, J pre W1 → Fr (· = b1) W1 W2 → J pre W2)
    (hY : ∀ pre x W1, J pre W1 → (∃ r, pre ++ x :: r = partsF f s0) → YieldAt Fence.wide (n - 1) Tryz.prog l #[.string x] W1 fun e W' =>
      (e = .returned (.bool true) ∧ J (pre ++ [x]) W' ∧ Below n₀ W1 W') ∨ (e = .returned (.bool false) ∧ Jx (pre ++ [x]) W'))
    (W : World) (hc0 : W.cell? ⟨b0, 0, none⟩ = some (.string ⟨#[47]⟩)) (hc1 : W.cell? ⟨b1, 0, none⟩ = some (.string s0)) (hc2 : W.cell? ⟨b2, 0, none⟩ = some (.int .i64 0)) (hfz : W.frozen? ⟨b1, 0, none⟩ = false) (hJ0 : J [] W) :
    CallsIn Fence.wide n Tryz.prog 114 #[.func (.yield l) #[] #[], .pointer (some ⟨b0, 0, none⟩), .pointer (some ⟨b1, 0, none⟩), .pointer (some ⟨b2, 0, none⟩)] W fun e W' => (∃ v, e = .returned v) ∧ (J (partsF f s0) W' ∨ ∃ pre, Jx pre W') := by
  refine callsIn_of_wp Tryz.func114 rfl trivial ?_ rfl
  simp only [Tryz.ntmps114, List.size_toArray, List.length_cons, List.length_nil, Nat.reduceAdd, Nat.reduceSub, Array.replicate_succ, Array.replicate_zero, List.push_toArray, List.append_toArray, List.nil_append, List.cons_append]
  gi_wp2
  gi_loopw [] (fun wr => ∃ (pre : List ByteArray) (s : ByteArray) (g : Nat), wr.cell? ⟨b1, 0, none⟩ = some (.string s) ∧ s.size ≤ g ∧ s.size ≤ 140737488355328 ∧ pre ++ partsF g s = partsF f s0 ∧ J pre wr ∧ wr.cell? ⟨b0, 0, none⟩ = some (.string ⟨#[47]⟩) ∧ wr.cell? ⟨b2, 0, none⟩ = some (.int .i64 0) ∧ wr.frozen? ⟨b1, 0, none⟩ = false)
    (fun wr => match wr.cell? ⟨b1, 0, none⟩ with | some (.string s) => s.size | _ => 0)
  case atStart => exact ⟨[], s0, f, hc1, hf, hs, rfl, hJ0, hc0, hc2, hfz⟩
  case round =>
    obtain ⟨pre, s, g, k1, k2, k3, k4, k5, k6, k7, k8⟩ := hrel
    rcases fnd_cases s 47 with ⟨hi, hno⟩ | ⟨i, hi, hlt, hb, hno⟩
    · rw [partsF_no hi] at k4
      obtain ⟨fn, tmps, assign, body, hy, hR⟩ := hY pre s wr k5 ⟨[], k4⟩
      gi_wp2_with (refine ⟨trivial, ?_⟩; gi_at_call 48; refine (callsIn_wide.2 (index47 s _)).mono ?_; rw [hi]; rintro e w' ⟨rfl, rfl⟩)
      refine hR.mono ?_
      rintro e W3 (⟨rfl, hJ3, hk3⟩ | ⟨rfl, hJx3⟩)
      · gi_wp2
        go_end0
        exact ⟨⟨_, rfl⟩, .inl (by rw [← k4]; exact hJ3)⟩
      · gi_wp2
        go_end0
        exact ⟨⟨_, rfl⟩, .inr ⟨_, hJx3⟩⟩
    · obtain ⟨g, rfl⟩ : ∃ g', g = g' + 1 := ⟨g - 1, by omega⟩
      rw [partsF_yes hi] at k4
      obtain ⟨fn, tmps, assign, body, hy, hR⟩ := hY pre (s.extract 0 i) wr k5 ⟨_, k4⟩
      have e1 : IntKind.i64.wrap ((i : Int) + 0) = (i : Int) := by rw [wrap_i64 (by omega) (by omega)]; omega
      have e2 : IntKind.i64.wrap ((i : Int) + 1) = ((i + 1 : Nat) : Int) := by rw [wrap_i64 (by omega) (by omega)]; omega
      gi_wp2_with (refine ⟨trivial, ?_⟩; gi_at_call 48; refine (callsIn_wide.2 (index47 s _)).mono ?_; rw [hi]; rintro e w' ⟨rfl, rfl⟩)
      refine hR.mono ?_
      rintro e W3 (⟨rfl, hJ3, hk3⟩ | ⟨rfl, hJx3⟩)
      · have m0 : W3.cell? ⟨b0, 0, none⟩ = some (.string ⟨#[47]⟩) := (hk3.cell (p := ⟨b0, 0, none⟩) h0n).trans k6
        have m1 : W3.cell? ⟨b1, 0, none⟩ = some (.string s) := (hk3.cell (p := ⟨b1, 0, none⟩) h1n).trans k1
        have m2 : W3.cell? ⟨b2, 0, none⟩ = some (.int .i64 0) := (hk3.cell (p := ⟨b2, 0, none⟩) h2n).trans k7
        have m3 : W3.frozen? ⟨b1, 0, none⟩ = false := (hk3.frozen (p := ⟨b1, 0, none⟩) h1n).trans k8
        gi_wp2
        have hfr : Fr (· = b1) W3 (W3.setCell ⟨b1, 0, none⟩ (.string (s.extract (i + 1) s.size))) := .set _ _ _ rfl
        have c1 : (W3.setCell ⟨b1, 0, none⟩ (.string (s.extract (i + 1) s.size))).cell? ⟨b1, 0, none⟩ = some (.string (s.extract (i + 1) s.size)) := World.cell?_setCell_same' _ _ _ (by rw [m1]; rfl)
        have hsz : (s.extract (i + 1) s.size).size = s.size - (i + 1) := by simp
        refine ⟨⟨pre ++ [s.extract 0 i], s.extract (i + 1) s.size, g, c1, by omega, by omega, by rw [List.append_assoc]; exact k4, hJ _ _ _ hJ3 hfr, hfr.cell m0 h01, hfr.cell m2 h12, by rw [World.frozen?_setCell]; exact m3⟩, ?_⟩
        rw [c1, k1]
        simp only
        omega
      · gi_wp2
        refine bodyPost_ret (results_none rfl _ _ _) rfl ?_
        exact ⟨⟨_, rfl⟩, .inr ⟨_, hJx3⟩⟩
end Go.Proofs.YtcnpekohkbjnnaaGreatDoor
namespace Go.Proofs.YtcnpekohkbjnnaaGreatDoor
open Go Vc Go.Proofs Go.RowKit Go.Shelf

/-- How a round's body ends. -/
def RoundEnd (I Ix : List ByteArray → World → Prop) (B : Nat) (xs : List ByteArray) (W : World) : Exit → Act → World → Prop
  | .normal, _, W' => Fr (fun _ => False) W W' ∧ I xs W'
  | .ret, _, W' => Fr (fun k => k < B) W W' ∧ Ix xs W'
  | _, _, _ => False
theorem range_split {g : Operand} {p : Tmp} {assign body : Code} {Q : Exit → Act → World → Prop} {a : Act} {w : World} {B b0 b1 b2 : Nat} (hB0 : B ≤ b0) (hB1 : B ≤ b1) (hB2 : B ≤ b2) (h01 : b0 ≠ b1) (h12 : b2 ≠ b1)
    (hg : a.eval g = .func (.func 114) #[] #[.pointer (some ⟨b0, 0, none⟩), .pointer (some ⟨b1, 0, none⟩), .pointer (some ⟨b2, 0, none⟩)])
    (s0 : ByteArray) (hs : s0.size ≤ 140737488355328) (hc0 : w.cell? ⟨b0, 0, none⟩ = some (.string ⟨#[47]⟩)) (hc1 : w.cell? ⟨b1, 0, none⟩ = some (.string s0)) (hc2 : w.cell? ⟨b2, 0, none⟩ = some (.int .i64 0)) (hfz : w.frozen? ⟨b1, 0, none⟩ = false)
    (I Ix : List ByteArray → World → Prop) (hI : ∀ pre W W', I pre W → Fr (fun k => B ≤ k) W W' → I pre W') (hIx : ∀ pre W W', Ix pre W → Fr (fun k => B ≤ k) W W' → Ix pre W') (h0 : I [] w) (a₁ : ByteArray → Act)
    (hassign : ∀ (l : Nat) (x : ByteArray) (W : World) (K : Act → World → Prop), K (a₁ x) W →
      assign.wpIn (Fence.wide.inRound l) 1 Tryz.prog (Exit.then K (fun _ _ _ => False)) { tmps := ((#[p] : Array Tmp).zip #[Value.string x]).foldl (fun t (p, v) => t.setIfInBounds p v) a.tmps, defers := [] } W)
    (hbody : ∀ (l : Nat) (pre : List ByteArray) (x : ByteArray) (W : World), I pre W → (∃ r, pre ++ x :: r = partsF s0.size s0) → body.wpIn (Fence.wide.inRound l) 1 Tryz.prog (RoundEnd I Ix B (pre ++ [x]) W) (a₁ x) W)
    (hdone : ∀ (D : Nat) (W : World), w.heap.size ≤ D → I (partsF s0.size s0) W → W.heap[D]? = some (.deferred (some [])) → Q .normal { a with defers := { target := .collected D, args := #[] } :: a.defers } W)
    (hstop : ∀ (D : Nat) (pre : List ByteArray) (W : World), w.heap.size ≤ D → Ix pre W → W.heap[D]? = some (.deferred (some [])) → Q .ret { a with defers := { target := .collected D, args := #[] } :: a.defers } W) :
    (Code.rangeFunc g #[p] assign body).wpIn Fence.wide 3 Tryz.prog Q a w := by
  have hl0 := World.block_lt_of_cell? w _ hc0
  have hl1 := World.block_lt_of_cell? w _ hc1
  have hl2 := World.block_lt_of_cell? w _ hc2
  simp only at hl0 hl1 hl2
  have put : ∀ {W : World} {k : Nat} {o : Obj}, Fr (· = k) W (W.putObj k o) := fun {W k o} => (Fr.grown (grownBy_putObj' W k o)).mono fun q _ h => by cases h; rfl
  have hup : ∀ {q : Nat}, q = w.heap.size + 1 → B ≤ q := fun h => by omega
  have hge : ∀ {q : Nat}, q = w.heap.size + 1 → w.heap.size ≤ q := fun h => by omega
  refine wpIn_rangeFunc ?_
  intro fn hfn
  obtain ⟨rec, hrec⟩ : ∃ rec : LoopState → Option Code → Loop, rec = fun st pe => { state := st, pending := pe, fn, tmps := a.tmps, params := #[p], assign, body, defers := w.heap.size } := ⟨_, rfl⟩
  obtain ⟨W1, hW1⟩ : ∃ W1, (w.alloc (.deferred (some []))).alloc (.loop (rec .ready none)) = W1 := ⟨_, rfl⟩
  have hL1 : W1.heap[w.heap.size + 1]? = some (.loop (rec .ready none)) := by
    rw [← hW1]; have := World.alloc_heap_new (w.alloc (.deferred (some []))) (.loop (rec .ready none)); rwa [World.size_alloc] at this
  have hK1 : W1.heap[w.heap.size]? = some (.deferred (some [])) := by
    rw [← hW1]; exact (Below.heap_alloc _ _ _ (by simp)).trans (World.alloc_heap_new w _)
  have hf1 : Fr (fun _ => False) w W1 := by rw [← hW1]; exact (Fr.alloc _ _ _).trans' (.alloc _ _ _)
  refine ⟨w.heap.size + 1, [{ target := .collected w.heap.size, args := #[] }], W1, { target := .fn (.func 114) #[.pointer (some ⟨b0, 0, none⟩), .pointer (some ⟨b1, 0, none⟩), .pointer (some ⟨b2, 0, none⟩)], args := #[.func (.yield (w.heap.size + 1)) #[] #[]] }, W1, 114,
    #[.func (.yield (w.heap.size + 1)) #[] #[], .pointer (some ⟨b0, 0, none⟩), .pointer (some ⟨b1, 0, none⟩), .pointer (some ⟨b2, 0, none⟩)], W1, ?_, ?_, ?_, ?_, fun h => (by cases h), ?_⟩
  · rw [← hW1, hrec]; exact run_enterLoop_outer _ _ _ _ _
  · simp only [resolve, hg]
    simp [go_sem]
  · exact fun f' _ => trivial
  · have eg := enters_of (P := Tryz.prog) Tryz.func114 (by kernel_rfl) rfl
    first | (simp [invoke, go_sem]; done) | simp [invoke, go_sem, eg]
  · -- the rounds
    have hidx : ∀ {W W' : World} {X : Nat → Prop}, Fr X W W' → (∀ k, X k → k = b1) → (W.heap[w.heap.size + 1]? = some (.loop (rec .ready none)) ∧ W.heap[w.heap.size]? = some (.deferred (some []))) →
        (W'.heap[w.heap.size + 1]? = some (.loop (rec .ready none)) ∧ W'.heap[w.heap.size]? = some (.deferred (some []))) := fun hf hx h => ⟨hf.keep h.1 fun e => by have := hx _ e; omega, hf.keep h.2 fun e => by have := hx _ e; omega⟩
    refine (splitSeq_rounds 2 (by decide) (w.heap.size + 1) b0 b1 b2 w.heap.size hl0 hl1 hl2 h01 h12 s0 hs s0.size (Nat.le_refl _)
      (fun pre W => I pre W ∧ W.heap[w.heap.size + 1]? = some (.loop (rec .ready none)) ∧ W.heap[w.heap.size]? = some (.deferred (some [])))
      (fun pre W => Ix pre W ∧ W.heap[w.heap.size + 1]? = some (.loop (rec .done (some .ret))) ∧ W.heap[w.heap.size]? = some (.deferred (some [])))
      (fun pre W W' h hf => ⟨hI _ _ _ h.1 (hf.mono fun k _ e => by rw [e]; exact hB1), hidx hf (fun k e => e) h.2⟩)
      ?_ W1 (hf1.cell hc0 (by simp)) (hf1.cell hc1 (by simp)) (hf1.cell hc2 (by simp)) ?_ ⟨hI _ _ _ h0 (hf1.mono fun _ _ h => h.elim), hL1, hK1⟩).mono ?_
    · -- one round
      rintro pre x W ⟨hi, hl, hk⟩ hr
      have hlt : w.heap.size + 1 < W.heap.size := (Array.getElem?_eq_some_iff.1 hl).1
      have hy := run_yield (P := Tryz.prog) (args := #[.string x]) hl (by rw [hrec]; rfl)
      rw [hrec] at hy
      refine ⟨fn, _, assign, body, hy, roundIn_of_wpIn hfn ?_⟩
      refine hassign _ x W _ ⟨_, run_beginRound hl (by rw [hrec]), ?_⟩
      obtain ⟨W2, hW2⟩ : ∃ W2, W.putObj (w.heap.size + 1) (.loop { rec .ready none with state := .busy }) = W2 := ⟨_, rfl⟩
      rw [hW2]
      have hp2 : Fr (· = w.heap.size + 1) W W2 := by rw [← hW2]; exact put
      have hl2 : W2.heap[w.heap.size + 1]? = some (.loop { rec .ready none with state := .busy }) := by rw [← hW2]; exact World.putObj_heap_same hlt
      have hk2 : W2.heap[w.heap.size]? = some (.deferred (some [])) := hp2.keep hk (by omega)
      refine wpIn_mono (hbody _ pre x W2 (hI _ _ _ hi (hp2.mono fun k _ h => hup h)) hr) ?_
      have fin : ∀ (jump : Option Code) (W3 : World), W3.heap[w.heap.size + 1]? = some (.loop { rec .ready none with state := .busy }) → W3.heap[w.heap.size]? = some (.deferred (some [])) →
          (Instr.endRound (w.heap.size + 1) jump).run Tryz.prog W3 = .ok (.bool jump.isNone) (W3.putObj (w.heap.size + 1) (.loop (rec (if jump.isNone then .ready else .done) jump))) ∧
          (W3.putObj (w.heap.size + 1) (.loop (rec (if jump.isNone then .ready else .done) jump))).heap[w.heap.size + 1]? = some (.loop (rec (if jump.isNone then .ready else .done) jump)) ∧
          (W3.putObj (w.heap.size + 1) (.loop (rec (if jump.isNone then .ready else .done) jump))).heap[w.heap.size]? = some (.deferred (some [])) := fun jump W3 hl3 hk3 => by
        have := run_endRound (P := Tryz.prog) jump hl3
        refine ⟨?_, World.putObj_heap_same (Array.getElem?_eq_some_iff.1 hl3).1, (World.putObj_heap_other (by omega)).trans hk3⟩
        rw [hrec] at this ⊢
        exact this
      rintro e a3 W3 hp
      cases e with
      | normal =>
        obtain ⟨hf3, hi3⟩ := hp
        obtain ⟨hr3, hl4, hk4⟩ := fin none W3 (hf3.keep hl2 (by simp)) (hf3.keep hk2 (by simp))
        refine ⟨_, _, hr3, .inl ⟨rfl, ⟨hI _ _ _ hi3 (put.mono fun k _ h => hup h), hl4, hk4⟩, ?_⟩⟩
        exact Fr.below (((hp2.trans hf3 fun q _ h => h.elim).trans' put).mono fun k _ h => hge h) (by omega)
      | ret =>
        obtain ⟨hf3, hi3⟩ := hp
        obtain ⟨hr3, hl4, hk4⟩ := fin (some .ret) W3 (hf3.keep hl2 (fun h => Nat.not_lt.2 (Nat.le_of_lt (Nat.lt_of_le_of_lt hB0 (Nat.lt_succ_of_lt hl0))) h)) (hf3.keep hk2 (fun h => Nat.not_lt.2 (Nat.le_of_lt (Nat.lt_of_le_of_lt hB0 hl0)) h))
        exact ⟨_, _, hr3, .inr ⟨rfl, hIx _ _ _ hi3 (put.mono fun k _ h => hup h), hl4, hk4⟩⟩
      | exit id => exact hp.elim
      | goto t => exact hp.elim
      | panic ch => exact hp.elim
      | outgrown => exact hp.elim
    · rw [← hW1]
      exact (World.frozen?_of_block (by rw [hW1]; exact hf1.blk b1 hl1 (by simp))).trans hfz
    · -- behind the iterator
      rintro e W2 ⟨⟨v, rfl⟩, (⟨hi, hl, hk⟩ | ⟨pre, hi, hl, hk⟩)⟩
      · refine ⟨none, _, by have := run_endLoop (P := Tryz.prog) hl (by rw [hrec]; simp); rw [hrec] at this; exact this, hdone _ _ (Nat.le_refl _) (hI _ _ _ hi (put.mono fun k _ h => hup h)) ((World.putObj_heap_other (by omega)).trans hk)⟩
      · refine ⟨some .ret, _, by have := run_endLoop (P := Tryz.prog) hl (by rw [hrec]; simp); rw [hrec] at this; exact this, ?_⟩
        exact wpIn_ret (hstop w.heap.size pre _ (Nat.le_refl _) (hIx _ _ _ hi (put.mono fun k _ h => hup h)) ((World.putObj_heap_other (by omega)).trans hk))
end Go.Proofs.YtcnpekohkbjnnaaGreatDoor
namespace Go.Proofs.YtcnpekohkbjnnaaGreatDoor
open Go Vc Go.Proofs Go.RowKit Go.Shelf

/-- Every byte is a letter that is printed. -/
def printB (s : ByteArray) : Bool := decide (∀ k, k < s.size → 32 ≤ byt s k ∧ byt s k ≤ 126)
theorem clean1_spec (c : Int) (w : World) : Calls Tryz.prog F_snap_Clean_1 #[.int .i32 c] w fun e w' => e = .returned (.bool (decide (c < 32) || decide (c > 126))) ∧ w' = w := by
  refine vc_snap_Clean_1_ok (R := fun v w' => v = .bool (decide (c < 32) || decide (c > 126)) ∧ w' = w) ?_ (fun v w' h => ⟨by rw [h.1], h.2⟩)
  exact ⟨fun h => ⟨by rw [h]; rfl, rfl⟩, fun h => ⟨by rw [h]; rfl, rfl⟩⟩
theorem indexFunc_spec (s : ByteArray) (w : World) : Calls Tryz.prog F_strings_indexFunc #[.string s, .func (.func F_snap_Clean_1) #[] #[], .bool true] w fun e w' =>
    ∃ n : Int, e = .returned (.int .i64 n) ∧ decide (n ≥ 0) = !printB s ∧ Fr (fun _ => False) w w' := by
  refine vc_strings_indexFunc_clean_ok (R := fun v w' => ∃ n : Int, v = .int .i64 n ∧ decide (n ≥ 0) = !printB s ∧ Fr (fun _ => False) w w') ?_ (fun v w' ⟨n, h⟩ => ⟨n, by rw [h.1], h.2⟩)
  obtain ⟨w7, hr7, hi7, hf7⟩ := iter_new (P := Tryz.prog) (w := w) (t := 9) (s := s) (by kernel_rfl)
  refine ⟨w7, _, hr7, fun w' => ∃ p, IsIter w' w.heap.size s p ∧ p ≤ s.size ∧ Fr (fun _ => False) w w' ∧ ∀ k, k < p → 32 ≤ byt s k ∧ byt s k ≤ 126, itLeft w.heap.size, ⟨0, hi7, Nat.zero_le _, hf7, fun k hk => by omega⟩, ?_⟩
  rintro w11 ⟨p, hi, hp, hf, hn⟩
  by_cases hps : p < s.size
  · refine .inr ?_
    obtain ⟨w13, hr13, hi13, hf13⟩ := iter_next (P := Tryz.prog) hi hps 0
    have hfn : Fr (fun _ => False) w w13 := hf.trans hf13 fun k hk e => by omega
    refine ⟨w13, _, _, hr13, fun _ => (clean1_spec _ w13).mono ?_, fun h => (by cases h)⟩
    rintro e w15 ⟨rfl, hw⟩
    replace hw := hw.symm
    subst hw
    have bad : ∀ {k : Nat}, k < s.size → ¬ (32 ≤ byt s k ∧ byt s k ≤ 126) → printB s = false := fun hk h => by
      unfold printB
      exact decide_eq_false fun hall => h (hall _ hk)
    refine ⟨_, rfl, fun h => ⟨p, rfl, ?_, hfn⟩, fun h => ?_⟩
    · have hb : printB s = false := by
        refine bad hps fun hh => ?_
        rw [dec_low hps (by omega)] at h
        simp only [beq_iff_eq, Bool.or_eq_true, decide_eq_true_eq] at h
        omega
      rw [hb]
      exact decide_eq_true (by omega)
    · by_cases hb : byt s p < 128
      · rw [dec_low hps hb] at h hi13
        simp only [beq_eq_false_iff_ne, ne_eq, Bool.not_eq_true, Bool.or_eq_false_iff, decide_eq_false_iff_not] at h
        refine ⟨⟨p + 1, hi13, by omega, hfn, fun k hk => ?_⟩, by rw [hi13.left, hi.left]; omega⟩
        by_cases hkp : k = p
        · subst hkp; omega
        · exact hn k (by omega)
      · obtain ⟨d1, d2, d3, d4, d5⟩ := dec_high hps (by omega)
        exfalso
        have : decide (((Utf8.decode s p).1 : Int) > 126) = true := decide_eq_true (by omega)
        rw [this] at h
        simp at h
  · refine .inl ⟨w11, iter_end hi (by omega) 0, fun h => (by cases h), fun _ => ⟨-1, rfl, ?_, hf⟩⟩
    have : printB s = true := decide_eq_true fun k hk => hn k (by omega)
    rw [this]; rfl
theorem containsFunc_spec (s : ByteArray) (w : World) : Calls Tryz.prog F_strings_ContainsFunc #[.string s, .func (.func F_snap_Clean_1) #[] #[]] w fun e w' =>
    e = .returned (.bool (!printB s)) ∧ Fr (fun _ => False) w w' := by
  refine vc_strings_ContainsFunc_clean_ok (R := fun v w' => v = .bool (!printB s) ∧ Fr (fun _ => False) w w') ?_ (fun v w' h => ⟨by rw [h.1], h.2⟩)
  refine Calls.mono (R := fun e w' => ∃ n : Int, e = .returned (.int .i64 n) ∧ decide (n ≥ 0) = !printB s ∧ Fr (fun _ => False) w w') (vc_strings_IndexFunc_clean_ok (R := fun v w' => ∃ n : Int, v = .int .i64 n ∧ decide (n ≥ 0) = !printB s ∧ Fr (fun _ => False) w w') ?_ (fun v w' ⟨n, h⟩ => ⟨n, by rw [h.1], h.2⟩)) ?_
  · refine (indexFunc_spec s w).mono ?_
    rintro e w2 ⟨n, rfl, h⟩
    exact ⟨n, rfl, n, rfl, h⟩
  · rintro e w2 ⟨n, rfl, h, hf⟩
    exact ⟨n, rfl, by rw [h], hf⟩
/-- What SplitSeq hands back, and what it lays. -/
theorem splitSeq_spec (s : ByteArray) (w : World) : Calls Tryz.prog 41 #[.string s, .string ⟨#[47]⟩] w fun e w' =>
    e = .returned (.func (.func 114) #[] #[.pointer (some ⟨w.heap.size + 1, 0, none⟩), .pointer (some ⟨w.heap.size, 0, none⟩), .pointer (some ⟨w.heap.size + 2, 0, none⟩)]) ∧
    w' = ((w.alloc (.cells #[.string s] 9)).alloc (.cells #[.string ⟨#[47]⟩] 9)).alloc (.cells #[.int .i64 0] 3) := by
  have inner : Calls Tryz.prog 82 #[.string s, .string ⟨#[47]⟩, .int .i64 0] w fun e w' =>
    e = .returned (.func (.func 114) #[] #[.pointer (some ⟨w.heap.size + 1, 0, none⟩), .pointer (some ⟨w.heap.size, 0, none⟩), .pointer (some ⟨w.heap.size + 2, 0, none⟩)]) ∧
    w' = ((w.alloc (.cells #[.string s] 9)).alloc (.cells #[.string ⟨#[47]⟩] 9)).alloc (.cells #[.int .i64 0] 3) := by
    go_enter Tryz.func82, Tryz.ntmps82
    go_wp2
    go_ret
    exact ⟨by simp, rfl⟩
  go_enter Tryz.func41, Tryz.ntmps41
  go_wp2_with (refine inner.mono ?_; rintro e w' ⟨rfl, rfl⟩)
  go_ret
  exact ⟨rfl, rfl⟩
end Go.Proofs.YtcnpekohkbjnnaaGreatDoor
namespace Go.Proofs.YtcnpekohkbjnnaaGreatDoor
open Go Vc Go.Proofs Go.RowKit Go.Shelf
attribute [local go_sem] Oper.semAt_some

theorem toList_nil : (⟨#[]⟩ : ByteArray).toList = [] := by rw [ByteArray.toList_eq]
theorem toList_dot : (⟨#[46]⟩ : ByteArray).toList = [46] := by rw [ByteArray.toList_eq]
theorem toList_dots : (⟨#[46, 46]⟩ : ByteArray).toList = [46, 46] := by rw [ByteArray.toList_eq]
def partOK (p : ByteArray) : Bool := decide (p ≠ ⟨#[]⟩) && decide (p ≠ ⟨#[46]⟩) && decide (p ≠ ⟨#[46, 46]⟩)
def cleanB (s : ByteArray) : Bool := decide (s.size ≤ 200) && (partsF s.size s).all partOK && printB s
set_option maxRecDepth 100000 in
set_option maxHeartbeats 2000000 in
theorem clean_spec (s : ByteArray) (hs : s.size ≤ 140737488355328) (w : World) : Calls Tryz.prog 21 #[.string s] w fun e w' => e = .returned (.bool (cleanB s)) ∧ Fr (fun _ => False) w w' := by
  refine (callsIn_wide (n := 3)).1 ?_
  refine callsIn_of_wp_marks Tryz.func21 rfl trivial ?_ rfl
  simp only [Tryz.ntmps21, List.size_toArray, List.length_cons, List.length_nil, Nat.reduceAdd, Nat.reduceSub, Array.replicate_succ, Array.replicate_zero, List.push_toArray, List.append_toArray, List.nil_append, List.cons_append]
  have hcell0 : (w.alloc (.cells #[.bool false] 4)).cell? ⟨w.heap.size, 0, none⟩ = some (.bool false) := by rw [cell_blk (alloc_new w _)]; rfl
  by_cases hlen : s.size > 200
  · gi_wp2
    refine ⟨.bool false, ?_, ?_, .alloc _ _ _⟩
    · simp [results, Tryz.f21, go_sem, hcell0]
    · unfold cleanB
      rw [decide_eq_false (by omega)]; rfl
  · gi_wp2_with (refine ⟨trivial, ?_⟩; gi_at_call 41; refine (callsIn_wide.2 (splitSeq_spec s _)).mono ?_; rintro e w' ⟨rfl, rfl⟩)
    obtain ⟨w0, hw0⟩ : ∃ w0, w.alloc (.cells #[.bool false] 4) = w0 := ⟨_, rfl⟩
    have hsz : w0.heap.size = w.heap.size + 1 := by rw [← hw0]; simp
    have hb0 : w0.heap[w.heap.size]? = some (.cells #[.bool false] 4 (0, 0)) := by rw [← hw0]; exact alloc_new _ _
    have hf0 : Fr (fun _ => False) w w0 := by rw [← hw0]; exact .alloc _ _ _
    rw [hw0]
    obtain ⟨w1, hw1⟩ : ∃ w1, ((w0.alloc (.cells #[.string s] 9)).alloc (.cells #[.string ⟨#[47]⟩] 9)).alloc (.cells #[.int .i64 0] 3) = w1 := ⟨_, rfl⟩
    have hf1 : Fr (fun _ => False) w0 w1 := by rw [← hw1]; exact ((Fr.alloc _ _ _).trans' (.alloc _ _ _)).trans' (.alloc _ _ _)
    have n1 : (w0.alloc (.cells #[.string s] 9)).heap.size = w.heap.size + 1 + 1 := by simp [hsz]
    have n2 : ((w0.alloc (.cells #[.string s] 9)).alloc (.cells #[.string ⟨#[47]⟩] 9)).heap.size = w.heap.size + 1 + 2 := by simp [hsz]
    have hbs : w1.heap[w.heap.size + 1]? = some (.cells #[.string s] 9 (0, 0)) := by
      rw [← hw1, ← hsz]
      exact (Fr.alloc (fun _ => False) _ _).keep ((Fr.alloc (fun _ => False) _ _).keep (alloc_new w0 _) (by simp)) (by simp)
    have hbp : w1.heap[w.heap.size + 1 + 1]? = some (.cells #[.string ⟨#[47]⟩] 9 (0, 0)) := by
      rw [← hw1, ← n1]
      exact (Fr.alloc (fun _ => False) _ _).keep (alloc_new _ _) (by simp)
    have hbz : w1.heap[w.heap.size + 1 + 2]? = some (.cells #[.int .i64 0] 3 (0, 0)) := by
      rw [← hw1, ← n2]
      exact alloc_new _ _
    rw [hw1]
    clear hw1 n1 n2 hw0
    refine range_split (B := w.heap.size + 1) (b0 := w.heap.size + 1 + 1) (b1 := w.heap.size + 1) (b2 := w.heap.size + 1 + 2) (by omega) (by omega) (by omega) (by omega) (by omega) rfl s hs
      (by rw [cell_blk hbp]; rfl) (by rw [cell_blk hbs]; rfl) (by rw [cell_blk hbz]; rfl) (frozen_blk hbs 0)
      (fun pre W => (∀ p ∈ pre, partOK p = true) ∧ W.heap[w.heap.size]? = some (.cells #[.bool false] 4 (0, 0)) ∧ Fr (fun _ => False) w W)
      (fun pre W => (∃ p ∈ partsF s.size s, partOK p = false) ∧ W.cell? ⟨w.heap.size, 0, none⟩ = some (.bool false) ∧ Fr (fun _ => False) w W)
      (fun pre W W' ⟨h1, h2, h3⟩ hf => ⟨h1, hf.keep h2 (by omega), h3.trans hf fun q hq h => by omega⟩)
      (fun pre W W' ⟨h1, h2, h3⟩ hf => ⟨h1, hf.cell h2 (by simp only; omega), h3.trans hf fun q hq h => by omega⟩)
      ⟨by simp, hf1.keep hb0 (by simp), hf0.trans' hf1⟩
      (fun x => { tmps := #[.string s, undef, .pointer (some ⟨w.heap.size, 0, none⟩), .string x, .string s, .int .i64 s.size, .bool (decide (200 < (s.size : Int))), .string s, .func (.func 114) #[] #[.pointer (some ⟨w.heap.size + 1 + 1, 0, none⟩), .pointer (some ⟨w.heap.size + 1, 0, none⟩), .pointer (some ⟨w.heap.size + 1 + 2, 0, none⟩)], .string x, undef, undef, undef, undef, undef, undef, undef, undef, undef, undef, undef, undef, undef], defers := [] }) ?assign ?body ?done ?stop
    case assign =>
      intro l x W K hK
      gi_wp2
      exact hK
    case body =>
      rintro l pre x W ⟨hp, hcell, hf⟩ hr
      have hcc : W.cell? ⟨w.heap.size, 0, none⟩ = some (.bool false) := by rw [cell_blk hcell]; rfl
      have hcz : W.frozen? ⟨w.heap.size, 0, none⟩ = false := frozen_blk hcell 0
      have k1 : x.toList.isEmpty = decide (x = ⟨#[]⟩) := by
        rw [← bs_eq, toList_nil]
        cases x.toList <;> rfl
      have k2 : (x.toList == [46]) = decide (x = ⟨#[46]⟩) := by rw [← bs_eq, toList_dot]
      have k3 : (x.toList == [46, 46]) = decide (x = ⟨#[46, 46]⟩) := by rw [← bs_eq, toList_dots]
      have ret : partOK x = false → Fr (fun k => k < w.heap.size + 1) W (W.setCell ⟨w.heap.size, 0, none⟩ (.bool false)) ∧ (∃ p ∈ partsF s.size s, partOK p = false) ∧ (W.setCell ⟨w.heap.size, 0, none⟩ (.bool false)).cell? ⟨w.heap.size, 0, none⟩ = some (.bool false) ∧ Fr (fun _ => False) w (W.setCell ⟨w.heap.size, 0, none⟩ (.bool false)) := fun hx =>
        ⟨Fr.set _ _ _ (Nat.lt_succ_self _), ⟨x, by obtain ⟨r, hr⟩ := hr; rw [← hr]; simp, hx⟩, World.cell?_setCell_same' _ _ _ (by rw [hcc]; rfl), hf.trans (Fr.set (· = w.heap.size) _ _ rfl) fun q hq e => by omega⟩
      gi_wp2
      · rename_i hx
        exact ret (by unfold partOK; rw [hx]; rfl)
      · rename_i hx
        exact ret (by unfold partOK; rw [hx]; rfl)
      · rename_i hx
        exact ret (by unfold partOK; rw [hx]; rfl)
      · have h1 : ¬ x = ⟨#[]⟩ := by assumption
        have h2 : ¬ x = ⟨#[46]⟩ := by assumption
        have h3 : ¬ x = ⟨#[46, 46]⟩ := by assumption
        refine ⟨.refl _ _, fun p hpm => ?_, hcell, hf⟩
        rcases List.mem_append.1 hpm with hpm | hpm
        · exact hp p hpm
        · simp only [List.mem_cons, List.mem_nil_iff, or_false] at hpm
          subst hpm
          unfold partOK
          simp [h1, h2, h3]
    case done =>
      rintro D W hD ⟨hall, hcell, hf⟩ hK
      have hcc : W.cell? ⟨w.heap.size, 0, none⟩ = some (.bool false) := by rw [cell_blk hcell]; rfl
      have hcz : W.frozen? ⟨w.heap.size, 0, none⟩ = false := frozen_blk hcell 0
      gi_wp2_with (refine ⟨trivial, ?_⟩; gi_at_call 42; refine (callsIn_wide.2 (containsFunc_spec s _)).mono ?_; rintro e w' ⟨rfl, hf'⟩; have hcc' := hf'.cell hcc (by simp); have hcz' := frozen_blk (hf'.keep hcell (by simp)) 0)
      have hne : D ≠ w.heap.size := by have := hf1.size; omega
      have hst : Fr (· = w.heap.size) w' (w'.setCell ⟨w.heap.size, 0, none⟩ (.bool (printB s))) := .set _ _ _ rfl
      have hK' := hst.keep (hf'.keep hK (by simp)) hne
      refine ⟨by simp, .inl ⟨_, _, rfl, run_takeDeferred hK', ?_⟩⟩
      have hpt : Fr (· = D) (w'.setCell ⟨w.heap.size, 0, none⟩ (.bool (printB s))) ((w'.setCell ⟨w.heap.size, 0, none⟩ (.bool (printB s))).putObj D (.deferred none)) := (Fr.grown (grownBy_putObj' _ D _)).mono fun q _ h => by cases h; rfl
      have hc5 := hpt.cell (World.cell?_setCell_same' w' ⟨w.heap.size, 0, none⟩ (.bool (printB s)) (by rw [hcc']; rfl)) (fun h => hne h.symm)
      refine ⟨.bool (printB s), ?_, ?_, ?_⟩
      · simp [results, Tryz.f21, go_sem, hc5]
      · have : (partsF s.size s).all partOK = true := List.all_eq_true.2 hall
        unfold cleanB
        rw [this, decide_eq_true (by omega)]; rfl
      · have h1 := (hf.trans' hf').size
        have h2 := (hf0.trans' hf1).size
        exact ((hf.trans' hf').trans hst fun q hq e => by omega).trans hpt fun q hq e => by omega
    case stop =>
      rintro D pre W hD ⟨⟨p, hpm, hpb⟩, hcell, hf⟩ hK
      have hne : D ≠ w.heap.size := by have := hf1.size; omega
      gi_wp2
      refine ⟨by simp, .inl ⟨_, _, rfl, run_takeDeferred hK, ?_⟩⟩
      have hpt : Fr (· = D) W (W.putObj D (.deferred none)) := (Fr.grown (grownBy_putObj' _ D _)).mono fun q _ h => by cases h; rfl
      have hc5 := hpt.cell hcell (fun h => hne h.symm)
      refine ⟨.bool false, ?_, ?_, ?_⟩
      · simp [results, Tryz.f21, go_sem, hc5]
      · have : (partsF s.size s).all partOK = false := by
          rw [← Bool.not_eq_true, List.all_eq_true]
          intro h
          rw [h p hpm] at hpb; cases hpb
        unfold cleanB
        rw [this]; simp
      · have h2 := (hf0.trans' hf1).size
        exact hf.trans hpt fun q hq e => by omega
end Go.Proofs.YtcnpekohkbjnnaaGreatDoor

/- Formulas of 5 Go functions of this seat (written by a program of the author's, vcgen.py), and that each is enough for the call. No condition. -/
set_option linter.unusedVariables false
namespace Go.Proofs.YtcnpekohkbjnnaaGreatDoor
open Go Vc Go.Proofs
set_option maxRecDepth 100000
/-- strings.Compare -/
def vc_strings_Compare (x0 : ByteArray) (x1 : ByteArray) (w : World) (R : Value → World → Prop) : Prop :=
  Calls Tryz.prog (81 : Nat) (Array.mk [Value.string x0, Value.string x1]) (w) (fun e1 w2 =>
    ∃ n3 : Int, (e1 = Ending.returned (Value.int IntKind.i64 n3) ∧
     R (Value.int IntKind.i64 n3) w2))
theorem vc_strings_Compare_ok {x0 : ByteArray} {x1 : ByteArray} {w : World} {R : Value → World → Prop} {R' : Ending → World → Prop} (h : vc_strings_Compare x0 x1 w R) (hR : ∀ v w', R v w' → R' (.returned v) w') :
    Calls Tryz.prog 40 #[.string x0, .string x1] w R' :=
  calls_of_body (vs := [(.string x0, false), (.string x1, false)]) (ty := ty) (ann := ⟨[], [], [], []⟩) (c := Tryz.f40.body.getD .skip) (by kernel_rfl) Tryz.func40 (by kernel_rfl) (by kernel_rfl) (Eq.mp (by kernel_rfl) h) hR
/-- snap.byPath -/
def vc_snap_byPath (x0_0 : ByteArray) (x0_1 : ByteArray) (x1_0 : ByteArray) (x1_1 : ByteArray) (w : World) (R : Value → World → Prop) : Prop :=
  ∀ w1 : World,
  (w1 = World.alloc w (Obj.cells (Array.mk [Value.string x0_0, Value.string x0_1]) 25) →
    ∀ w2 : World,
    (w2 = World.alloc w1 (Obj.cells (Array.mk [Value.string x1_0, Value.string x1_1]) 25) →
      ∃ s3 : ByteArray, (World.cell? w2 (Addr.mk (Array.size (World.heap w)) 0 none) = some (Value.string s3) ∧
       ∃ s4 : ByteArray, (World.cell? w2 (Addr.mk (Array.size (World.heap w1)) 0 none) = some (Value.string s4) ∧
        Calls Tryz.prog (40 : Nat) (Array.mk [Value.string s3, Value.string s4]) (w2) (fun e5 w6 =>
          ∃ n7 : Int, (e5 = Ending.returned (Value.int IntKind.i64 n7) ∧
           R (Value.int IntKind.i64 n7) w6))))))
theorem vc_snap_byPath_ok {x0_0 : ByteArray} {x0_1 : ByteArray} {x1_0 : ByteArray} {x1_1 : ByteArray} {w : World} {R : Value → World → Prop} {R' : Ending → World → Prop} (h : vc_snap_byPath x0_0 x0_1 x1_0 x1_1 w R) (hR : ∀ v w', R v w' → R' (.returned v) w') :
    Calls Tryz.prog 20 #[.agg #[.string x0_0, .string x0_1], .agg #[.string x1_0, .string x1_1]] w R' :=
  calls_of_body (vs := [(.agg #[.string x0_0, .string x0_1], false), (.agg #[.string x1_0, .string x1_1], false)]) (ty := ty) (ann := ⟨[], [], [], []⟩) (c := Tryz.f20.body.getD .skip) (by kernel_rfl) Tryz.func20 (by kernel_rfl) (by kernel_rfl) (Eq.mp (by kernel_rfl) h) hR
/-- snap.New -/
def vc_snap_New (x0a : Option Addr) (x0n : Nat) (x0c : Nat) (w : World) (R : Value → World → Prop) : Prop :=
  Calls Tryz.prog (18 : Nat) (Array.mk [Value.slice x0a x0n x0c]) (w) (fun e1 w2 =>
    ∃ l3 : Sl, (e1 = Ending.returned (Value.slice l3.1 l3.2 l3.3) ∧
     ∀ w4 : World,
     (w4 = World.alloc w2 (Obj.cells (Array.mk [Value.slice l3.1 l3.2 l3.3, Value.int IntKind.i64 0]) 52) →
       ∃ I5 : Int → World → Prop, ∃ I6 : Int → World → Nat, (I5 0 w4 ∧
        ∀ n7 : Int,
        ∀ w8 : World,
        (I5 n7 w8 →
          (((decide (n7 < (↑x0n : Int)) = true →
             ((0 ≤ n7 ∧
               n7 < (↑x0n : Int)) ∧
              ∃ a9 : Addr, (x0a = some a9 ∧
               ∃ s10 : ByteArray, ∃ s11 : ByteArray, (Sem.run Tryz.prog (loadVar 25 (Addr.add a9 (Int.toNat n7 * 2))) w8 = Result.ok (Value.agg (Array.mk [Value.string s10, Value.string s11])) w8 ∧
                ∀ w12 : World,
                (w12 = World.alloc w8 (Obj.cells (Array.mk [Value.string (ByteArray.mk (Array.mk [])), Value.string (ByteArray.mk (Array.mk []))]) 25) →
                  ∃ w13 : World, (Sem.run Tryz.prog (storeVar 25 (Addr.mk (Array.size (World.heap w8)) 0 none) (Value.agg (Array.mk [Value.string s10, Value.string s11]))) w12 = Result.ok PUnit.unit w13 ∧
                   ∀ w14 : World,
                   (Drew w13 w14 →
                     ∃ n15 : Int, (World.cell? w14 (Addr.mk (Array.size (World.heap w2)) 1 none) = some (Value.int IntKind.i64 n15) ∧
                      ∃ s16 : ByteArray, (World.cell? w14 (Addr.mk (Array.size (World.heap w8)) 1 none) = some (Value.string s16) ∧
                       (Wr w14 (Addr.mk (Array.size (World.heap w2)) 1 none) ∧
                        ∀ w17 : World,
                        (w17 = World.setCell w14 (Addr.mk (Array.size (World.heap w2)) 1 none) (Value.int IntKind.i64 (IntKind.wrap IntKind.i64 (n15 + (↑(ByteArray.size s16) : Int)))) →
                          (I5 (IntKind.wrap IntKind.i64 (n7 + 1)) w17 ∧
                           I6 (IntKind.wrap IntKind.i64 (n7 + 1)) w17 < I6 n7 w8))))))))))))) ∧
           (decide (n7 < (↑x0n : Int)) = false →
             (((decide ((↑x0n : Int) > 2000) = true →
                R (Value.tuple (Array.mk [Value.pointer none, Value.int IntKind.i64 2])) w8)) ∧
              (decide ((↑x0n : Int) > 2000) = false →
                ∃ n18 : Int, (World.cell? w8 (Addr.mk (Array.size (World.heap w2)) 1 none) = some (Value.int IntKind.i64 n18) ∧
                 (((decide (n18 > 4194304) = true →
                    R (Value.tuple (Array.mk [Value.pointer none, Value.int IntKind.i64 2])) w8)) ∧
                  (decide (n18 > 4194304) = false →
                    ∃ l19 : Sl, (World.cell? w8 (Addr.mk (Array.size (World.heap w2)) 0 none) = some (Value.slice l19.1 l19.2 l19.3) ∧
                     Calls Tryz.prog (19 : Nat) (Array.mk [Value.slice l19.1 l19.2 l19.3, Value.func (Fn.func 20) (Array.mk []) (Array.mk [])]) (w8) (fun e20 w21 =>
                       (e20 = Ending.returned (Value.tuple (Array.mk [])) ∧
                        ∃ l22 : Sl, (World.cell? w21 (Addr.mk (Array.size (World.heap w2)) 0 none) = some (Value.slice l22.1 l22.2 l22.3) ∧
                         ∃ I23 : Int → World → Prop, ∃ I24 : Int → World → Nat, (I23 0 w21 ∧
                          ∀ n25 : Int,
                          ∀ w26 : World,
                          (I23 n25 w26 →
                            (((decide (n25 < (↑l22.2 : Int)) = true →
                               ((0 ≤ n25 ∧
                                 n25 < (↑l22.2 : Int)) ∧
                                ∃ a27 : Addr, (l22.1 = some a27 ∧
                                 ∃ s28 : ByteArray, ∃ s29 : ByteArray, (Sem.run Tryz.prog (loadVar 25 (Addr.add a27 (Int.toNat n25 * 2))) w26 = Result.ok (Value.agg (Array.mk [Value.string s28, Value.string s29])) w26 ∧
                                  ∀ w30 : World,
                                  (w30 = World.alloc w26 (Obj.cells (Array.mk [Value.string (ByteArray.mk (Array.mk [])), Value.string (ByteArray.mk (Array.mk []))]) 25) →
                                    ∃ w31 : World, (Sem.run Tryz.prog (storeVar 25 (Addr.mk (Array.size (World.heap w26)) 0 none) (Value.agg (Array.mk [Value.string s28, Value.string s29]))) w30 = Result.ok PUnit.unit w31 ∧
                                     ∀ w32 : World,
                                     (Drew w31 w32 →
                                       ∃ I33 : World → Prop, (I33 w32 ∧
                                        ∃ s34 : ByteArray, ((∀ w35 : World,
                                         (I33 w35 →
                                           World.cell? w35 (Addr.mk (Array.size (World.heap w26)) 0 none) = some (Value.string s34))) ∧
                                         Calls Tryz.prog (21 : Nat) (Array.mk [Value.string s34]) (w32) (fun e36 w37 =>
                                           ∃ b38 : Bool, (e36 = Ending.returned (Value.bool b38) ∧
                                            (I33 w37 ∧
                                             ((((!b38) = true →
                                                R (Value.tuple (Array.mk [Value.pointer none, Value.int IntKind.i64 4])) w37)) ∧
                                              ((!b38) = false →
                                                (((decide (n25 > 0) = true →
                                                   ∃ l39 : Sl, ((∀ w40 : World,
                                                    (I33 w40 →
                                                      World.cell? w40 (Addr.mk (Array.size (World.heap w2)) 0 none) = some (Value.slice l39.1 l39.2 l39.3))) ∧
                                                    ((0 ≤ IntKind.wrap IntKind.i64 (n25 - 1) ∧
                                                      IntKind.wrap IntKind.i64 (n25 - 1) < (↑l39.2 : Int)) ∧
                                                     ∃ a41 : Addr, (l39.1 = some a41 ∧
                                                      ∃ s42 : ByteArray, ((∀ w43 : World,
                                                       (I33 w43 →
                                                         World.cell? w43 (Addr.add a41 (Int.toNat (IntKind.wrap IntKind.i64 (n25 - 1)) * 2)) = some (Value.string s42))) ∧
                                                       ∃ s44 : ByteArray, ((∀ w45 : World,
                                                        (I33 w45 →
                                                          World.cell? w45 (Addr.mk (Array.size (World.heap w26)) 0 none) = some (Value.string s44))) ∧
                                                        ((((ByteArray.toList s42 == ByteArray.toList s44) = true →
                                                           R (Value.tuple (Array.mk [Value.pointer none, Value.int IntKind.i64 4])) w37)) ∧
                                                         ((ByteArray.toList s42 == ByteArray.toList s44) = false →
                                                           (I23 (IntKind.wrap IntKind.i64 (n25 + 1)) w37 ∧
                                                            I24 (IntKind.wrap IntKind.i64 (n25 + 1)) w37 < I24 n25 w26)))))))))) ∧
                                                 (decide (n25 > 0) = false →
                                                   (I23 (IntKind.wrap IntKind.i64 (n25 + 1)) w37 ∧
                                                    I24 (IntKind.wrap IntKind.i64 (n25 + 1)) w37 < I24 n25 w26)))))))))))))))))) ∧
                             (decide (n25 < (↑l22.2 : Int)) = false →
                               ∃ l46 : Sl, (World.cell? w26 (Addr.mk (Array.size (World.heap w2)) 0 none) = some (Value.slice l46.1 l46.2 l46.3) ∧
                                ∃ I47 : Int → World → Prop, ∃ I48 : Int → World → Nat, (I47 0 w26 ∧
                                 ∀ n49 : Int,
                                 ∀ w50 : World,
                                 (I47 n49 w50 →
                                   (((decide (n49 < (↑l46.2 : Int)) = true →
                                      ((0 ≤ n49 ∧
                                        n49 < (↑l46.2 : Int)) ∧
                                       ∃ a51 : Addr, (l46.1 = some a51 ∧
                                        ∃ s52 : ByteArray, ∃ s53 : ByteArray, (Sem.run Tryz.prog (loadVar 25 (Addr.add a51 (Int.toNat n49 * 2))) w50 = Result.ok (Value.agg (Array.mk [Value.string s52, Value.string s53])) w50 ∧
                                         ∀ w54 : World,
                                         (w54 = World.alloc w50 (Obj.cells (Array.mk [Value.string (ByteArray.mk (Array.mk [])), Value.string (ByteArray.mk (Array.mk []))]) 25) →
                                           ∃ w55 : World, (Sem.run Tryz.prog (storeVar 25 (Addr.mk (Array.size (World.heap w50)) 0 none) (Value.agg (Array.mk [Value.string s52, Value.string s53]))) w54 = Result.ok PUnit.unit w55 ∧
                                            ∃ s56 : ByteArray, (World.cell? w55 (Addr.mk (Array.size (World.heap w50)) 0 none) = some (Value.string s56) ∧
                                             (ByteArray.size s56 + ByteArray.size (ByteArray.mk (Array.mk [47])) ≤ 9223372036854775807 ∧
                                              Calls Tryz.prog (22 : Nat) (Array.mk [Value.pointer (some (Addr.mk (Array.size (World.heap w2)) 0 none)), Value.string (s56 ++ ByteArray.mk (Array.mk [47]))]) (w55) (fun e57 w58 =>
                                                ∃ l59 : Sl, (e57 = Ending.returned (Value.slice l59.1 l59.2 l59.3) ∧
                                                 (((decide ((↑l59.2 : Int) > 0) = true →
                                                    R (Value.tuple (Array.mk [Value.pointer none, Value.int IntKind.i64 4])) w58)) ∧
                                                  (decide ((↑l59.2 : Int) > 0) = false →
                                                    (I47 (IntKind.wrap IntKind.i64 (n49 + 1)) w58 ∧
                                                     I48 (IntKind.wrap IntKind.i64 (n49 + 1)) w58 < I48 n49 w50)))))))))))))) ∧
                                    (decide (n49 < (↑l46.2 : Int)) = false →
                                      R (Value.tuple (Array.mk [Value.pointer (some (Addr.mk (Array.size (World.heap w2)) 0 none)), Value.int IntKind.i64 0])) w50)))))))))))))))))))))))))
theorem vc_snap_New_ok {x0a : Option Addr} {x0n : Nat} {x0c : Nat} {w : World} {R : Value → World → Prop} {R' : Ending → World → Prop} (h : vc_snap_New x0a x0n x0c w R) (hR : ∀ v w', R v w' → R' (.returned v) w') :
    Calls Tryz.prog 7 #[.slice x0a x0n x0c] w R' :=
  calls_of_body (vs := [(.slice x0a x0n x0c, false)]) (ty := ty) (ann := ⟨[], [(3, [(17, .int .i64)]), (11, [(52, .int .i64)]), (17, [(85, .int .i64)])], [(5, .tail 10), (13, .held [(0, true), (1, true), (2, false), (3, true), (4, true), (5, true), (6, true), (7, true), (8, true), (9, true), (10, true), (11, true), (12, true), (13, true), (14, true), (15, true), (16, true), (17, true), (18, true), (19, true), (20, true), (21, true)])], []⟩) (c := Tryz.f7.body.getD .skip) (by kernel_rfl) Tryz.func7 (by kernel_rfl) (by kernel_rfl) (Eq.mp (by kernel_rfl) h) hR
/-- (*snap.Snap).Get -/
def vc_snap_Snap_Get (x0 : Nat) (x1 : ByteArray) (w : World) (R : Value → World → Prop) : Prop :=
  ∃ l1 : Sl, (World.cell? w (Addr.mk x0 0 none) = some (Value.slice l1.1 l1.2 l1.3) ∧
   Calls Tryz.prog (44 : Nat) (Array.mk [Value.slice l1.1 l1.2 l1.3, Value.agg (Array.mk [Value.string x1, Value.string (ByteArray.mk (Array.mk []))]), Value.func (Fn.func 20) (Array.mk []) (Array.mk [])]) (w) (fun e2 w3 =>
     ∃ n4 : Int, ∃ b5 : Bool, (e2 = Ending.returned (Value.tuple (Array.mk [Value.int IntKind.i64 n4, Value.bool b5])) ∧
      ((((!b5) = true →
         R (Value.tuple (Array.mk [Value.string (ByteArray.mk (Array.mk [])), Value.int IntKind.i64 7])) w3)) ∧
       ((!b5) = false →
         ∃ l6 : Sl, (World.cell? w3 (Addr.mk x0 0 none) = some (Value.slice l6.1 l6.2 l6.3) ∧
          ((0 ≤ n4 ∧
            n4 < (↑l6.2 : Int)) ∧
           ∃ a7 : Addr, (l6.1 = some a7 ∧
            ∃ s8 : ByteArray, (World.cell? w3 (Addr.add (Addr.add a7 (Int.toNat n4 * 2)) 1) = some (Value.string s8) ∧
             R (Value.tuple (Array.mk [Value.string s8, Value.int IntKind.i64 0])) w3)))))))))
theorem vc_snap_Snap_Get_ok {x0 : Nat} {x1 : ByteArray} {w : World} {R : Value → World → Prop} {R' : Ending → World → Prop} (h : vc_snap_Snap_Get x0 x1 w R) (hR : ∀ v w', R v w' → R' (.returned v) w') :
    Calls Tryz.prog 24 #[.pointer (some ⟨x0, 0, none⟩), .string x1] w R' :=
  calls_of_body (vs := [(.pointer (some ⟨x0, 0, none⟩), true), (.string x1, false)]) (ty := ty) (ann := ⟨[], [], [], []⟩) (c := Tryz.f24.body.getD .skip) (by kernel_rfl) Tryz.func24 (by kernel_rfl) (by kernel_rfl) (Eq.mp (by kernel_rfl) h) hR
/-- (*snap.Snap).Under -/
def vc_snap_Snap_Under (x0 : Nat) (x1 : ByteArray) (w : World) (R : Value → World → Prop) : Prop :=
  ∃ l1 : Sl, (World.cell? w (Addr.mk x0 0 none) = some (Value.slice l1.1 l1.2 l1.3) ∧
   Calls Tryz.prog (44 : Nat) (Array.mk [Value.slice l1.1 l1.2 l1.3, Value.agg (Array.mk [Value.string x1, Value.string (ByteArray.mk (Array.mk []))]), Value.func (Fn.func 20) (Array.mk []) (Array.mk [])]) (w) (fun e2 w3 =>
     ∃ n4 : Int, ∃ b5 : Bool, (e2 = Ending.returned (Value.tuple (Array.mk [Value.int IntKind.i64 n4, Value.bool b5])) ∧
      ∃ I6 : Sl → Int → World → Prop, ∃ I7 : Sl → Int → World → Nat, (I6 (Sl.mk none 0 0) n4 w3 ∧
       ∀ l8 : Sl,
       ∀ n9 : Int,
       ∀ w10 : World,
       (I6 l8 n9 w10 →
         ∃ l11 : Sl, (World.cell? w10 (Addr.mk x0 0 none) = some (Value.slice l11.1 l11.2 l11.3) ∧
          (((decide (n9 < (↑l11.2 : Int)) = true →
             ∃ l12 : Sl, (World.cell? w10 (Addr.mk x0 0 none) = some (Value.slice l12.1 l12.2 l12.3) ∧
              ((0 ≤ n9 ∧
                n9 < (↑l12.2 : Int)) ∧
               ∃ a13 : Addr, (l12.1 = some a13 ∧
                ∃ s14 : ByteArray, (World.cell? w10 (Addr.add a13 (Int.toNat n9 * 2)) = some (Value.string s14) ∧
                 Calls Tryz.prog (45 : Nat) (Array.mk [Value.string s14, Value.string x1]) (w10) (fun e15 w16 =>
                   ∃ b17 : Bool, (e15 = Ending.returned (Value.bool b17) ∧
                    (((b17 = true →
                       ∃ l18 : Sl, (World.cell? w16 (Addr.mk x0 0 none) = some (Value.slice l18.1 l18.2 l18.3) ∧
                        ((0 ≤ n9 ∧
                          n9 < (↑l18.2 : Int)) ∧
                         ∃ a19 : Addr, (l18.1 = some a19 ∧
                          ∃ s20 : ByteArray, (World.cell? w16 (Addr.add a19 (Int.toNat n9 * 2)) = some (Value.string s20) ∧
                           ∀ w21 : World,
                           (w21 = World.alloc w16 (Obj.cells (Array.mk [Value.string s20]) 9) →
                             ∃ w22 : World, ∃ l23 : Sl, (Sem.run Tryz.prog (Builtin.append_ (Array.mk [35, 35]) 35 (Array.mk [Value.slice l8.1 l8.2 l8.3, Value.slice (some (Addr.mk (Array.size (World.heap w16)) 0 none)) 1 1])) w21 = Result.ok (Value.slice l23.1 l23.2 l23.3) w22 ∧
                              (I6 (Sl.mk l23.1 l23.2 l23.3) (IntKind.wrap IntKind.i64 (n9 + 1)) w22 ∧
                               I7 (Sl.mk l23.1 l23.2 l23.3) (IntKind.wrap IntKind.i64 (n9 + 1)) w22 < I7 l8 n9 w10))))))))) ∧
                     (b17 = false →
                       R (Value.slice l8.1 l8.2 l8.3) w16)))))))))) ∧
           (decide (n9 < (↑l11.2 : Int)) = false →
             R (Value.slice l8.1 l8.2 l8.3) w10))))))))
theorem vc_snap_Snap_Under_ok {x0 : Nat} {x1 : ByteArray} {w : World} {R : Value → World → Prop} {R' : Ending → World → Prop} (h : vc_snap_Snap_Under x0 x1 w R) (hR : ∀ v w', R v w' → R' (.returned v) w') :
    Calls Tryz.prog 22 #[.pointer (some ⟨x0, 0, none⟩), .string x1] w R' :=
  calls_of_body (vs := [(.pointer (some ⟨x0, 0, none⟩), true), (.string x1, false)]) (ty := ty) (ann := ⟨[], [(3, [(5, .slice), (6, .int .i64)])], [], []⟩) (c := Tryz.f22.body.getD .skip) (by kernel_rfl) Tryz.func22 (by kernel_rfl) (by kernel_rfl) (Eq.mp (by kernel_rfl) h) hR
end Go.Proofs.YtcnpekohkbjnnaaGreatDoor

/- Files in memory: a row of structs of two texts. No condition. -/
set_option linter.unusedVariables false
namespace Go.Proofs.YtcnpekohkbjnnaaGreatDoor
open Go Vc Go.Proofs

structure FileE where
  path : ByteArray
  data : ByteArray
instance : Inhabited FileE := ⟨⟨⟨#[]⟩, ⟨#[]⟩⟩⟩
def encF (f : FileE) : List Value := [.string f.path, .string f.data]
theorem elF : ElK encF 2 Tryz.prog T_S_api_File T_api_File (.agg #[.string ⟨#[]⟩, .string ⟨#[]⟩]) 32 :=
  ⟨by kernel_rfl, by kernel_rfl, rfl, by decide, by kernel_rfl, fun _ => rfl, fun x u hu => by
    simp only [encF, List.mem_cons, List.mem_nil_iff, or_false] at hu
    rcases hu with rfl | rfl <;> rfl⟩
theorem boxF_run (w : World) (x : FileE) : (storeVar T_api_File ⟨w.heap.size, 0, none⟩ (.agg #[.string x.path, .string x.data])).run Tryz.prog (w.alloc (.cells #[.string ⟨#[]⟩, .string ⟨#[]⟩] T_api_File)) = .ok () (w.alloc (.cells (encF x).toArray T_api_File)) :=
  run_storeVar_new w T_api_File _ _ (by kernel_rfl) rfl (by simp [Value.oneCell'])
theorem boxF_cell (w : World) (x : FileE) {w' : World} {X : Nat → Prop} (hf : Fr X (w.alloc (.cells (encF x).toArray T_api_File)) w') (hx : ¬ X w.heap.size) {j : Nat} {v : Value} (hv : (encF x)[j]? = some v) : w'.cell? ⟨w.heap.size, j, none⟩ = some v :=
  hf.cell (by rw [cell_blk (alloc_new w _)]; simpa using hv) hx
def totalF (xs : List FileE) : Nat := (xs.map fun x => x.data.size).sum
theorem totalF_take {xs : List FileE} {k : Nat} {x : FileE} (h : xs[k]? = some x) : totalF (xs.take (k + 1)) = totalF (xs.take k) + x.data.size := by
  unfold totalF
  rw [List.take_add_one, h, List.map_append, List.sum_append]; simp
theorem totalF_le (xs : List FileE) (k : Nat) : totalF (xs.take k) ≤ totalF xs := by
  have : totalF xs = totalF (xs.take k) + totalF (xs.drop k) := by
    unfold totalF
    rw [← List.sum_append, ← List.map_append, List.take_append_drop]
  omega
end Go.Proofs.YtcnpekohkbjnnaaGreatDoor

/- Beginnings of texts in plain. No condition. -/
set_option linter.unusedVariables false
namespace Go.Proofs.YtcnpekohkbjnnaaGreatDoor
open Go Vc Go.Proofs

/-- Does s begin with t? -/
def begB (s t : ByteArray) : Bool := decide (t.data.toList <+: s.data.toList)
theorem begB_cut {s t : ByteArray} (h : t.size ≤ s.size) : (ByteArray.toList (s.extract 0 t.size) == ByteArray.toList t) = begB s t := by
  rw [bs_eq]
  unfold begB
  refine decide_eq_decide.2 ⟨fun e => ?_, fun e => ?_⟩
  · rw [← e, bs_head]; exact List.take_prefix _ _
  · obtain ⟨r, hr⟩ := e
    refine bs_ext ?_
    rw [bs_head, ← hr, ← bs_len, List.take_left]
theorem begB_short {s t : ByteArray} (h : ¬ t.size ≤ s.size) : begB s t = false := decide_eq_false fun e => h (by rw [← bs_len, ← bs_len]; exact e.length_le)
theorem beg_le {s t : ByteArray} (h : begB s t = true) : t.size ≤ s.size := by
  have := (of_decide_eq_true h : t.data.toList <+: s.data.toList).length_le
  rw [bs_len, bs_len] at this; exact this
theorem pre_between : ∀ (a b c : List UInt8), ¬ b < a → ¬ c < b → a <+: c → a <+: b
  | [], b, c, _, _, _ => List.nil_prefix
  | x :: a, [], c, h, _, _ => absurd (List.nil_lt_cons x a) h
  | x :: a, y :: b, [], _, _, h => by simp at h
  | x :: a, y :: b, z :: c, h1, h2, h3 => by
    rw [List.cons_prefix_cons] at h3 ⊢
    obtain ⟨rfl, h3⟩ := h3
    rw [List.cons_lt_cons_iff] at h1 h2
    have e1 : ¬ y < x := fun h => h1 (.inl h)
    have e2 : ¬ x < y := fun h => h2 (.inl h)
    have e : x = y := UInt8.toNat_inj.1 (by rw [UInt8.lt_iff_toNat_lt] at e1 e2; omega)
    subst e
    exact ⟨rfl, pre_between a b c (fun h => h1 (.inr ⟨rfl, h⟩)) (fun h => h2 (.inr ⟨rfl, h⟩)) h3⟩
theorem pre_le : ∀ (a c : List UInt8), a <+: c → ¬ c < a
  | [], c, _ => by simp
  | x :: a, [], h => by simp at h
  | x :: a, z :: c, h => by
    rw [List.cons_prefix_cons] at h
    obtain ⟨rfl, h⟩ := h
    rw [List.cons_lt_cons_iff]
    rintro (h1 | ⟨_, h1⟩)
    · rw [UInt8.lt_iff_toNat_lt] at h1; omega
    · exact pre_le a c h h1
theorem filter_mid {α : Type} (f : α → Bool) (xs : List α) {i m : Nat} (him : i ≤ m) (h1 : ∀ k x, xs[k]? = some x → k < i → f x = false) (h2 : ∀ k x, xs[k]? = some x → i ≤ k → k < m → f x = true) (h3 : ∀ k x, xs[k]? = some x → m ≤ k → f x = false) : xs.filter f = (xs.take m).drop i := by
  have hx : xs = (xs.take m).take i ++ (xs.take m).drop i ++ xs.drop m := by rw [List.take_append_drop, List.take_append_drop]
  have e1 : ((xs.take m).take i).filter f = [] := by
    rw [List.filter_eq_nil_iff]
    intro x hx
    obtain ⟨k, hk⟩ := List.mem_iff_getElem?.1 hx
    rw [List.getElem?_take] at hk
    split at hk
    · rename_i hki
      rw [List.getElem?_take, if_pos (by omega)] at hk
      rw [h1 k x hk hki]; decide
    · cases hk
  have e2 : ((xs.take m).drop i).filter f = (xs.take m).drop i := by
    rw [List.filter_eq_self]
    intro x hx
    obtain ⟨k, hk⟩ := List.mem_iff_getElem?.1 hx
    rw [List.getElem?_drop, List.getElem?_take] at hk
    split at hk
    · rename_i hki
      exact h2 _ x hk (by omega) hki
    · cases hk
  have e3 : (xs.drop m).filter f = [] := by
    rw [List.filter_eq_nil_iff]
    intro x hx
    obtain ⟨k, hk⟩ := List.mem_iff_getElem?.1 hx
    rw [List.getElem?_drop] at hk
    rw [h3 _ x hk (by omega)]; decide
  conv => lhs; rw [hx]
  rw [List.filter_append, List.filter_append, e1, e2, e3, List.nil_append, List.append_nil]
end Go.Proofs.YtcnpekohkbjnnaaGreatDoor

/- Formulas of 2 Go functions of this seat (written by a program of the author's, vcgen.py), and that each is enough for the call. No condition. -/
set_option linter.unusedVariables false
namespace Go.Proofs.YtcnpekohkbjnnaaGreatDoor
open Go Vc Go.Proofs
set_option maxRecDepth 100000
/-- strings.HasPrefix -/
def vc_strings_HasPrefix (x0 : ByteArray) (x1 : ByteArray) (w : World) (R : Value → World → Prop) : Prop :=
  Calls Tryz.prog (84 : Nat) (Array.mk [Value.string x0, Value.string x1]) (w) (fun e1 w2 =>
    ∃ b3 : Bool, (e1 = Ending.returned (Value.bool b3) ∧
     R (Value.bool b3) w2))
theorem vc_strings_HasPrefix_ok {x0 : ByteArray} {x1 : ByteArray} {w : World} {R : Value → World → Prop} {R' : Ending → World → Prop} (h : vc_strings_HasPrefix x0 x1 w R) (hR : ∀ v w', R v w' → R' (.returned v) w') :
    Calls Tryz.prog 45 #[.string x0, .string x1] w R' :=
  calls_of_body (vs := [(.string x0, false), (.string x1, false)]) (ty := ty) (ann := ⟨[], [], [], []⟩) (c := Tryz.f45.body.getD .skip) (by kernel_rfl) Tryz.func45 (by kernel_rfl) (by kernel_rfl) (Eq.mp (by kernel_rfl) h) hR
/-- internal/stringslite.HasPrefix -/
def vc_stringslite_HasPrefix (x0 : ByteArray) (x1 : ByteArray) (w : World) (R : Value → World → Prop) : Prop :=
  (((decide ((↑(ByteArray.size x0) : Int) ≥ (↑(ByteArray.size x1) : Int)) = true →
     ((0 ≤ (↑(ByteArray.size x1) : Int) ∧
       (↑(ByteArray.size x1) : Int) ≤ (↑(ByteArray.size x0) : Int)) ∧
      R (Value.bool (ByteArray.toList (ByteArray.extract x0 0 (Int.toNat (↑(ByteArray.size x1) : Int))) == ByteArray.toList x1)) w))) ∧
   (decide ((↑(ByteArray.size x0) : Int) ≥ (↑(ByteArray.size x1) : Int)) = false →
     R (Value.bool false) w))
theorem vc_stringslite_HasPrefix_ok {x0 : ByteArray} {x1 : ByteArray} {w : World} {R : Value → World → Prop} {R' : Ending → World → Prop} (h : vc_stringslite_HasPrefix x0 x1 w R) (hR : ∀ v w', R v w' → R' (.returned v) w') :
    Calls Tryz.prog 84 #[.string x0, .string x1] w R' :=
  calls_of_body (vs := [(.string x0, false), (.string x1, false)]) (ty := ty) (ann := ⟨[], [], [], []⟩) (c := Tryz.f84.body.getD .skip) (by kernel_rfl) Tryz.func84 (by kernel_rfl) (by kernel_rfl) (Eq.mp (by kernel_rfl) h) hR
end Go.Proofs.YtcnpekohkbjnnaaGreatDoor

/- strings.HasPrefix. No condition. -/
set_option linter.unusedVariables false
namespace Go.Proofs.YtcnpekohkbjnnaaGreatDoor
open Go Vc Go.Proofs

theorem hasPrefix_spec (s t : ByteArray) (w : World) : Calls Tryz.prog F_strings_HasPrefix #[.string s, .string t] w fun e w' => e = .returned (.bool (begB s t)) ∧ w' = w := by
  refine vc_strings_HasPrefix_ok (R := fun v w' => v = .bool (begB s t) ∧ w' = w) ?_ (fun v w' h => ⟨by rw [h.1], h.2⟩)
  refine Calls.mono (R := fun e w' => e = .returned (.bool (begB s t)) ∧ w' = w) (vc_stringslite_HasPrefix_ok (R := fun v w' => v = .bool (begB s t) ∧ w' = w) ?_ (fun v w' h => ⟨by rw [h.1], h.2⟩)) ?_
  · refine ⟨fun h => ⟨⟨by omega, by have := of_decide_eq_true h; omega⟩, ?_, rfl⟩, fun h => ⟨?_, rfl⟩⟩
    · have h := of_decide_eq_true h
      rw [Int.toNat_natCast, begB_cut (by omega)]
    · rw [begB_short (by have := of_decide_eq_false h; omega)]
  · rintro e w2 ⟨rfl, rfl⟩
    exact ⟨_, rfl, rfl, rfl⟩
end Go.Proofs.YtcnpekohkbjnnaaGreatDoor

/- Slices of bytes of this seat. No condition. -/
set_option linter.unusedVariables false
namespace Go.Proofs.YtcnpekohkbjnnaaGreatDoor
open Go Vc Go.Proofs

theorem elByte : El Tryz.prog T_S_uint8 T_uint8 (.int .u8 0) 1 := ⟨by kernel_rfl, by kernel_rfl, rfl⟩
theorem elByteH : El Tryz.prog T_S_uint8 T_uint8 (.int .u8 0) 1 := elByte
theorem own_empty (w : World) (e : TypeId) : Vc.Own (w.alloc (.cells #[] e)) w.heap.size e ⟨some ⟨w.heap.size, 0, none⟩, 0, 0⟩ [] :=
  ⟨rfl, .inr ⟨w.heap.size, #[], rfl, Nat.le_refl _, alloc_new _ _, Nat.le_refl _, Nat.zero_le _, rfl, rfl⟩⟩
theorem byteV_one (l : List UInt8) : ∀ u ∈ byteV l, u.oneCell' = true := fun u h => by
  obtain ⟨b, _, rfl⟩ := List.mem_map.1 h; rfl
end Go.Proofs.YtcnpekohkbjnnaaGreatDoor

/- Slices of texts. No condition. -/
set_option linter.unusedVariables false
namespace Go.Proofs.YtcnpekohkbjnnaaGreatDoor
open Go Vc Go.Proofs

theorem elString : El Tryz.prog T_S_string T_string (.string ⟨#[]⟩) 16 := ⟨by kernel_rfl, by kernel_rfl, rfl⟩
def strV (l : List ByteArray) : List Value := l.map Value.string
theorem own_lit (w : World) (t : TypeId) : Vc.Own (w.alloc (.cells #[] t)) w.heap.size t ⟨some ⟨w.heap.size, 0, none⟩, 0, 0⟩ [] :=
  ⟨rfl, .inr ⟨w.heap.size, _, rfl, Nat.le_refl _, alloc_new w _, Nat.le_refl _, Nat.zero_le _, rfl, rfl⟩⟩
theorem grow_str {w0 w12 : World} {l : Sl} {out : List ByteArray} (x : ByteArray) (hs : out.length ≤ 1000003) (ho : Vc.Own w12 w0.heap.size T_string l (strV out)) (hf : Fr (fun _ => False) w0 w12) {w13 : World} (h13 : w13 = w12.alloc (.cells #[.string x] 9)) :
    ∃ (w14 : World) (l15 : Sl), (Builtin.append_ #[35, 35] 35 #[.slice l.a l.len l.cap, .slice (some ⟨w12.heap.size, 0, none⟩) 1 1]).run Tryz.prog w13 = .ok (.slice l15.a l15.len l15.cap) w14 ∧ Vc.Own w14 w0.heap.size T_string l15 (strV (out ++ [x])) ∧ Fr (fun _ => False) w0 w14 := by
  obtain ⟨w14, l15, hr14, ho14, hf14, _⟩ := append_one' elString ho (v := .string x) rfl (by simp only [strV, List.length_map, maxLen]; omega) (by simp only [strV, List.length_map]; omega) hf.size h13
  refine ⟨w14, l15, hr14, by simpa [strV] using ho14, hf.trans hf14 fun q hq ⟨z, hz, e⟩ => ?_⟩
  have := (ho.blk hz).1; omega
end Go.Proofs.YtcnpekohkbjnnaaGreatDoor

/- Digits of bytes in plain; append of what is new. No condition. -/
set_option linter.unusedVariables false
namespace Vc
open Go
theorem append_new {P : Program} {t e : TypeId} {z : Value} {bytes : Nat} {w : World} {base : Nat} {l : Sl} {xs : List Value} (el : El P t e z bytes) (h : Own w base e l xs) {news : List Value} (h1 : ∀ u ∈ news, u.oneCell' = true)
    (hm : xs.length + news.length ≤ maxLen) (hb : (xs.length + news.length) * bytes ≤ 140737488355328) (hbase : base ≤ w.heap.size) {w2 : World} (hw2 : w2 = w.alloc (.cells news.toArray e)) {m : Nat} (hlen : news.length = m) :
    ∃ w' l', (Builtin.append_ #[t, t] t #[.slice l.a l.len l.cap, .slice (some ⟨w.heap.size, 0, none⟩) m m]).run P w2 = .ok (.slice l'.a l'.len l'.cap) w' ∧ Own w' base e l' (xs ++ news) ∧
      Fr (At l) w w' ∧ Since w l l' := by
  subst hw2
  have h2 : Own (w.alloc (.cells news.toArray e)) base e l xs := h.keep (.alloc (fun _ => False) _ _) (by simp)
  obtain ⟨w', l', hr, ho, hf, hs⟩ := append_all' el h2 (src := some ⟨w.heap.size, 0, none⟩) m (news := news) (fun i v hv => ⟨_, rfl, by rw [add_lit, Nat.zero_add, cell_blk (alloc_new w _)]; simpa using hv⟩) h1 hm hb (by simp; omega) hlen
  refine ⟨w', l', hr, ho, (Fr.alloc _ _ _).trans' hf, fun y hy => ?_⟩
  rcases hs y hy with hx | hn
  · exact .inl hx
  · simp only [World.alloc, Array.size_push] at hn
    exact .inr (by omega)
end Vc
namespace HexM
/-- A digit. -/
def hx (n : Nat) : Nat := if n < 10 then 48 + n else 87 + n
theorem hx_lt {n : Nat} (h : n < 16) : hx n < 256 := by unfold hx; split <;> omega
def hexL (l : List UInt8) : List UInt8 := l.flatMap fun c => [UInt8.ofNat (hx (c.toNat / 16)), UInt8.ofNat (hx (c.toNat % 16))]
theorem hexL_snoc (l : List UInt8) (c : UInt8) : hexL (l ++ [c]) = hexL l ++ [UInt8.ofNat (hx (c.toNat / 16)), UInt8.ofNat (hx (c.toNat % 16))] := by simp [hexL]
theorem hexL_length (l : List UInt8) : (hexL l).length = 2 * l.length := by
  induction l with
  | nil => rfl
  | cons c l ih => simp only [hexL, List.flatMap_cons, List.length_append, List.length_cons, List.length_nil] at ih ⊢; omega
/-- A digit's number. -/
def dg (c : Nat) : Option Nat := if 48 ≤ c ∧ c ≤ 57 then some (c - 48) else if 97 ≤ c ∧ c ≤ 102 then some (c - 87) else none
theorem dg_lt {c n : Nat} (h : dg c = some n) : n < 16 := by
  unfold dg at h
  split at h
  · cases h; omega
  · split at h
    · cases h; omega
    · cases h
theorem dg_hx {n : Nat} (h : n < 16) : dg (hx n) = some n := by
  unfold hx dg
  split
  · rw [if_pos (by omega)]; congr 1; omega
  · rw [if_neg (by omega), if_pos (by omega)]; congr 1; omega
theorem hx_dg {c n : Nat} (h : dg c = some n) : hx n = c := by
  unfold dg at h
  unfold hx
  split at h
  · cases h; rw [if_pos (by omega)]; omega
  · split at h
    · cases h; rw [if_neg (by omega)]; omega
    · cases h
def unhexL : List UInt8 → Option (List UInt8)
  | [] => some []
  | [_] => none
  | a :: b :: r => match dg a.toNat, dg b.toNat, unhexL r with
    | some x, some y, some l => some (UInt8.ofNat (16 * x + y) :: l)
    | _, _, _ => none
theorem unhexL_len : ∀ (l r : List UInt8), unhexL l = some r → l.length = 2 * r.length
  | [], r, h => by simp only [unhexL, Option.some.injEq] at h; subst h; rfl
  | [_], r, h => by simp [unhexL] at h
  | a :: b :: l, r, h => by
    simp only [unhexL] at h
    split at h
    · rename_i x y q h1 h2 h3
      cases h
      have := unhexL_len l q h3
      simp only [List.length_cons]; omega
    · cases h
theorem unhex_hex : ∀ l : List UInt8, unhexL (hexL l) = some l
  | [] => rfl
  | c :: l => by
    have hc := c.toNat_lt
    have h1 : (UInt8.ofNat (hx (c.toNat / 16))).toNat = hx (c.toNat / 16) := by have := hx_lt (n := c.toNat / 16) (by omega); simp; omega
    have h2 : (UInt8.ofNat (hx (c.toNat % 16))).toNat = hx (c.toNat % 16) := by have := hx_lt (n := c.toNat % 16) (by omega); simp; omega
    have : hexL (c :: l) = UInt8.ofNat (hx (c.toNat / 16)) :: UInt8.ofNat (hx (c.toNat % 16)) :: hexL l := rfl
    rw [this, unhexL, h1, h2, dg_hx (by omega), dg_hx (by omega), unhex_hex l]
    simp only [Option.some.injEq, List.cons.injEq, and_true]
    rw [show 16 * (c.toNat / 16) + c.toNat % 16 = c.toNat by omega, UInt8.ofNat_toNat]
theorem hex_unhex : ∀ (l r : List UInt8), unhexL l = some r → hexL r = l
  | [], r, h => by simp only [unhexL, Option.some.injEq] at h; subst h; rfl
  | [_], r, h => by simp [unhexL] at h
  | a :: b :: l, r, h => by
    simp only [unhexL] at h
    split at h
    · rename_i x y q h1 h2 h3
      cases h
      have hx1 := dg_lt h1
      have hy1 := dg_lt h2
      have e : (UInt8.ofNat (16 * x + y)).toNat = 16 * x + y := by simp; omega
      show UInt8.ofNat (hx ((UInt8.ofNat (16 * x + y)).toNat / 16)) :: UInt8.ofNat (hx ((UInt8.ofNat (16 * x + y)).toNat % 16)) :: hexL q = _
      rw [e, show (16 * x + y) / 16 = x by omega, show (16 * x + y) % 16 = y by omega, hx_dg h1, hx_dg h2, UInt8.ofNat_toNat, UInt8.ofNat_toNat, hex_unhex l q h3]
    · cases h
/-- All are digits. -/
def digits (l : List UInt8) : Bool := l.all fun c => (dg c.toNat).isSome
theorem unhexL_iff : ∀ l : List UInt8, (unhexL l).isSome = (digits l && l.length % 2 == 0)
  | [] => rfl
  | [a] => by simp [unhexL]
  | a :: b :: l => by
    have ih := unhexL_iff l
    have hl : (a :: b :: l).length % 2 = l.length % 2 := by simp only [List.length_cons]; omega
    rw [hl]
    simp only [unhexL, digits, List.all_cons] at ih ⊢
    cases h1 : dg a.toNat <;> cases h2 : dg b.toNat <;> simp
    cases h3 : unhexL l <;> rw [h3] at ih <;> simp at ih ⊢ <;> simpa using ih
/-- An object's name. -/
def isId (l : List UInt8) : Bool := (unhexL l).isSome && l.length == 40
theorem unhexL_take : ∀ (n : Nat) (l : List UInt8) (r : List UInt8), unhexL (l.take (2 * n)) = some r → 2 * n ≤ l.length → ∀ a b : UInt8, l[2 * n]? = some a → l[2 * n + 1]? = some b →
    unhexL (l.take (2 * (n + 1))) = (match dg a.toNat, dg b.toNat with | some x, some y => some (r ++ [UInt8.ofNat (16 * x + y)]) | _, _ => none)
  | 0, l, r, h, _, a, b, ha, hb => by
    match l, ha, hb with
    | a' :: b' :: l, ha, hb =>
      simp only [Nat.mul_zero, List.getElem?_cons_zero, Option.some.injEq] at ha
      simp only [Nat.mul_zero, Nat.zero_add, List.getElem?_cons_succ, List.getElem?_cons_zero, Option.some.injEq] at hb
      subst ha; subst hb
      simp only [Nat.mul_zero, List.take_zero, unhexL, Option.some.injEq] at h
      subst h
      show unhexL [a', b'] = _
      cases h1 : dg a'.toNat <;> cases h2 : dg b'.toNat <;> simp [unhexL, h1, h2]
    | [], ha, _ => simp at ha
    | [_], _, hb => simp at hb
  | n + 1, l, r, h, hl, a, b, ha, hb => by
    match l, hl with
    | a' :: b' :: l, hl =>
      have ha' : l[2 * n]? = some a := by simpa [show 2 * (n + 1) = 2 * n + 1 + 1 by omega] using ha
      have hb' : l[2 * n + 1]? = some b := by simpa [show 2 * (n + 1) + 1 = 2 * n + 1 + 1 + 1 by omega] using hb
      have ht : ∀ k, (a' :: b' :: l).take (2 * (k + 1)) = a' :: b' :: l.take (2 * k) := fun k => by rw [show 2 * (k + 1) = 2 * k + 1 + 1 by omega]; rfl
      rw [ht] at h ⊢
      simp only [unhexL] at h
      split at h
      · rename_i x y q h1 h2 h3
        cases h
        have ih := unhexL_take n l q h3 (by simp only [List.length_cons] at hl; omega) a b ha' hb'
        simp only [unhexL, h1, h2, ih]
        cases dg a.toNat <;> cases dg b.toNat <;> simp
      · cases h
    | [], hl => simp at hl
    | [_], hl => simp only [List.length_cons, List.length_nil] at hl; omega
theorem unhexL_bad : ∀ (n : Nat) (l : List UInt8) (a : UInt8), l[n]? = some a → dg a.toNat = none → unhexL l = none := fun n l a h hd => by
  have := unhexL_iff l
  cases hu : unhexL l with
  | none => rfl
  | some r =>
    exfalso
    rw [hu] at this
    simp only [Option.isSome_some, digits] at this
    have h2 := (Bool.and_eq_true _ _ ▸ this.symm).1
    rw [List.all_eq_true] at h2
    have := h2 a (List.mem_of_getElem? h)
    rw [hd] at this; cases this
end HexM

/- A slice of the call's own, as the kit's contract of slices.SortFunc wants it, and as it leaves it. No condition. -/
set_option linter.unusedVariables false
set_option linter.unusedSectionVars false
namespace Vc
open Go Go.Proofs Go.Sort Go.Lib
variable {α : Type} [Inhabited α] {enc : α → List Value} {k : Nat} {w : World} {base : Nat} {e : TypeId} {l : Sl} {xs : List α} {g : Nat}
theorem own_row (h : OwnK enc k w base e l xs) (ha : l.a = some ⟨g, 0, none⟩) : ∃ cur, w.heap[g]? = some (.cells cur e (0, 0)) ∧ base ≤ g ∧ l.len ≤ l.cap ∧ l.cap ≤ maxLen ∧ cur.size = l.cap * k ∧ cur.toList.take (l.len * k) = xs.flatMap enc := by
  rcases h.2.2 with ⟨hv, _⟩ | ⟨g', cap, cur, hv, hb, hg, hl, hm, hs, ht⟩
  · simp only [Value.slice.injEq] at hv; rw [ha] at hv; cases hv.1
  · simp only [Value.slice.injEq] at hv
    obtain ⟨h1, _, h3⟩ := hv
    rw [ha] at h1
    cases h1
    subst h3
    exact ⟨cur, hg, hb, hl, hm, hs, ht⟩
theorem flatK_get (hk : ∀ x, (enc x).length = k) (h0 : 0 < k) {j : Nat} (hj : j < xs.length * k) : (xs.flatMap enc)[j]? = some ((flatK enc k xs.toArray)[j]!) := by
  have hl := flat_len hk xs
  obtain ⟨v, hv⟩ : ∃ v, (xs.flatMap enc)[j]? = some v := ⟨_, List.getElem?_eq_getElem (by omega)⟩
  obtain ⟨x, h1, h2⟩ := flat_get' hk h0 xs j v hv
  rw [hv, get_flatK enc k xs.toArray j (by simpa using hj)]
  have e1 : xs.toArray[j / k]! = x := by simp [h1]
  rw [e1]
  simp [h2]
theorem own_holds (hk : ∀ x, (enc x).length = k) (h0 : 0 < k) (h : OwnK enc k w base e l xs) (ha : l.a = some ⟨g, 0, none⟩) : HoldsK enc k w g 0 xs.toArray := fun j hj => by
  rw [size_flatK, List.size_toArray] at hj
  obtain ⟨cur, hg, _⟩ := own_row h ha
  have hr := h.reads hk
  rw [ha] at hr
  have := hr.flat hk h0 j _ (flatK_get hk h0 hj)
  rw [add_lit] at this
  exact ⟨this, by simp [World.frozen?, hg]⟩
theorem sort_fr (m : Nat) (ys : List α) (os : Array Obj) : Fr (· = g) w (sortWorldK enc k w g 0 m ys.toArray os) := by
  refine ⟨rfl, rfl, rfl, ?_, fun q hq hne => ?_⟩
  · simp [sortWorldK, grow, putRowK, putRow, mapBlock, Sort.ahead]
  · unfold sortWorldK
    rw [heap_grow_old _ _ (by simpa [putRowK, putRow, mapBlock, Sort.ahead] using hq)]
    simp only [putRowK, putRow, mapBlock, Sort.ahead, Array.getElem?_modify]
    rw [if_neg (fun e => hne e.symm)]
theorem own_sorted (hk : ∀ x, (enc x).length = k) (h0 : 0 < k) (h : OwnK enc k w base e l xs) (ha : l.a = some ⟨g, 0, none⟩) (m : Nat) (ys : List α) (hl : ys.length = xs.length) (os : Array Obj) : OwnK enc k (sortWorldK enc k w g 0 m ys.toArray os) base e l ys := by
  obtain ⟨cur, hg, hb, hc, hm, hs, ht⟩ := own_row h ha
  have hlen := h.1
  have hfl := flat_len hk ys
  have hkk : l.len * k ≤ l.cap * k := Nat.mul_le_mul_right _ hc
  have hgt := lt_blk hg
  refine ⟨by omega, by rw [hfl, hl, hlen], .inr ⟨g, l.cap, putCells id 0 (flatK enc k ys.toArray) cur, by rw [ha], hb, ?_, hc, hm, by simp [putCells, hs], ?_⟩⟩
  · unfold sortWorldK
    rw [heap_grow_old _ _ (by simpa [putRowK, putRow, mapBlock, Sort.ahead] using hgt)]
    simp only [putRowK, putRow, mapBlock, Sort.ahead, Array.getElem?_modify, if_true, hg]
    rfl
  · apply List.ext_getElem?
    intro j
    by_cases hj : j < l.len * k
    · rw [List.getElem?_take, if_pos hj, flatK_get hk h0 (by rw [hl, hlen]; exact hj)]
      simp only [putCells, Array.getElem?_toList, Array.getElem?_mapIdx]
      rw [Array.getElem?_eq_getElem (by omega)]
      simp only [Option.map_some, Nat.zero_le, true_and, Nat.zero_add, size_flatK, List.size_toArray, Nat.sub_zero, id]
      rw [if_pos (by rw [hl, hlen]; exact hj)]
    · rw [List.getElem?_eq_none (by rw [List.length_take]; omega), List.getElem?_eq_none (by rw [hfl, hl, hlen]; omega)]
end Vc

/- The kit's structure over slices.SortFunc at structs, at this seat (written by a program of the author's, laysort.py, with the kit's lay-plain). No condition. -/
namespace Go.Proofs.YtcnpekohkbjnnaaGreatDoor
open Go Go.Shelf Go.Proofs
def sortLays_ren : Go.Shelf.Ren := ⟨fun | 6 => 19 | 15 => 39 | 14 => 38 | 28 => 79 | 29 => 80 | 20 => 71 | 21 => 72 | 22 => 73 | 23 => 74 | 24 => 75 | 25 => 76 | 26 => 77 | 27 => 78 | 46 => 108 | 47 => 109 | 48 => 110 | 49 => 111 | 50 => 112 | 57 => 134 | n => n, fun | 22 => 34 | 24 => 25 | 25 => 54 | 3 => 3 | 39 => 69 | 0 => 0 | 53 => 104 | 55 => 95 | 4 => 4 | 46 => 118 | 45 => 117 | 50 => 46 | 5 => 5 | 9 => 9 | 66 => 152 | 70 => 156 | 76 => 181 | 77 => 67 | n => n, fun | n => n⟩
theorem sortLays : Go.Proofs.SlLaysF0.n6 Tryz.prog sortLays_ren := {
  mixed := by kernel_rfl
  f6 := ⟨Tryz.f19.name, by decide, Tryz.func19.trans (congrArg some (by kernel_rfl))⟩
  f14 := ⟨Tryz.f38.name, by decide, Tryz.func38.trans (congrArg some (by kernel_rfl))⟩
  f15 := Tryz.func39.trans (congrArg some (by kernel_rfl))
  f20 := ⟨Tryz.f71.name, by decide, Tryz.func71.trans (congrArg some (by kernel_rfl))⟩
  f21 := ⟨Tryz.f72.name, by decide, Tryz.func72.trans (congrArg some (by kernel_rfl))⟩
  f22 := ⟨Tryz.f73.name, by decide, Tryz.func73.trans (congrArg some (by kernel_rfl))⟩
  f23 := ⟨Tryz.f74.name, by decide, Tryz.func74.trans (congrArg some (by kernel_rfl))⟩
  f24 := ⟨Tryz.f75.name, by decide, Tryz.func75.trans (congrArg some (by kernel_rfl))⟩
  f25 := ⟨Tryz.f76.name, by decide, Tryz.func76.trans (congrArg some (by kernel_rfl))⟩
  f26 := ⟨Tryz.f77.name, by decide, Tryz.func77.trans (congrArg some (by kernel_rfl))⟩
  f27 := ⟨Tryz.f78.name, by decide, Tryz.func78.trans (congrArg some (by kernel_rfl))⟩
  f28 := Tryz.func79.trans (congrArg some (by kernel_rfl))
  f29 := Tryz.func80.trans (congrArg some (by kernel_rfl))
  f46 := ⟨Tryz.f108.name, by decide, Tryz.func108.trans (congrArg some (by kernel_rfl))⟩
  f47 := Tryz.func109.trans (congrArg some (by kernel_rfl))
  f48 := Tryz.func110.trans (congrArg some (by kernel_rfl))
  f49 := ⟨Tryz.f111.name, by decide, Tryz.func111.trans (congrArg some (by kernel_rfl))⟩
  f50 := ⟨Tryz.f112.name, by decide, Tryz.func112.trans (congrArg some (by kernel_rfl))⟩
  f57 := ⟨Tryz.f134.name, by decide, Tryz.func134.trans (congrArg some (by kernel_rfl))⟩
  t0 := Tryz.underlying0
  a0 := Tryz.isAgg0
  z0 := Tryz.sizeOf0
  v0 := Tryz.zeroValue0
  t3 := Tryz.underlying3
  a3 := Tryz.isAgg3
  z3 := Tryz.sizeOf3
  v3 := Tryz.zeroValue3
  t4 := Tryz.underlying4
  a4 := Tryz.isAgg4
  z4 := Tryz.sizeOf4
  v4 := Tryz.zeroValue4
  t5 := Tryz.underlying5
  a5 := Tryz.isAgg5
  z5 := Tryz.sizeOf5
  v5 := Tryz.zeroValue5
  t9 := Tryz.underlying9
  a9 := Tryz.isAgg9
  z9 := Tryz.sizeOf9
  v9 := Tryz.zeroValue9
  t22 := Tryz.underlying34
  a22 := Tryz.isAgg34
  z22 := Tryz.sizeOf34
  v22 := Tryz.zeroValue34
  t25 := Tryz.underlying54
  a25 := Tryz.isAgg54
  z25 := Tryz.sizeOf54
  v25 := Tryz.zeroValue54
  t39 := Tryz.underlying69
  a39 := Tryz.isAgg69
  z39 := Tryz.sizeOf69
  v39 := Tryz.zeroValue69
  t45 := Tryz.underlying117
  a45 := Tryz.isAgg117
  z45 := Tryz.sizeOf117
  v45 := Tryz.zeroValue117
  t46 := Tryz.underlying118
  a46 := Tryz.isAgg118
  z46 := Tryz.sizeOf118
  v46 := Tryz.zeroValue118
  t50 := Tryz.underlying46
  a50 := Tryz.isAgg46
  z50 := Tryz.sizeOf46
  v50 := Tryz.zeroValue46
  t53 := Tryz.underlying104
  a53 := Tryz.isAgg104
  z53 := Tryz.sizeOf104
  v53 := Tryz.zeroValue104
  t55 := Tryz.underlying95
  a55 := Tryz.isAgg95
  z55 := Tryz.sizeOf95
  v55 := Tryz.zeroValue95
  t66 := Tryz.underlying152
  a66 := Tryz.isAgg152
  z66 := Tryz.sizeOf152
  v66 := Tryz.zeroValue152
  t70 := Tryz.underlying156
  a70 := Tryz.isAgg156
  z70 := Tryz.sizeOf156
  v70 := Tryz.zeroValue156
  t76 := Tryz.underlying181
  a76 := Tryz.isAgg181
  z76 := Tryz.sizeOf181
  v76 := Tryz.zeroValue181
  t77 := Tryz.underlying67
  a77 := Tryz.isAgg67
  z77 := Tryz.sizeOf67
  v77 := Tryz.zeroValue67 }
end Go.Proofs.YtcnpekohkbjnnaaGreatDoor

/- The order of texts in plain. No condition. -/
set_option linter.unusedVariables false
namespace Go.Proofs.YtcnpekohkbjnnaaGreatDoor
open Go Vc Go.Proofs Go.Lib

theorem cmp_lt : ∀ a b : List UInt8, Lib.compareBytes a b < 0 ↔ a < b
  | [], [] => by simp [Lib.compareBytes]
  | [], _ :: _ => by simp [Lib.compareBytes]
  | _ :: _, [] => by simp [Lib.compareBytes]
  | a :: ra, b :: rb => by
    rw [Lib.compareBytes, List.cons_lt_cons_iff]
    by_cases h1 : a < b
    · rw [if_pos h1]; exact ⟨fun _ => .inl h1, fun _ => by decide⟩
    · rw [if_neg h1]
      by_cases h2 : b < a
      · rw [if_pos h2]
        refine ⟨fun h => absurd h (by decide), fun h => ?_⟩
        rcases h with h | ⟨h, _⟩
        · exact absurd h h1
        · rw [h] at h2; exact absurd h2 (by rw [UInt8.lt_iff_toNat_lt]; omega)
      · rw [if_neg h2, cmp_lt ra rb]
        have : a = b := UInt8.toNat_inj.1 (by rw [UInt8.lt_iff_toNat_lt] at h1 h2; omega)
        exact ⟨fun h => .inr ⟨this, h⟩, fun h => h.resolve_left h1 |>.2⟩
theorem cmp_zero : ∀ a b : List UInt8, Lib.compareBytes a b = 0 ↔ a = b
  | [], [] => by simp [Lib.compareBytes]
  | [], _ :: _ => by simp [Lib.compareBytes]
  | _ :: _, [] => by simp [Lib.compareBytes]
  | a :: ra, b :: rb => by
    rw [Lib.compareBytes]
    by_cases h1 : a < b
    · rw [if_pos h1]
      refine ⟨fun h => absurd h (by decide), fun h => ?_⟩
      cases h; exact absurd h1 (by rw [UInt8.lt_iff_toNat_lt]; omega)
    · rw [if_neg h1]
      by_cases h2 : b < a
      · rw [if_pos h2]
        refine ⟨fun h => absurd h (by decide), fun h => ?_⟩
        cases h; exact absurd h2 (by rw [UInt8.lt_iff_toNat_lt]; omega)
      · rw [if_neg h2, cmp_zero ra rb]
        have : a = b := UInt8.toNat_inj.1 (by rw [UInt8.lt_iff_toNat_lt] at h1 h2; omega)
        subst this
        simp
theorem lt_tri (a b : List UInt8) : a < b ∨ a = b ∨ b < a := by
  rcases Decidable.em (a < b) with h | h
  · exact .inl h
  · rcases Decidable.em (a = b) with h' | h'
    · exact .inr (.inl h')
    · exact .inr (.inr (Std.lt_of_le_of_ne (Std.not_lt.1 h) fun e => h' e.symm))
end Go.Proofs.YtcnpekohkbjnnaaGreatDoor

/- Structures of the kit over its shelf, at this seat (written by a program of the author's, laysn.py). No condition. -/
namespace Go.Proofs.YtcnpekohkbjnnaaGreatDoor
open Go Go.Shelf Go.Proofs
def lays106_ren : Go.Shelf.Ren := ⟨fun | 106 => 40 | 213 => 81 | 265 => 113 | n => n, fun | 3 => 3 | 9 => 9 | n => n, fun  | n => n⟩
theorem lays106 : Go.Proofs.Lays.n106 Tryz.prog lays106_ren := {
  mixed := by kernel_rfl,
  f106 := Tryz.func40.trans (congrArg some (by kernel_rfl)),
  f213 := Tryz.func81.trans (congrArg some (by kernel_rfl)),
  f265 := Tryz.func113.trans (congrArg some (by kernel_rfl)),
  t3 := Tryz.underlying3,
  a3 := Tryz.isAgg3,
  z3 := Tryz.sizeOf3,
  v3 := Tryz.zeroValue3,
  t9 := Tryz.underlying9,
  a9 := Tryz.isAgg9,
  z9 := Tryz.sizeOf9,
  v9 := Tryz.zeroValue9 }
end Go.Proofs.YtcnpekohkbjnnaaGreatDoor

/- strings.Compare. No condition. -/
set_option linter.unusedVariables false
namespace Go.Proofs.YtcnpekohkbjnnaaGreatDoor
open Go Vc Go.Proofs Go.Lib

theorem compare_spec (a b : ByteArray) (w : World) : Calls Tryz.prog F_strings_Compare #[.string a, .string b] w fun e w' => e = .returned (.int .i64 (Lib.compareBytes a.data.toList b.data.toList)) ∧ w' = w := Any.strings_Compare lays106 a b w
end Go.Proofs.YtcnpekohkbjnnaaGreatDoor

/- Formulas of 2 Go functions of this seat (written by a program of the author's, vcgen.py), and that each is enough for the call. No condition. -/
set_option linter.unusedVariables false
namespace Go.Proofs.YtcnpekohkbjnnaaGreatDoor
open Go Vc Go.Proofs
set_option maxRecDepth 100000
/-- slices.Clone[[]api.File,api.File] -/
def vc_slices_Clone (x0a : Option Addr) (x0n : Nat) (x0c : Nat) (w : World) (R : Value → World → Prop) : Prop :=
  (((Option.isNone x0a = true →
     R (Value.slice none 0 0) w)) ∧
   (Option.isNone x0a = false →
     ∀ w1 : World,
     (w1 = World.alloc w (Obj.cells (Array.mk []) 25) →
       ∃ w2 : World, ∃ l3 : Sl, (Sem.run Tryz.prog (Builtin.append_ (Array.mk [34, 34]) 34 (Array.mk [Value.slice (some (Addr.mk (Array.size (World.heap w)) 0 none)) 0 0, Value.slice x0a x0n x0c])) w1 = Result.ok (Value.slice l3.1 l3.2 l3.3) w2 ∧
        R (Value.slice l3.1 l3.2 l3.3) w2))))
theorem vc_slices_Clone_ok {x0a : Option Addr} {x0n : Nat} {x0c : Nat} {w : World} {R : Value → World → Prop} {R' : Ending → World → Prop} (h : vc_slices_Clone x0a x0n x0c w R) (hR : ∀ v w', R v w' → R' (.returned v) w') :
    Calls Tryz.prog 18 #[.slice x0a x0n x0c] w R' :=
  calls_of_body (vs := [(.slice x0a x0n x0c, false)]) (ty := ty) (ann := ⟨[], [], [], []⟩) (c := Tryz.f18.body.getD .skip) (by kernel_rfl) Tryz.func18 (by kernel_rfl) (by kernel_rfl) (Eq.mp (by kernel_rfl) h) hR
/-- slices.BinarySearchFunc[[]api.File,api.File,api.File]#byPath -/
def vc_slices_BinarySearchFunc_byPath (x0a : Option Addr) (x0n : Nat) (x0c : Nat) (x1_0 : ByteArray) (x1_1 : ByteArray) (w : World) (R : Value → World → Prop) : Prop :=
  ∀ w1 : World,
  (w1 = World.alloc w (Obj.cells (Array.mk [Value.string x1_0, Value.string x1_1]) 25) →
    ∃ I2 : Int → Int → World → Prop, ∃ I3 : Int → Int → World → Nat, (I2 0 (↑x0n : Int) w1 ∧
     ∀ n4 : Int,
     ∀ n5 : Int,
     ∀ w6 : World,
     (I2 n4 n5 w6 →
       (((decide (n4 < n5) = true →
          ((0 : Int) ≤ (1 : Int) ∧
           ∀ w7 : World,
           (Drew w6 w7 →
             ∃ I8 : World → Prop, (I8 w7 ∧
              ((0 ≤ IntKind.wrap IntKind.i64 (Int.fdiv (IntKind.wrap IntKind.u64 (IntKind.wrap IntKind.i64 (n4 + n5))) (2 ^ min (Int.toNat 1) 64)) ∧
                IntKind.wrap IntKind.i64 (Int.fdiv (IntKind.wrap IntKind.u64 (IntKind.wrap IntKind.i64 (n4 + n5))) (2 ^ min (Int.toNat 1) 64)) < (↑x0n : Int)) ∧
               ∃ a9 : Addr, (x0a = some a9 ∧
                ∃ s10 : ByteArray, ∃ s11 : ByteArray, ((∀ w12 : World,
                 (I8 w12 →
                   Sem.run Tryz.prog (loadVar 25 (Addr.add a9 (Int.toNat (IntKind.wrap IntKind.i64 (Int.fdiv (IntKind.wrap IntKind.u64 (IntKind.wrap IntKind.i64 (n4 + n5))) (2 ^ min (Int.toNat 1) 64))) * 2))) w12 = Result.ok (Value.agg (Array.mk [Value.string s10, Value.string s11])) w12)) ∧
                 ∃ s13 : ByteArray, ∃ s14 : ByteArray, ((∀ w15 : World,
                  (I8 w15 →
                    Sem.run Tryz.prog (loadVar 25 (Addr.mk (Array.size (World.heap w)) 0 none)) w15 = Result.ok (Value.agg (Array.mk [Value.string s13, Value.string s14])) w15)) ∧
                  Calls Tryz.prog (20 : FuncId) (Array.mk [Value.agg (Array.mk [Value.string s10, Value.string s11]), Value.agg (Array.mk [Value.string s13, Value.string s14])]) (w7) (fun e16 w17 =>
                    ∃ n18 : Int, (e16 = Ending.returned (Value.int IntKind.i64 n18) ∧
                     (I8 w17 ∧
                      (((decide (n18 < 0) = true →
                         (I2 (IntKind.wrap IntKind.i64 (IntKind.wrap IntKind.i64 (Int.fdiv (IntKind.wrap IntKind.u64 (IntKind.wrap IntKind.i64 (n4 + n5))) (2 ^ min (Int.toNat 1) 64)) + 1)) n5 w17 ∧
                          I3 (IntKind.wrap IntKind.i64 (IntKind.wrap IntKind.i64 (Int.fdiv (IntKind.wrap IntKind.u64 (IntKind.wrap IntKind.i64 (n4 + n5))) (2 ^ min (Int.toNat 1) 64)) + 1)) n5 w17 < I3 n4 n5 w6))) ∧
                       (decide (n18 < 0) = false →
                         (I2 n4 (IntKind.wrap IntKind.i64 (Int.fdiv (IntKind.wrap IntKind.u64 (IntKind.wrap IntKind.i64 (n4 + n5))) (2 ^ min (Int.toNat 1) 64))) w17 ∧
                          I3 n4 (IntKind.wrap IntKind.i64 (Int.fdiv (IntKind.wrap IntKind.u64 (IntKind.wrap IntKind.i64 (n4 + n5))) (2 ^ min (Int.toNat 1) 64))) w17 < I3 n4 n5 w6))))))))))))))) ∧
        (decide (n4 < n5) = false →
          ∀ w19 : World,
          (Drew w6 w19 →
            ∃ I20 : World → Prop, (I20 w19 ∧
             (((decide (n4 < (↑x0n : Int)) = true →
                ((0 ≤ n4 ∧
                  n4 < (↑x0n : Int)) ∧
                 ∃ a21 : Addr, (x0a = some a21 ∧
                  ∃ s22 : ByteArray, ∃ s23 : ByteArray, ((∀ w24 : World,
                   (I20 w24 →
                     Sem.run Tryz.prog (loadVar 25 (Addr.add a21 (Int.toNat n4 * 2))) w24 = Result.ok (Value.agg (Array.mk [Value.string s22, Value.string s23])) w24)) ∧
                   ∃ s25 : ByteArray, ∃ s26 : ByteArray, ((∀ w27 : World,
                    (I20 w27 →
                      Sem.run Tryz.prog (loadVar 25 (Addr.mk (Array.size (World.heap w)) 0 none)) w27 = Result.ok (Value.agg (Array.mk [Value.string s25, Value.string s26])) w27)) ∧
                    Calls Tryz.prog (20 : FuncId) (Array.mk [Value.agg (Array.mk [Value.string s22, Value.string s23]), Value.agg (Array.mk [Value.string s25, Value.string s26])]) (w19) (fun e28 w29 =>
                      ∃ n30 : Int, (e28 = Ending.returned (Value.int IntKind.i64 n30) ∧
                       (I20 w29 ∧
                        R (Value.tuple (Array.mk [Value.int IntKind.i64 n4, Value.bool (n30 == 0)])) w29))))))))) ∧
              (decide (n4 < (↑x0n : Int)) = false →
                (I20 w19 ∧
                 R (Value.tuple (Array.mk [Value.int IntKind.i64 n4, Value.bool false])) w19))))))))))
theorem vc_slices_BinarySearchFunc_byPath_ok {x0a : Option Addr} {x0n : Nat} {x0c : Nat} {x1_0 : ByteArray} {x1_1 : ByteArray} {w : World} {R : Value → World → Prop} {R' : Ending → World → Prop} (h : vc_slices_BinarySearchFunc_byPath x0a x0n x0c x1_0 x1_1 w R) (hR : ∀ v w', R v w' → R' (.returned v) w') :
    Calls Tryz.prog 44 #[.slice x0a x0n x0c, .agg #[.string x1_0, .string x1_1], .func (.func 20) #[] #[]] w R' :=
  calls_of_body (vs := [(.slice x0a x0n x0c, false), (.agg #[.string x1_0, .string x1_1], false), (.func (.func 20) #[] #[], false)]) (ty := ty) (ann := ⟨[], [(3, [(9, .int .i64), (10, .int .i64)])], [(5, .held [(0, true), (1, true), (2, true), (3, true), (4, true), (5, true), (6, false), (7, true)]), (8, .held [(0, true), (1, true), (2, true), (3, true), (4, true), (5, true), (6, true), (7, true), (8, true), (9, true), (10, true), (11, false), (12, true), (13, true), (14, true), (15, true)])], []⟩) (c := Tryz.f44.body.getD .skip) (by kernel_rfl) Tryz.func44 (by kernel_rfl) (by kernel_rfl) (Eq.mp (by kernel_rfl) h) hR
end Go.Proofs.YtcnpekohkbjnnaaGreatDoor

/- Folders: sort, clone, search, New, Under, Get. Conditions: as named. -/
set_option linter.unusedVariables false
namespace Go.Proofs.YtcnpekohkbjnnaaGreatDoor
open Go Vc Go.Proofs Go.Sort Go.Lib

def cmpF (x y : FileE) : Int := Lib.compareBytes x.path.data.toList y.path.data.toList
theorem byPath_spec (x y : FileE) (w : World) : Calls Tryz.prog F_snap_byPath #[.agg (encF x).toArray, .agg (encF y).toArray] w fun e w' => e = .returned (.int .i64 (cmpF x y)) ∧ ∃ q os', w' = grow (w.drewN q) os' := by
  refine vc_snap_byPath_ok (R := fun v w' => v = .int .i64 (cmpF x y) ∧ ∃ q os', w' = grow (w.drewN q) os') ?_ (fun v w' h => ⟨by rw [h.1], h.2⟩)
  intro w1 h1 w2 h2
  have hb1 : w1.heap[w.heap.size]? = some (.cells (encF x).toArray T_api_File (0, 0)) := by rw [h1]; exact alloc_new _ _
  have hb2 : w2.heap[w1.heap.size]? = some (.cells (encF y).toArray T_api_File (0, 0)) := by rw [h2]; exact alloc_new _ _
  have hb1' : w2.heap[w.heap.size]? = some (.cells (encF x).toArray T_api_File (0, 0)) := by rw [h2]; exact (Fr.alloc (fun _ => False) _ _).keep hb1 (by simp)
  refine ⟨x.path, by rw [cell_blk hb1']; rfl, y.path, by rw [cell_blk hb2]; rfl, (compare_spec _ _ w2).mono ?_⟩
  rintro e w6 ⟨rfl, rfl⟩
  refine ⟨_, rfl, rfl, 0, #[.cells (encF x).toArray T_api_File (0, 0), .cells (encF y).toArray T_api_File (0, 0)], ?_⟩
  rw [h2, h1, alloc_eq_grow, alloc_eq_grow, grow_grow]
  rfl
theorem ltF (x y : FileE) : ltOf cmpF x y = decide (x.path.data.toList < y.path.data.toList) := decide_eq_decide.2 (cmp_lt _ _)
theorem swoF : SWO (ltOf cmpF) where
  irrefl x := by rw [ltF, decide_eq_false_iff_not]; exact List.lt_irrefl _
  trans x y z h1 h2 := by
    rw [ltF, decide_eq_true_eq] at *
    exact List.lt_trans h1 h2
  ntrans x y z h1 h2 := by
    rw [ltF, decide_eq_false_iff_not] at *
    intro h
    rcases lt_tri x.path.data.toList y.path.data.toList with h3 | h3 | h3
    · exact h1 h3
    · rw [h3] at h; exact h2 h
    · exact h2 (List.lt_trans h3 h)
/-- 'slices.SortFunc' of files by their paths. -/
theorem sort_spec {w : World} {base : Nat} {e : TypeId} {l : Sl} {xs : List FileE} {g : Nat} (h : OwnK encF 2 w base e l xs) (ha : l.a = some ⟨g, 0, none⟩) (hsz : xs.length ≤ 1000000) :
    Calls Tryz.prog 19 #[.slice l.a l.len l.cap, .func (.func F_snap_byPath) #[] #[]] w fun r w' =>
      r = .returned (.tuple #[]) ∧ ∃ ys : List FileE, ys.Perm xs ∧ (ys.Pairwise fun x y => ¬ y.path.data.toList < x.path.data.toList) ∧ OwnK encF 2 w' base e l ys ∧ Fr (At l) w w' := by
  obtain ⟨cur, hg, _⟩ := own_row h ha
  have hc := AnyQ.slices_SortFunc sortLays 2 Tryz.isAgg25 Tryz.sizeOf25 encF (fun _ => rfl) (fun x v hv => by
    simp only [encF, List.mem_cons, List.mem_nil_iff, or_false] at hv
    rcases hv with rfl | rfl <;> rfl) cmpF swoF F_snap_byPath #[] g 0 l.cap xs.toArray w (enters_of (P := Tryz.prog) Tryz.func20 (by kernel_rfl) rfl)
    (fun m os dk _ x y => byPath_spec x y _) (own_holds (fun _ => rfl) (by decide) h ha) (lt_blk hg) (by rw [List.size_toArray]; omega)
  have hl : l.len = xs.length := h.1.symm
  rw [ha, hl]
  rw [List.size_toArray] at hc
  refine hc.mono ?_
  rintro r w' ⟨rfl, d', n, os, ⟨p1, _, p3⟩, p4, rfl⟩
  have p1 : d'.size = xs.length := by simpa using p1
  refine ⟨rfl, d'.toList, ?_, ?_, ?_, ?_⟩
  · have e1 : (d'.extract 0 xs.length).toList = d'.toList := by rw [← p1]; simp
    have e2 : (xs.toArray.extract 0 xs.length).toList = xs := by simp
    rw [e1, e2] at p3
    exact p3
  · rw [List.pairwise_iff_getElem]
    intro i j hi hj hij
    have := p4 i j (Nat.zero_le _) hij (by rw [Array.length_toList] at hj; omega)
    rw [Array.length_toList] at hi hj
    rw [getElem!_pos d' i hi, getElem!_pos d' j hj, ltF, decide_eq_false_iff_not] at this
    simpa using this
  · have := own_sorted (enc := encF) (k := 2) (fun _ => rfl) (by decide) h ha n d'.toList (by rw [Array.length_toList, p1]) os
    simpa using this
  · have := sort_fr (enc := encF) (k := 2) (w := w) (g := g) n d'.toList os
    exact (by simpa using this : Fr (· = g) w (sortWorldK encF 2 w g 0 n d' os)).mono fun q _ e => ⟨_, ha, e⟩
end Go.Proofs.YtcnpekohkbjnnaaGreatDoor
namespace Go.Proofs.YtcnpekohkbjnnaaGreatDoor
open Go Vc Go.Proofs

theorem grow_fr (w : World) (q : Nat) (os : Array Obj) : Fr (fun _ => False) w (Sort.grow (w.drewN q) os) :=
  ⟨rfl, rfl, rfl, by simp [Sort.grow, World.drewN], fun k hk _ => by
    have hk' : k < (w.drewN q).heap.size := hk
    exact Sort.heap_grow_old _ _ hk'⟩
theorem byPath_fr (x y : FileE) (w : World) : Calls Tryz.prog F_snap_byPath #[.agg (encF x).toArray, .agg (encF y).toArray] w fun e w' => e = .returned (.int .i64 (cmpF x y)) ∧ Fr (fun _ => False) w w' :=
  (byPath_spec x y w).mono fun e w' ⟨h, q, os, h2⟩ => ⟨h, by rw [h2]; exact grow_fr _ _ _⟩
/-- 'slices.Clone'. -/
theorem clone_spec {w : World} {a : Option Addr} {n c : Nat} {xs : List FileE} (hr : ReadsK encF 2 w a xs) (hn : xs.length = n) (hl : n ≤ 1000000) : Calls Tryz.prog F_slices_Clone #[.slice a n c] w fun e w' =>
    ∃ l, e = .returned (.slice l.a l.len l.cap) ∧ OwnK encF 2 w' w.heap.size T_api_File l xs ∧ Fr (fun _ => False) w w' := by
  refine vc_slices_Clone_ok (R := fun v w' => ∃ l : Sl, v = .slice l.a l.len l.cap ∧ OwnK encF 2 w' w.heap.size T_api_File l xs ∧ Fr (fun _ => False) w w') ?_ (fun v w' ⟨l, h⟩ => ⟨l, by rw [h.1], h.2⟩)
  refine ⟨fun ha => ?_, fun ha w1 h1 => ?_⟩
  · have ha : a = none := by simpa using ha
    have hx : xs = [] := by
      cases xs with
      | nil => rfl
      | cons x r =>
        obtain ⟨ad, h, _⟩ := hr 0 x rfl
        rw [ha] at h; cases h
    subst hx
    exact ⟨⟨none, 0, 0⟩, rfl, .nil _ _ _, .refl _ _⟩
  · have hf1 : Fr (fun _ => False) w w1 := by rw [h1]; exact .alloc _ _ _
    have ho1 : OwnK encF 2 w1 w.heap.size T_api_File ⟨some ⟨w.heap.size, 0, none⟩, 0, 0⟩ [] := by rw [h1]; exact .empty w T_api_File
    obtain ⟨w2, l3, hr2, ho2, hf2⟩ := append_allK elF ho1 c (hr.keep hf1 (by simp)) (by simp [maxLen]; omega) (by simp; omega) hf1.size hn
    exact ⟨w2, l3, hr2, l3, rfl, ho2, hf1.trans hf2 fun q hq ⟨y, hy, e⟩ => by cases hy; simp only at e; omega⟩
/-- Rising by their paths. -/
def Rising (xs : List FileE) : Prop := xs.Pairwise fun x y => ¬ y.path.data.toList < x.path.data.toList
theorem rising_lt {xs : List FileE} (h : Rising xs) {i j : Nat} {x y : FileE} (hx : xs[i]? = some x) (hy : xs[j]? = some y) (hij : i ≤ j) {p : List UInt8} (hp : y.path.data.toList < p) : x.path.data.toList < p := by
  by_cases he : i = j
  · subst he; rw [hx] at hy; cases hy; exact hp
  · have := (List.pairwise_iff_getElem.1 h) i j (List.getElem?_eq_some_iff.1 hx).1 (List.getElem?_eq_some_iff.1 hy).1 (by omega)
    rw [(List.getElem?_eq_some_iff.1 hx).2, (List.getElem?_eq_some_iff.1 hy).2] at this
    rcases lt_tri x.path.data.toList y.path.data.toList with h3 | h3 | h3
    · exact List.lt_trans h3 hp
    · rw [h3]; exact hp
    · exact absurd h3 this
/-- 'slices.BinarySearchFunc'. -/
theorem search_spec {w : World} {a : Option Addr} {n c : Nat} {xs : List FileE} (hr : ReadsK encF 2 w a xs) (hn : xs.length = n) (hl : n ≤ 1000000) (hs : Rising xs) (t : FileE) :
    Calls Tryz.prog F_slices_BinarySearchFunc #[.slice a n c, .agg #[.string t.path, .string t.data], .func (.func F_snap_byPath) #[] #[]] w fun e w' =>
      ∃ i : Nat, i ≤ n ∧ e = .returned (.tuple #[.int .i64 i, .bool (match xs[i]? with | some x => decide (x.path = t.path) | none => false)]) ∧ (∀ k x, xs[k]? = some x → (x.path.data.toList < t.path.data.toList ↔ k < i)) ∧ Fr (fun _ => False) w w' := by
  refine vc_slices_BinarySearchFunc_byPath_ok (R := fun v w' => ∃ i : Nat, i ≤ n ∧ v = .tuple #[.int .i64 i, .bool (match xs[i]? with | some x => decide (x.path = t.path) | none => false)] ∧ (∀ k x, xs[k]? = some x → (x.path.data.toList < t.path.data.toList ↔ k < i)) ∧ Fr (fun _ => False) w w') ?_ (fun v w' ⟨i, h0, h, h2⟩ => ⟨i, h0, by rw [h], h2⟩)
  intro w1 h1
  have hf1 : Fr (fun _ => False) w w1 := by rw [h1]; exact .alloc _ _ _
  have hb1 : w1.heap[w.heap.size]? = some (.cells (encF t).toArray T_api_File (0, 0)) := by rw [h1]; exact alloc_new _ _
  clear h1
  have lt : ∀ w', Fr (fun _ => False) w1 w' → (loadVar T_api_File ⟨w.heap.size, 0, none⟩).run Tryz.prog w' = .ok (.agg #[.string t.path, .string t.data]) w' := fun w' hf =>
    load_agg (vs := encF t) (agg_of (by kernel_rfl)) (by kernel_rfl) fun k v hv => by rw [add_lit, Nat.zero_add, cell_blk (hf.keep hb1 (by simp))]; simpa [encF] using hv
  refine ⟨fun i j w' => ∃ p q : Nat, i = p ∧ j = q ∧ p ≤ q ∧ q ≤ n ∧ (∀ k x, xs[k]? = some x → k < p → x.path.data.toList < t.path.data.toList) ∧ (∀ k x, xs[k]? = some x → q ≤ k → ¬ x.path.data.toList < t.path.data.toList) ∧ Fr (fun _ => False) w1 w', fun i j _ => j.toNat - i.toNat,
    ⟨0, n, rfl, rfl, Nat.zero_le _, Nat.le_refl _, fun k x _ h => by omega, fun k x hx h => by have := (List.getElem?_eq_some_iff.1 hx).1; omega, .refl _ _⟩, ?_⟩
  rintro i j w6 ⟨p, q, rfl, rfl, hpq, hqn, hlo, hhi, hf⟩
  refine ⟨fun hlt => ⟨by decide, fun w7 d7 => ⟨fun w' => Fr (fun _ => False) w1 w', hf.trans' (.drew _ d7), ?_⟩⟩, fun hge w19 d19 => ⟨fun w' => Fr (fun _ => False) w1 w', hf.trans' (.drew _ d19), ?_⟩⟩
  · have hlt := of_decide_eq_true hlt
    have hf7 : Fr (fun _ => False) w1 w7 := hf.trans' (.drew _ d7)
    have e1 : IntKind.i64.wrap (Int.fdiv (IntKind.u64.wrap (IntKind.i64.wrap ((p : Int) + (q : Int)))) (2 ^ min (Int.toNat 1) 64)) = (((p + q) / 2 : Nat) : Int) := by
      rw [wrap_i64 (x := (p : Int) + (q : Int)) (by omega) (by omega), wrap_u64 (by omega) (by omega), show (2 : Int) ^ min (Int.toNat 1) 64 = 2 by decide, Int.fdiv_eq_ediv_of_nonneg _ (by omega), wrap_i64 (by omega) (by omega)]
      omega
    have hm : (p + q) / 2 < xs.length := by omega
    obtain ⟨m, hme⟩ : ∃ m, (p + q) / 2 = m := ⟨_, rfl⟩
    have e2 : IntKind.i64.wrap ((m : Int) + 1) = ((m + 1 : Nat) : Int) := by rw [wrap_i64 (by omega) (by omega)]; omega
    rw [hme] at e1 hm
    rw [e1, e2]
    have hx : xs[m]? = some xs[m] := List.getElem?_eq_getElem hm
    generalize xs[m] = x at hx
    obtain ⟨ad, had, _⟩ := hr.load elF hx
    refine ⟨⟨by omega, by omega⟩, ad, had, x.path, x.data, fun w' hw' => ?_, t.path, t.data, fun w' hw' => lt w' hw', (byPath_fr x t w7).mono ?_⟩
    · obtain ⟨b, hb, hld⟩ := (hr.keep (hf1.trans' hw') (by simp)).load elF hx
      rw [had] at hb; cases hb
      rw [Int.toNat_natCast]; exact hld
    · rintro e w17 ⟨rfl, hf17⟩
      have hf17' := hf7.trans' hf17
      refine ⟨_, rfl, hf17', fun hc => ⟨⟨m + 1, q, rfl, rfl, by omega, hqn, fun k y hy hk => ?_, hhi, hf17'⟩, by dsimp only; omega⟩, fun hc => ⟨⟨p, m, rfl, rfl, by omega, by omega, hlo, fun k y hy hk hlt' => ?_, hf17'⟩, by dsimp only; omega⟩⟩
      · exact rising_lt hs hy hx (by omega) ((cmp_lt _ _).1 (of_decide_eq_true hc))
      · exact of_decide_eq_false hc ((cmp_lt _ _).2 (rising_lt hs hx hy hk hlt'))
  · have hge := of_decide_eq_false hge
    have hpq' : p = q := by omega
    subst hpq'
    have hf19 : Fr (fun _ => False) w1 w19 := hf.trans' (.drew _ d19)
    have hiff : ∀ k x, xs[k]? = some x → (x.path.data.toList < t.path.data.toList ↔ k < p) := fun k x hx => ⟨fun h => by
      by_cases hk : k < p
      · exact hk
      · exact absurd h (hhi k x hx (by omega)), hlo k x hx⟩
    refine ⟨fun hlt => ?_, fun hlt => ⟨hf19, p, hqn, ?_, hiff, hf1.trans' hf19⟩⟩
    · have hlt := of_decide_eq_true hlt
      have hm : p < xs.length := by omega
      have hx : xs[p]? = some xs[p] := List.getElem?_eq_getElem hm
      generalize xs[p] = x at hx
      obtain ⟨ad, had, _⟩ := hr.load elF hx
      refine ⟨⟨by omega, by omega⟩, ad, had, x.path, x.data, fun w' hw' => ?_, t.path, t.data, fun w' hw' => lt w' hw', (byPath_fr x t w19).mono ?_⟩
      · obtain ⟨b, hb, hld⟩ := (hr.keep (hf1.trans' hw') (by simp)).load elF hx
        rw [had] at hb; cases hb
        rw [Int.toNat_natCast]; exact hld
      · rintro e w29 ⟨rfl, hf29⟩
        have hf29' := hf19.trans' hf29
        refine ⟨_, rfl, hf29', p, hqn, ?_, hiff, hf1.trans' hf29'⟩
        rw [hx]
        have : (cmpF x t == 0) = decide (x.path = t.path) := by
          rw [Bool.eq_iff_iff, beq_iff_eq, decide_eq_true_eq]
          exact (cmp_zero _ _).trans ⟨fun h => bs_ext h, fun h => by rw [h]⟩
        rw [this]
    · have hlt := of_decide_eq_false hlt
      rw [List.getElem?_eq_none (by omega)]
end Go.Proofs.YtcnpekohkbjnnaaGreatDoor
namespace Go.Proofs.YtcnpekohkbjnnaaGreatDoor
open Go Vc Go.Proofs

def underE (xs : List FileE) (front : ByteArray) : List ByteArray := (xs.filter fun x => begB x.path front).map (·.path)
/-- A folder of files that stands still. -/
structure IsSnap (w : World) (b : Nat) (l : Sl) (xs : List FileE) (size : Int) : Prop where
  files : w.cell? ⟨b, 0, none⟩ = some (.slice l.a l.len l.cap)
  size : w.cell? ⟨b, 1, none⟩ = some (.int .i64 size)
  len : xs.length = l.len
  reads : ReadsK encF 2 w l.a xs
  small : xs.length ≤ 1000000
theorem IsSnap.keep {w w1 : World} {b : Nat} {l : Sl} {xs : List FileE} {size : Int} (h : IsSnap w b l xs size) (hf : Fr (fun _ => False) w w1) : IsSnap w1 b l xs size :=
  ⟨hf.cell h.files (by simp), hf.cell h.size (by simp), h.len, h.reads.keep hf (by simp), h.small⟩
theorem under_spec {w : World} {b : Nat} {l : Sl} {xs : List FileE} {size : Int} (h : IsSnap w b l xs size) (hs : Rising xs) (front : ByteArray) : Calls Tryz.prog F_snap_Snap_Under #[.pointer (some ⟨b, 0, none⟩), .string front] w fun e w' =>
    ∃ o, e = .returned (.slice o.a o.len o.cap) ∧ Vc.Own w' w.heap.size T_string o (strV (underE xs front)) ∧ Fr (fun _ => False) w w' := by
  refine vc_snap_Snap_Under_ok (R := fun v w' => ∃ o : Sl, v = .slice o.a o.len o.cap ∧ Vc.Own w' w.heap.size T_string o (strV (underE xs front)) ∧ Fr (fun _ => False) w w') ?_ (fun v w' ⟨o, h⟩ => ⟨o, by rw [h.1], h.2⟩)
  have hsm := h.small
  have hlen := h.len
  refine ⟨l, h.files, (search_spec h.reads h.len (by omega) hs ⟨front, ⟨#[]⟩⟩).mono ?_⟩
  rintro e w3 ⟨i, hin, rfl, hiff, hf3⟩
  refine ⟨_, _, rfl, fun o j w' => ∃ m : Nat, j = m ∧ i ≤ m ∧ m ≤ xs.length ∧ (∀ k x, xs[k]? = some x → i ≤ k → k < m → begB x.path front = true) ∧ Vc.Own w' w.heap.size T_string o (strV (((xs.take m).drop i).map (·.path))) ∧ Fr (fun _ => False) w w', fun _ j _ => xs.length - j.toNat,
    ⟨i, rfl, Nat.le_refl _, by omega, fun k x _ h1 h2 => by omega, by rw [List.drop_eq_nil_of_le (by rw [List.length_take]; omega)]; exact Vc.Own.nil _ _ _, hf3⟩, ?_⟩
  rintro o j w10 ⟨m, rfl, him, hm, hall, ho, hf⟩
  have hk := h.keep hf
  have e1 : IntKind.i64.wrap ((m : Int) + 1) = ((m + 1 : Nat) : Int) := by rw [wrap_i64 (by omega) (by omega)]; omega
  rw [e1]
  have hlow : ∀ k x, xs[k]? = some x → k < i → begB x.path front = false := fun k x hx hki => by
    have := (hiff k x hx).2 hki
    refine decide_eq_false fun hp => pre_le _ _ hp this
  have fin : (∀ k x, xs[k]? = some x → m ≤ k → begB x.path front = false) → Vc.Own w10 w.heap.size T_string o (strV (underE xs front)) := fun h3 => by
    unfold underE
    rw [filter_mid (fun x => begB x.path front) xs him hlow hall h3]
    exact ho
  refine ⟨l, hk.files, fun hlt => ⟨l, hk.files, ?_⟩, fun hge => ⟨o, rfl, fin fun k x hx hmk => ?_, hf⟩⟩
  · have hlt := of_decide_eq_true hlt
    have hml : m < xs.length := by omega
    have hx : xs[m]? = some xs[m] := List.getElem?_eq_getElem hml
    generalize xs[m] = x at hx
    obtain ⟨ad, had, hc⟩ := hk.reads m x hx
    have hc0 : w10.cell? (ad.add (m * 2)) = some (.string x.path) := by
      have := hc 0 (.string x.path) rfl
      rw [add_add] at this; simpa using this
    refine ⟨⟨by omega, by omega⟩, ad, had, x.path, by rw [Int.toNat_natCast]; exact hc0, (hasPrefix_spec x.path front w10).mono ?_⟩
    rintro e w16 ⟨rfl, hw⟩
    replace hw := hw.symm
    subst hw
    refine ⟨_, rfl, fun hb => ⟨l, hk.files, ⟨by omega, by omega⟩, ad, had, x.path, by rw [Int.toNat_natCast]; exact hc0, fun w21 h21 => ?_⟩, fun hb => ⟨o, rfl, fin fun k y hy hmk => ?_, hf⟩⟩
    · have hol : (((xs.take m).drop i).map (·.path)).length ≤ 1000000 := by rw [List.length_map, List.length_drop, List.length_take]; omega
      obtain ⟨w22, o23, hr22, ho22, hf22, _⟩ := append_one' elString ho (v := .string x.path) rfl (by simp only [strV, List.length_map, maxLen] at hol ⊢; omega) (by simp only [strV, List.length_map] at hol ⊢; omega) hf.size h21
      refine ⟨w22, o23, hr22, ⟨m + 1, rfl, by omega, by omega, fun k y hy h1 h2 => ?_, ?_, hf.trans hf22 fun q hq ⟨z, hz, e⟩ => by have := (ho.blk hz).1; omega⟩, by dsimp only; omega⟩
      · by_cases hkm : k = m
        · subst hkm; rw [hx] at hy; cases hy; exact hb
        · exact hall k y hy h1 (by omega)
      · have : (xs.take (m + 1)).drop i = (xs.take m).drop i ++ [x] := by
          rw [List.take_add_one, hx, Option.toList, List.drop_append_of_le_length (by rw [List.length_take]; omega)]
        rw [this]
        simpa [strV] using ho22
    · by_cases hkm : k = m
      · subst hkm; rw [hx] at hy; cases hy; exact hb
      · refine decide_eq_false fun hp => ?_
        have hge1 : ¬ x.path.data.toList < front.data.toList := fun hl => by have := (hiff m x hx).1 hl; omega
        have hge2 : ¬ y.path.data.toList < x.path.data.toList := by
          have := (List.pairwise_iff_getElem.1 hs) m k hml (List.getElem?_eq_some_iff.1 hy).1 (by omega)
          rw [(List.getElem?_eq_some_iff.1 hx).2, (List.getElem?_eq_some_iff.1 hy).2] at this
          exact this
        have := pre_between _ _ _ hge1 hge2 hp
        rw [begB, decide_eq_false_iff_not] at hb
        exact hb this
  · have hge := of_decide_eq_false hge
    have := (List.getElem?_eq_some_iff.1 hx).1
    omega
end Go.Proofs.YtcnpekohkbjnnaaGreatDoor
namespace Go.Proofs.YtcnpekohkbjnnaaGreatDoor
open Go Vc Go.Proofs

def okF (ys : List FileE) (i : Nat) : Prop := ∀ x, ys[i]? = some x → cleanB x.path = true ∧ ∀ y, 0 < i → ys[i - 1]? = some y → y.path ≠ x.path
def NewOK (ys : List FileE) : Prop := (∀ i, okF ys i) ∧ ∀ x ∈ ys, underE ys (x.path ++ ⟨#[47]⟩) = []
/-- What New hands back. -/
def NewR (w : World) (xs : List FileE) (v : Value) (w' : World) : Prop := Fr (fun _ => False) w w' ∧
  ((v = .tuple #[.pointer none, .int .i64 2] ∧ (2000 < xs.length ∨ 4194304 < totalF xs)) ∨
   (xs.length ≤ 2000 ∧ totalF xs ≤ 4194304 ∧ ∃ ys : List FileE, ys.Perm xs ∧ Rising ys ∧
     ((¬ NewOK ys ∧ v = .tuple #[.pointer none, .int .i64 4]) ∨ (NewOK ys ∧ ∃ b l, v = .tuple #[.pointer (some ⟨b, 0, none⟩), .int .i64 0] ∧ (w.heap.size ≤ b ∧ ∀ x, l.a = some x → w.heap.size ≤ x.block) ∧ IsSnap w' b l ys (totalF xs)))))
theorem new_spec {w : World} {a : Option Addr} {n c : Nat} {xs : List FileE} (hr : ReadsK encF 2 w a xs) (hn : xs.length = n) (hl : n ≤ 1000000) (ht : totalF xs ≤ 4611686018427387904) (hp : ∀ x ∈ xs, x.path.size ≤ 140737488355328)
    (hnil : ∀ W, Calls Tryz.prog 19 #[.slice none 0 0, .func (.func F_snap_byPath) #[] #[]] W fun e w' => e = .returned (.tuple #[]) ∧ w' = W) :
    Calls Tryz.prog F_snap_New #[.slice a n c] w fun e w' => ∃ v, e = .returned v ∧ NewR w xs v w' := by
  refine vc_snap_New_ok (R := NewR w xs) ?_ (fun v w' h => ⟨v, rfl, h⟩)
  refine (clone_spec hr hn hl).mono ?_
  rintro e w2 ⟨l3, rfl, ho2, hf2⟩
  refine ⟨l3, rfl, fun w4 h4 => ?_⟩
  have hb4 : w4.heap[w2.heap.size]? = some (.cells #[.slice l3.a l3.len l3.cap, .int .i64 0] T_snap_Snap (0, 0)) := by rw [h4]; exact alloc_new _ _
  have hf4 : Fr (fun _ => False) w2 w4 := by rw [h4]; exact .alloc _ _ _
  clear h4
  have hsz := hf2.size
  have hf4' := hf2.trans' hf4
  have hsb : ∀ {q : Nat}, q < w.heap.size → q ≠ w2.heap.size := fun h => by omega
  refine ⟨fun i w' => ∃ k : Nat, i = k ∧ k ≤ n ∧ w'.cell? ⟨w2.heap.size, 0, none⟩ = some (.slice l3.a l3.len l3.cap) ∧ w'.cell? ⟨w2.heap.size, 1, none⟩ = some (.int .i64 (totalF (xs.take k) : Nat)) ∧ w'.frozen? ⟨w2.heap.size, 1, none⟩ = false ∧ Fr (· = w2.heap.size) w4 w',
    fun i _ => n - i.toNat, ⟨0, rfl, Nat.zero_le _, by rw [cell_blk hb4]; rfl, by rw [cell_blk hb4]; rfl, frozen_blk hb4 1, .refl _ _⟩, ?_⟩
  rintro i w8 ⟨k, rfl, hk, c0, c1, cz, hf8⟩
  have e1 : IntKind.i64.wrap ((k : Int) + 1) = ((k + 1 : Nat) : Int) := by rw [wrap_i64 (by omega) (by omega)]; omega
  rw [e1]
  have hf8' : Fr (fun _ => False) w w8 := hf4'.trans hf8 fun q hq e => hsb hq e
  refine ⟨fun hlt => ?_, fun hge => ?_⟩
  · have hlt := of_decide_eq_true hlt
    have hkl : k < xs.length := by omega
    have hx : xs[k]? = some xs[k] := List.getElem?_eq_getElem hkl
    generalize xs[k] = x at hx
    obtain ⟨ad, had, hload⟩ := (hr.keep hf8' (by simp)).load elF hx
    refine ⟨⟨by omega, by omega⟩, ad, had, x.path, x.data, by rw [Int.toNat_natCast]; exact hload, fun w12 h12 => ?_⟩
    subst h12
    refine ⟨_, boxF_run w8 x, fun w14 d14 => ?_⟩
    have hfa : Fr (fun _ => False) w8 w14 := (Fr.alloc (fun _ => False) w8 (.cells (encF x).toArray T_api_File)).trans' (.drew _ d14)
    have hbx : w14.cell? ⟨w8.heap.size, 1, none⟩ = some (.string x.data) := boxF_cell w8 x (.drew (fun _ => False) d14) (by simp) rfl
    have hlt2 := World.block_lt_of_cell? _ _ c0
    simp only at hlt2
    have cz14 : w14.frozen? ⟨w2.heap.size, 1, none⟩ = false := (World.frozen?_of_block (hfa.blk _ hlt2 (by simp))).trans cz
    have c114 := hfa.cell c1 (by simp)
    have htot := totalF_take hx
    have hle := totalF_le xs (k + 1)
    refine ⟨_, c114, x.data, hbx, ⟨⟨_, c114⟩, cz14⟩, fun w17 h17 => ⟨⟨k + 1, rfl, by omega, ?_, ?_, ?_, ?_⟩, by dsimp only; omega⟩⟩
    · rw [h17, World.cell?_setCell_other _ _ _ _ (by simp)]; exact hfa.cell c0 (by simp)
    · rw [h17, World.cell?_setCell_same' _ _ _ (by rw [c114]; rfl), htot, wrap_i64 (by omega) (by omega)]; simp
    · rw [h17, World.frozen?_setCell]; exact cz14
    · rw [h17]
      exact (hf8.trans hfa fun q hq h => h.elim).trans' (.set _ _ _ rfl)
  have hge := of_decide_eq_false hge
  have hk' : k = n := by omega
  rw [hk', ← hn, List.take_of_length_le (Nat.le_refl _)] at c1
  refine ⟨fun hb => ⟨hf8', .inl ⟨rfl, .inl (by have := of_decide_eq_true hb; omega)⟩⟩, fun hb => ⟨_, c1, fun hb2 => ⟨hf8', .inl ⟨rfl, .inr (by have := of_decide_eq_true hb2; omega)⟩⟩, fun hb2 => ⟨l3, c0, ?_⟩⟩⟩
  have hb := of_decide_eq_false hb
  have hb2 := of_decide_eq_false hb2
  have ho8 : OwnK encF 2 w8 w.heap.size T_api_File l3 xs := (ho2.keep hf4 (by simp)).keep hf8 fun y hy e => by have := (ho2.blk hy).2; omega
  have hsort : Calls Tryz.prog 19 #[.slice l3.a l3.len l3.cap, .func (.func F_snap_byPath) #[] #[]] w8 fun r w' => r = .returned (.tuple #[]) ∧ ∃ ys : List FileE, ys.Perm xs ∧ Rising ys ∧ OwnK encF 2 w' w.heap.size T_api_File l3 ys ∧ Fr (At l3) w8 w' := by
    rcases ho8.2.2 with ⟨hv, hz⟩ | ⟨g, cap, cur, hv, _⟩
    · simp only [Value.slice.injEq] at hv
      have hx0 : xs = [] := List.length_eq_zero_iff.1 (by have := ho8.1; omega)
      have ho8' := ho8
      rw [hv.1, hv.2.1, hv.2.2]
      refine (hnil w8).mono ?_
      rintro e w' ⟨rfl, rfl⟩
      exact ⟨rfl, xs, .refl _, by rw [hx0]; exact .nil, ho8', .refl _ _⟩
    · simp only [Value.slice.injEq] at hv
      exact sort_spec ho8 hv.1 (by omega)
  refine hsort.mono ?_
  rintro e w21 ⟨rfl, ys, hperm, hris, ho21, hf21⟩
  have hlen : ys.length = l3.len := ho21.1
  have hyl : ys.length = xs.length := hperm.length_eq
  have hne : ¬ At l3 w2.heap.size := fun ⟨y, hy, e⟩ => by have := (ho2.blk hy).2; omega
  have hat : ∀ {q : Nat}, q < w.heap.size → ¬ At l3 q := fun hq ⟨y, hy, e⟩ => by have := (ho2.blk hy).1; omega
  have hf21' : Fr (fun _ => False) w w21 := hf8'.trans hf21 fun q hq h => hat hq h
  have hS : IsSnap w21 w2.heap.size l3 ys (totalF xs) := ⟨hf21.cell c0 hne, hf21.cell c1 hne, hlen, ho21.reads fun _ => rfl, by omega⟩
  have bad : ∀ {w' : World}, Fr (fun _ => False) w21 w' → ¬ NewOK ys → NewR w xs (.tuple #[.pointer none, .int .i64 4]) w' := fun hf h => ⟨hf21'.trans' hf, .inr ⟨by omega, by omega, ys, hperm, hris, .inl ⟨h, rfl⟩⟩⟩
  refine ⟨rfl, l3, hS.files, fun i w' => ∃ k : Nat, i = k ∧ k ≤ ys.length ∧ (∀ j, j < k → okF ys j) ∧ Fr (fun _ => False) w21 w', fun i _ => ys.length - i.toNat, ⟨0, rfl, Nat.zero_le _, fun j hj => by omega, .refl _ _⟩, ?_⟩
  rintro i w26 ⟨k, rfl, hk, hall, hf26⟩
  have e1 : IntKind.i64.wrap ((k : Int) + 1) = ((k + 1 : Nat) : Int) := by rw [wrap_i64 (by omega) (by omega)]; omega
  rw [e1]
  refine ⟨fun hlt => ?_, fun hge => ?_⟩
  · have hlt := of_decide_eq_true hlt
    have hkl : k < ys.length := by omega
    have hx : ys[k]? = some ys[k] := List.getElem?_eq_getElem hkl
    generalize ys[k] = x at hx
    have hxs : x.path.size ≤ 140737488355328 := hp x (hperm.subset (List.mem_of_getElem? hx))
    obtain ⟨ad, had, hload⟩ := (hS.keep hf26).reads.load elF hx
    refine ⟨⟨by omega, by omega⟩, ad, had, x.path, x.data, by rw [Int.toNat_natCast]; exact hload, fun w30 h30 => ?_⟩
    subst h30
    refine ⟨_, boxF_run w26 x, fun w32 d32 => ?_⟩
    have hfa : Fr (fun _ => False) w26 w32 := (Fr.alloc (fun _ => False) w26 (.cells (encF x).toArray T_api_File)).trans' (.drew _ d32)
    have hbx : w32.cell? ⟨w26.heap.size, 0, none⟩ = some (.string x.path) := boxF_cell w26 x (.drew (fun _ => False) d32) (by simp) rfl
    have hf32 := hf26.trans' hfa
    refine ⟨fun w' => Fr (fun _ => False) w32 w', .refl _ _, x.path, fun w' hw' => hw'.cell hbx (by simp), (clean_spec x.path hxs w32).mono ?_⟩
    rintro e w37 ⟨rfl, hf37⟩
    have hf37' := hf32.trans' hf37
    refine ⟨_, rfl, hf37, fun hb => bad hf37' fun h => ?_, fun hb => ⟨fun h0 => ?_, fun h0 => ?_⟩⟩
    · have := (h.1 k x hx).1
      rw [this] at hb; cases hb
    · have hb : cleanB x.path = true := by simpa using hb
      have h0 := of_decide_eq_true h0
      have e2 : IntKind.i64.wrap ((k : Int) - 1) = ((k - 1 : Nat) : Int) := by rw [wrap_i64 (by omega) (by omega)]; omega
      rw [e2]
      have hy : ys[k - 1]? = some ys[k - 1] := List.getElem?_eq_getElem (by omega)
      generalize ys[k - 1] = y at hy
      obtain ⟨ad', had', _⟩ := hS.reads.load elF hy
      refine ⟨l3, fun w' hw' => (hS.keep (hf32.trans' hw')).files, ⟨by omega, by omega⟩, ad', had', y.path, fun w' hw' => ?_, x.path, fun w' hw' => hw'.cell hbx (by simp), fun he => bad hf37' fun h => ?_, fun he => ⟨⟨k + 1, rfl, by omega, fun j hj => ?_, hf37'⟩, by dsimp only; omega⟩⟩
      · obtain ⟨b, hb', hc⟩ := (hS.keep (hf32.trans' hw')).reads (k - 1) y hy
        rw [had'] at hb'; cases hb'
        have := hc 0 (.string y.path) rfl
        rw [add_add] at this
        rw [Int.toNat_natCast]; simpa using this
      · rw [bs_eq] at he
        exact (h.1 k x hx).2 y (by omega) hy (of_decide_eq_true he)
      · rw [bs_eq] at he
        by_cases hjk : j = k
        · subst hjk
          intro z hz
          rw [hx] at hz; cases hz
          refine ⟨hb, fun y' _ hy' => ?_⟩
          rw [hy] at hy'; cases hy'
          exact of_decide_eq_false he
        · exact hall j (by omega)
    · have hb : cleanB x.path = true := by simpa using hb
      have h0 := of_decide_eq_false h0
      refine ⟨⟨k + 1, rfl, by omega, fun j hj => ?_, hf37'⟩, by dsimp only; omega⟩
      by_cases hjk : j = k
      · subst hjk
        intro z hz
        rw [hx] at hz; cases hz
        exact ⟨hb, fun y' h1 _ => by omega⟩
      · exact hall j (by omega)
  have hge := of_decide_eq_false hge
  have hokA : ∀ j, okF ys j := fun j => by
    by_cases hj : j < k
    · exact hall j hj
    · intro x hx
      have := (List.getElem?_eq_some_iff.1 hx).1
      omega
  clear hall e1
  refine ⟨l3, (hS.keep hf26).files, fun i w' => ∃ k : Nat, i = k ∧ k ≤ ys.length ∧ (∀ x ∈ ys.take k, underE ys (x.path ++ ⟨#[47]⟩) = []) ∧ Fr (fun _ => False) w21 w', fun i _ => ys.length - i.toNat, ⟨0, rfl, Nat.zero_le _, fun x hx => by simp at hx, hf26⟩, ?_⟩
  rintro i w50 ⟨k, rfl, hk, hall, hf50⟩
  have e1 : IntKind.i64.wrap ((k : Int) + 1) = ((k + 1 : Nat) : Int) := by rw [wrap_i64 (by omega) (by omega)]; omega
  rw [e1]
  refine ⟨fun hlt => ?_, fun hge => ?_⟩
  · have hlt := of_decide_eq_true hlt
    have hkl : k < ys.length := by omega
    have hx : ys[k]? = some ys[k] := List.getElem?_eq_getElem hkl
    generalize ys[k] = x at hx
    have hxs : x.path.size ≤ 140737488355328 := hp x (hperm.subset (List.mem_of_getElem? hx))
    obtain ⟨ad, had, hload⟩ := (hS.keep hf50).reads.load elF hx
    refine ⟨⟨by omega, by omega⟩, ad, had, x.path, x.data, by rw [Int.toNat_natCast]; exact hload, fun w54 h54 => ?_⟩
    subst h54
    have hfa : Fr (fun _ => False) w50 (w50.alloc (.cells (encF x).toArray T_api_File)) := .alloc _ _ _
    refine ⟨_, boxF_run w50 x, x.path, boxF_cell w50 x (.refl (fun _ => False) _) (by simp) rfl, by rw [show (ByteArray.mk #[47]).size = 1 from rfl]; omega, (under_spec (hS.keep (hf50.trans' hfa)) hris _).mono ?_⟩
    rintro e w58 ⟨o, rfl, ho, hf58⟩
    have hf58' := (hf50.trans' hfa).trans' hf58
    have hol : o.len = (underE ys (x.path ++ ⟨#[47]⟩)).length := by rw [ho.len]; simp [strV]
    refine ⟨o, rfl, fun h0 => bad hf58' fun h => ?_, fun h0 => ⟨⟨k + 1, rfl, by omega, fun y hy => ?_, hf58'⟩, by dsimp only; omega⟩⟩
    · have h0 := of_decide_eq_true h0
      rw [h.2 x (List.mem_of_getElem? hx)] at hol
      simp at hol; omega
    · have h0 := of_decide_eq_false h0
      rw [List.take_add_one, hx] at hy
      rcases List.mem_append.1 hy with hy | hy
      · exact hall y hy
      · simp only [Option.toList, List.mem_cons, List.mem_nil_iff, or_false] at hy
        subst hy
        exact List.length_eq_zero_iff.1 (by omega)
  · have hge := of_decide_eq_false hge
    have hk' : k = ys.length := by omega
    rw [hk', List.take_of_length_le (Nat.le_refl _)] at hall
    exact ⟨hf21'.trans' hf50, .inr ⟨by omega, by omega, ys, hperm, hris, .inr ⟨⟨hokA, hall⟩, _, l3, rfl, ⟨hsz, fun x hx => (ho2.blk hx).1⟩, hS.keep hf50⟩⟩⟩
end Go.Proofs.YtcnpekohkbjnnaaGreatDoor
namespace Go.Proofs.YtcnpekohkbjnnaaGreatDoor
open Go Vc Go.Proofs

theorem cut_sz (s : ByteArray) (c : UInt8) : (cutS s c).1.size + (cutS s c).2.1.size ≤ s.size ∧ ((cutS s c).2.2 = true → (cutS s c).1.size + (cutS s c).2.1.size + 1 = s.size) := by
  unfold cutS
  rcases fnd_cases s c with ⟨h, _⟩ | ⟨i, h, hi, _⟩
  · rw [h, if_pos rfl]
    refine ⟨?_, fun h => by cases h⟩
    show s.size + 0 ≤ s.size
    omega
  · rw [h, if_neg (by omega), Int.toNat_natCast]
    simp only [ByteArray.size_extract]
    exact ⟨by omega, fun _ => by omega⟩
def getE (xs : List FileE) (p : ByteArray) : ByteArray × Int := match xs.find? (fun x => decide (x.path = p)) with
  | some x => (x.data, 0)
  | none => (⟨#[]⟩, 7)
theorem get_spec {w : World} {b : Nat} {l : Sl} {xs : List FileE} {size : Int} (h : IsSnap w b l xs size) (hs : Rising xs) (p : ByteArray) : Calls Tryz.prog F_snap_Snap_Get #[.pointer (some ⟨b, 0, none⟩), .string p] w fun e w' =>
    e = .returned (.tuple #[.string (getE xs p).1, .int .i64 (getE xs p).2]) ∧ Fr (fun _ => False) w w' := by
  refine vc_snap_Snap_Get_ok (R := fun v w' => v = .tuple #[.string (getE xs p).1, .int .i64 (getE xs p).2] ∧ Fr (fun _ => False) w w') ?_ (fun v w' h => ⟨by rw [h.1], h.2⟩)
  have hsm := h.small
  have hlen := h.len
  refine ⟨l, h.files, (search_spec h.reads h.len (by omega) hs ⟨p, ⟨#[]⟩⟩).mono ?_⟩
  rintro e w3 ⟨i, hin, rfl, hiff, hf3⟩
  refine ⟨_, _, rfl, fun hb => ?_, fun hb => ⟨l, (h.keep hf3).files, ?_⟩⟩
  · have hno : xs.find? (fun x => decide (x.path = p)) = none := by
      rw [List.find?_eq_none]
      intro x hx
      rw [decide_eq_true_eq]
      intro he
      obtain ⟨k, hk⟩ := List.mem_iff_getElem?.1 hx
      have hnl : ¬ k < i := fun h => by
        have := (hiff k x hk).2 h
        rw [he] at this; exact List.lt_irrefl _ this
      have hil : i < xs.length := by have := (List.getElem?_eq_some_iff.1 hk).1; omega
      have hy : xs[i]? = some xs[i] := List.getElem?_eq_getElem hil
      generalize xs[i] = y at hy
      rw [hy] at hb
      have hyp : y.path ≠ p := by simpa using hb
      have h1 : ¬ y.path.data.toList < p.data.toList := fun h => by have := (hiff i y hy).1 h; omega
      by_cases hki : k = i
      · subst hki; rw [hy] at hk; cases hk; exact hyp he
      · have h2 := (List.pairwise_iff_getElem.1 hs) i k hil (List.getElem?_eq_some_iff.1 hk).1 (by omega)
        rw [(List.getElem?_eq_some_iff.1 hk).2, (List.getElem?_eq_some_iff.1 hy).2, he] at h2
        rcases lt_tri y.path.data.toList p.data.toList with h3 | h3 | h3
        · exact h1 h3
        · exact hyp (bs_ext h3)
        · exact h2 h3
    unfold getE
    rw [hno]
    exact ⟨rfl, hf3⟩
  · cases hxi : xs[i]? with
    | none => rw [hxi] at hb; simp at hb
    | some x =>
      rw [hxi] at hb
      have hxp : x.path = p := by simpa using hb
      have hil := (List.getElem?_eq_some_iff.1 hxi).1
      obtain ⟨ad, had, hc⟩ := (h.keep hf3).reads i x hxi
      have hc1 : w3.cell? ((ad.add (i * 2)).add 1) = some (.string x.data) := hc 1 (.string x.data) rfl
      refine ⟨⟨by omega, by omega⟩, ad, had, x.data, by rw [Int.toNat_natCast]; exact hc1, ?_, hf3⟩
      have hfd : ∃ y, xs.find? (fun x => decide (x.path = p)) = some y ∧ y.path = p ∧ ∃ k, xs[k]? = some y ∧ k ≤ i := by
        cases hff : xs.find? (fun x => decide (x.path = p)) with
        | none => exact absurd (List.find?_eq_none.1 hff x (List.mem_of_getElem? hxi)) (by simp [hxp])
        | some y =>
          obtain ⟨h1, k, hk, h2, h3⟩ := List.find?_eq_some_iff_getElem.1 hff
          refine ⟨y, rfl, of_decide_eq_true h1, k, by rw [List.getElem?_eq_getElem hk, h2], ?_⟩
          by_cases hki : k ≤ i
          · exact hki
          · have := h3 i (by omega)
            rw [(List.getElem?_eq_some_iff.1 hxi).2] at this
            simp [hxp] at this
      obtain ⟨y, hy1, hy2, k, hk, hki⟩ := hfd
      have hke : k = i := by
        by_cases hlt : k < i
        · have := (hiff k y hk).2 hlt
          rw [hy2] at this; exact absurd this (List.lt_irrefl _)
        · omega
      subst hke
      rw [hxi] at hk; cases hk
      unfold getE
      rw [hy1]
end Go.Proofs.YtcnpekohkbjnnaaGreatDoor

/- The place of an object's file: its path is clean, and nothing of a pack. No program in sight. -/
set_option linter.unusedVariables false
namespace Go.Proofs.YtcnpekohkbjnnaaGreatDoor
open Go Vc HexM Go.Proofs

def objS : ByteArray := ⟨#[111, 98, 106, 101, 99, 116, 115, 47]⟩
/-- Where an object stands. -/
def pathO (id : ByteArray) : ByteArray := objS ++ id.extract 0 2 ++ ⟨#[47]⟩ ++ id.extract 2 id.size
theorem partsF_cons {A B : List UInt8} (h : (47 : UInt8) ∉ A) (g : Nat) : partsF (g + 1) ⟨(A ++ 47 :: B).toArray⟩ = ⟨A.toArray⟩ :: partsF g ⟨B.toArray⟩ := by
  have hs : (⟨(A ++ 47 :: B).toArray⟩ : ByteArray).size = A.length + (B.length + 1) := by rw [bs_mksize, List.length_append, List.length_cons]
  have hget : ∀ k : Nat, (⟨(A ++ 47 :: B).toArray⟩ : ByteArray).data.toList[k]? = (A ++ 47 :: B)[k]? := fun k => by rw [bs_mk]
  have hix : Lib.indexByte (⟨(A ++ 47 :: B).toArray⟩ : ByteArray).data.toList 47 = ((A.length : Nat) : Int) := by
    refine fnd_at (by omega) ?_ fun k hk e => ?_
    · unfold byt
      rw [hget, List.getElem?_append_right (Nat.le_refl _), Nat.sub_self]; rfl
    · unfold byt at e
      rw [hget, List.getElem?_append_left hk, List.getElem?_eq_getElem hk] at e
      exact h (UInt8.toNat_inj.1 e ▸ List.getElem_mem hk)
  rw [partsF_yes hix]
  congr 1
  · exact bs_ext (by rw [bs_head, bs_mk, bs_mk, List.take_left])
  · congr 1
    exact bs_ext (by rw [bs_tail, bs_mk, bs_mk, List.drop_append, List.drop_eq_nil_of_le (by omega), show A.length + 1 - A.length = 1 by omega]; rfl)
theorem partsF_one {A : List UInt8} (h : (47 : UInt8) ∉ A) (g : Nat) : partsF g ⟨A.toArray⟩ = [⟨A.toArray⟩] := by
  refine partsF_no ?_ g
  rcases fnd_cases ⟨A.toArray⟩ 47 with ⟨h1, _⟩ | ⟨i, _, hi, hb, _⟩
  · exact h1
  · have := List.mem_of_getElem? (bs_get hi)
    rw [hb, bs_mk] at this
    exact absurd this h
/-- A name's letters are digits. -/
theorem isId_parts {id : ByteArray} (h : isId id.data.toList = true) : id.size = 40 ∧ ∀ c ∈ id.data.toList, (48 ≤ c.toNat ∧ c.toNat ≤ 57) ∨ (97 ≤ c.toNat ∧ c.toNat ≤ 102) := by
  unfold isId at h
  rw [unhexL_iff, Bool.and_eq_true, Bool.and_eq_true] at h
  obtain ⟨⟨h1, _⟩, h2⟩ := h
  refine ⟨by rw [← bs_len]; exact eq_of_beq h2, fun c hc => ?_⟩
  have := List.all_eq_true.1 h1 c hc
  unfold dg at this
  split at this
  · exact .inl (by assumption)
  · split at this
    · exact .inr (by assumption)
    · cases this
theorem isId_hex {l : List UInt8} (h : l.length = 20) : isId (hexL l) = true := by
  unfold isId
  rw [unhex_hex, hexL_length, h]; rfl
theorem pathO_list (id : ByteArray) : (pathO id).data.toList = [111, 98, 106, 101, 99, 116, 115] ++ 47 :: (id.data.toList.take 2 ++ 47 :: id.data.toList.drop 2) := by
  unfold pathO
  rw [bs_app, bs_app, bs_app, bs_head, bs_tail]
  simp [objS]
theorem pathO_size {id : ByteArray} (h : id.size = 40) : (pathO id).size = 49 := by
  rw [← bs_len, pathO_list]
  simp only [List.length_append, List.length_cons, List.length_nil, List.length_take, List.length_drop, bs_len]
  omega
theorem pathO_clean {id : ByteArray} (h : isId id.data.toList = true) : cleanB (pathO id) = true := by
  obtain ⟨h40, hm⟩ := isId_parts h
  have hl40 : id.data.toList.length = 40 := by rw [bs_len]; exact h40
  have hE : pathO id = ⟨([111, 98, 106, 101, 99, 116, 115] ++ 47 :: (id.data.toList.take 2 ++ 47 :: id.data.toList.drop 2)).toArray⟩ := bs_ext (by rw [pathO_list, bs_mk])
  have n47 : ∀ {l : List UInt8}, (∀ c ∈ l, c ∈ id.data.toList) → (47 : UInt8) ∉ l := fun hl h47 => by
    have := hm _ (hl _ h47)
    exact absurd this (by decide)
  have hparts : partsF 49 (pathO id) = [⟨#[111, 98, 106, 101, 99, 116, 115]⟩, ⟨(id.data.toList.take 2).toArray⟩, ⟨(id.data.toList.drop 2).toArray⟩] := by
    rw [hE, partsF_cons (by decide), partsF_cons (n47 fun c hc => List.mem_of_mem_take hc), partsF_one (n47 fun c hc => List.mem_of_mem_drop hc)]
  unfold cleanB
  rw [pathO_size h40, hparts]
  have hpr : printB (pathO id) = true := by
    unfold printB
    refine decide_eq_true fun q hq => ?_
    have hcm := List.mem_of_getElem? (bs_get hq)
    have hl := byt_lt (pathO id) q
    generalize byt (pathO id) q = c at hcm hl
    rw [pathO_list] at hcm
    have hn : (UInt8.ofNat c).toNat = c := toNat_of c hl
    generalize UInt8.ofNat c = u at hcm hn
    have hcm : u ∈ ([111, 98, 106, 101, 99, 116, 115, 47] : List UInt8) ∨ u ∈ id.data.toList := by
      rcases List.mem_append.1 hcm with h | h
      · exact .inl (List.mem_append_left [47] h)
      · rcases List.mem_cons.1 h with h | h
        · exact .inl (by rw [h]; decide)
        · rcases List.mem_append.1 h with h | h
          · exact .inr (List.mem_of_mem_take h)
          · rcases List.mem_cons.1 h with h | h
            · exact .inl (by rw [h]; decide)
            · exact .inr (List.mem_of_mem_drop h)
    rcases hcm with h | h
    · rw [← hn]
      simp only [List.mem_cons, List.mem_nil_iff, or_false] at h
      rcases h with rfl | rfl | rfl | rfl | rfl | rfl | rfl | rfl <;> decide
    · have := hm _ h
      omega
  rw [hpr]
  have hp : ∀ {l : List UInt8}, 0 < l.length → (∀ c ∈ l, c ∈ id.data.toList) → partOK ⟨l.toArray⟩ = true := fun {l} hl0 hl => by
    have n46 : (46 : UInt8) ∉ l := fun h46 => absurd (hm _ (hl _ h46)) (by decide)
    unfold partOK
    rw [Bool.and_eq_true, Bool.and_eq_true]
    refine ⟨⟨decide_eq_true fun e => ?_, decide_eq_true fun e => ?_⟩, decide_eq_true fun e => ?_⟩
    · have := congrArg ByteArray.size e
      rw [bs_mksize] at this
      have h0 : (⟨#[]⟩ : ByteArray).size = 0 := rfl
      omega
    · have := congrArg (fun s : ByteArray => s.data.toList) e
      simp only at this
      exact n46 (by rw [this]; decide)
    · have := congrArg (fun s : ByteArray => s.data.toList) e
      simp only at this
      exact n46 (by rw [this]; decide)
  rw [List.all_cons, List.all_cons, List.all_cons, hp (by rw [List.length_take]; omega) fun c hc => List.mem_of_mem_take hc, hp (by rw [List.length_drop]; omega) fun c hc => List.mem_of_mem_drop hc]
  decide
theorem pathO_inj {a b : ByteArray} (h : pathO a = pathO b) : a = b := by
  have := congrArg (fun s : ByteArray => s.data.toList) h
  simp only [pathO_list] at this
  refine bs_ext ?_
  have h2 := List.append_cancel_left this
  rw [List.cons.injEq] at h2
  have h3 := h2.2
  have ha := List.take_append_drop 2 a.data.toList
  have hb := List.take_append_drop 2 b.data.toList
  by_cases hl : 2 ≤ a.data.toList.length ∧ 2 ≤ b.data.toList.length
  · have e1 : (a.data.toList.take 2).length = (b.data.toList.take 2).length := by rw [List.length_take, List.length_take]; omega
    obtain ⟨h4, h5⟩ := List.append_inj h3 e1
    rw [List.cons.injEq] at h5
    rw [← ha, ← hb, h4, h5.2]
  · have hl3 := congrArg List.length h3
    simp only [List.length_append, List.length_cons, List.length_take, List.length_drop] at hl3
    have he : a.data.toList.length = b.data.toList.length := by omega
    have hla : a.data.toList.length < 2 := by omega
    rw [List.take_of_length_le (by omega), List.take_of_length_le (by omega), List.drop_eq_nil_of_le (by omega), List.drop_eq_nil_of_le (by omega)] at h3
    exact (List.append_inj h3 he).1
/-- One file alone: its snap is in order. -/
theorem one_ok {y : FileE} (h : cleanB y.path = true) : NewOK [y] := by
  refine ⟨fun i x hx => ?_, fun x hx => ?_⟩
  · cases i with
    | zero =>
      simp only [List.getElem?_cons_zero, Option.some.injEq] at hx
      subst hx
      exact ⟨h, fun y h => by omega⟩
    | succ i => simp at hx
  · simp only [List.mem_cons, List.mem_nil_iff, or_false] at hx
    subst hx
    unfold underE
    rw [List.filter_cons_of_neg (by
      unfold begB
      intro h
      have := (of_decide_eq_true h).length_le
      rw [bs_len, bs_len, ByteArray.size_append] at this
      have h1 : (⟨#[47]⟩ : ByteArray).size = 1 := rfl
      omega)]
    rfl
def packS : ByteArray := ⟨#[111, 98, 106, 101, 99, 116, 115, 47, 112, 97, 99, 107, 47, 112, 97, 99, 107, 45]⟩
theorem pack_no {id : ByteArray} (h : isId id.data.toList = true) : begB (pathO id) packS = false := by
  obtain ⟨h40, hm⟩ := isId_parts h
  have hl40 : id.data.toList.length = 40 := by rw [bs_len]; exact h40
  unfold begB
  refine decide_eq_false fun hp => ?_
  obtain ⟨t, ht⟩ := hp
  rw [pathO_list] at ht
  cases hc : id.data.toList with
  | nil => rw [hc] at hl40; simp at hl40
  | cons x r =>
    rw [hc] at ht
    have h8 := congrArg (fun l : List UInt8 => l[8]?) ht
    have hx : x = 112 := by
      have h1 : (packS.data.toList ++ t)[8]? = some 112 := rfl
      rw [h1] at h8
      have h2 : ([111, 98, 106, 101, 99, 116, 115] ++ 47 :: ((x :: r).take 2 ++ 47 :: (x :: r).drop 2))[8]? = some x := rfl
      rw [h2] at h8
      exact (Option.some.inj h8).symm
    have := hm x (by rw [hc]; exact List.mem_cons_self)
    rw [hx] at this
    exact absurd this (by decide)
end Go.Proofs.YtcnpekohkbjnnaaGreatDoor

/- SHA-1 and SHA-256 on lists. -/
set_option linter.unusedVariables false
namespace ShaM
abbrev W := BitVec 32
def rotl (x : W) (n : Nat) : W := (x <<< n) ||| (x >>> (32 - n))
/-- Four bytes from number i on as a word, the highest first. -/
def be (p : List UInt8) (i : Nat) : W := BitVec.ofNat 32 ((p.getD i 0).toNat * 16777216 + (p.getD (i + 1) 0).toNat * 65536 + (p.getD (i + 2) 0).toNat * 256 + (p.getD (i + 3) 0).toNat)
def words (p : List UInt8) : List W := (List.range 16).map fun i => be p (4 * i)
def ext1 : Nat → List W → List W
  | 0, w => w
  | n + 1, w => ext1 n (w ++ [rotl (w.getD (w.length - 3) 0 ^^^ w.getD (w.length - 8) 0 ^^^ w.getD (w.length - 14) 0 ^^^ w.getD (w.length - 16) 0) 1])
def f1 (i : Nat) (b c d : W) : W := if i < 20 then (b &&& c) ||| (~~~b &&& d) else if i < 40 then b ^^^ c ^^^ d else if i < 60 then (b &&& c) ||| (b &&& d) ||| (c &&& d) else b ^^^ c ^^^ d
def k1 (i : Nat) : W := if i < 20 then 0x5a827999#32 else if i < 40 then 0x6ed9eba1#32 else if i < 60 then 0x8f1bbcdc#32 else 0xca62c1d6#32
/-- One round. -/
def rd1 (i : Nat) (x : W) : List W → List W
  | [a, b, c, d, e] => [rotl a 5 + f1 i b c d + e + k1 i + x, a, rotl b 30, c, d]
  | v => v
def rds1 : Nat → List W → List W → List W
  | _, [], v => v
  | i, x :: r, v => rds1 (i + 1) r (rd1 i x v)
def adds : List W → List W → List W
  | a :: h, b :: v => (a + b) :: adds h v
  | _, _ => []
def block1 (h : List W) (p : List UInt8) : List W := adds h (rds1 0 (ext1 64 (words p)) h)
def blocks (f : List W → List UInt8 → List W) : Nat → List W → List UInt8 → List W
  | 0, h, _ => h
  | n + 1, h, t => blocks f n (f h (t.take 64)) (t.drop 64)
def pad (t : List UInt8) : List UInt8 := t ++ 0x80 :: List.replicate ((119 - t.length % 64) % 64) 0 ++ (List.range 8).map fun i => UInt8.ofNat (t.length * 8 / 2 ^ (56 - 8 * i))
def outw (x : W) : List UInt8 := [UInt8.ofNat (x.toNat / 16777216), UInt8.ofNat (x.toNat / 65536), UInt8.ofNat (x.toNat / 256), UInt8.ofNat x.toNat]
def out (h : List W) : List UInt8 := h.flatMap outw
def start1 : List W := [0x67452301#32, 0xefcdab89#32, 0x98badcfe#32, 0x10325476#32, 0xc3d2e1f0#32]
def sha1 (t : List UInt8) : List UInt8 := out (blocks block1 ((pad t).length / 64) start1 (pad t))

def ext2 : Nat → List W → List W
  | 0, w => w
  | n + 1, w =>
    let x := w.getD (w.length - 15) 0
    let y := w.getD (w.length - 2) 0
    ext2 n (w ++ [w.getD (w.length - 16) 0 + (rotl x 25 ^^^ rotl x 14 ^^^ x >>> 3) + w.getD (w.length - 7) 0 + (rotl y 15 ^^^ rotl y 13 ^^^ y >>> 10)])
def rd2 (k w : W) : List W → List W
  | [a, b, c, d, e, f, g, h] =>
    let x := h + (rotl e 26 ^^^ rotl e 21 ^^^ rotl e 7) + ((e &&& f) ^^^ (~~~e &&& g)) + k + w
    let y := (rotl a 30 ^^^ rotl a 19 ^^^ rotl a 10) + ((a &&& b) ^^^ (a &&& c) ^^^ (b &&& c))
    [x + y, a, b, c, d + x, e, f, g]
  | v => v
def rds2 : List W → List W → List W → List W
  | k :: ks, x :: xs, v => rds2 ks xs (rd2 k x v)
  | _, _, v => v
def block2 (K : List W) (h : List W) (p : List UInt8) : List W := adds h (rds2 K (ext2 48 (words p)) h)
def start2 : List W := [0x6a09e667#32, 0xbb67ae85#32, 0x3c6ef372#32, 0xa54ff53a#32, 0x510e527f#32, 0x9b05688c#32, 0x1f83d9ab#32, 0x5be0cd19#32]
end ShaM
namespace ShaM
def nxt1 (w : List W) : W := rotl (w.getD (w.length - 3) 0 ^^^ w.getD (w.length - 8) 0 ^^^ w.getD (w.length - 14) 0 ^^^ w.getD (w.length - 16) 0) 1
theorem ext1_snoc : ∀ (n : Nat) (w : List W), ext1 (n + 1) w = ext1 n w ++ [nxt1 (ext1 n w)]
  | 0, w => rfl
  | n + 1, w => by
    show ext1 (n + 1) (w ++ [nxt1 w]) = _
    rw [ext1_snoc n]
    rfl
theorem ext1_length : ∀ (n : Nat) (w : List W), (ext1 n w).length = w.length + n
  | 0, w => rfl
  | n + 1, w => by
    show (ext1 n (w ++ [nxt1 w])).length = _
    rw [ext1_length n, List.length_append, List.length_singleton]; omega
def nxt2 (w : List W) : W :=
  let x := w.getD (w.length - 15) 0
  let y := w.getD (w.length - 2) 0
  w.getD (w.length - 16) 0 + (rotl x 25 ^^^ rotl x 14 ^^^ x >>> 3) + w.getD (w.length - 7) 0 + (rotl y 15 ^^^ rotl y 13 ^^^ y >>> 10)
theorem ext2_snoc : ∀ (n : Nat) (w : List W), ext2 (n + 1) w = ext2 n w ++ [nxt2 (ext2 n w)]
  | 0, w => rfl
  | n + 1, w => by
    show ext2 (n + 1) (w ++ [nxt2 w]) = _
    rw [ext2_snoc n]
    rfl
theorem ext2_length : ∀ (n : Nat) (w : List W), (ext2 n w).length = w.length + n
  | 0, w => rfl
  | n + 1, w => by
    show (ext2 n (w ++ [nxt2 w])).length = _
    rw [ext2_length n, List.length_append, List.length_singleton]; omega
theorem words_length (p : List UInt8) : (words p).length = 16 := by simp [words]
theorem words_take (p : List UInt8) {k : Nat} (h : k < 16) : (words p).take (k + 1) = (words p).take k ++ [be p (4 * k)] := by
  have hl : k < (words p).length := by rw [words_length]; exact h
  rw [List.take_succ_eq_append_getElem hl]
  simp [words]
/-- The first k words of a schedule. -/
def E1 (p : List UInt8) (k : Nat) : List W := if k ≤ 16 then (words p).take k else ext1 (k - 16) (words p)
def E2 (p : List UInt8) (k : Nat) : List W := if k ≤ 16 then (words p).take k else ext2 (k - 16) (words p)
theorem E1_length (p : List UInt8) (k : Nat) : (E1 p k).length = k := by
  unfold E1
  split
  · rw [List.length_take, words_length]; omega
  · rw [ext1_length, words_length]; omega
theorem E2_length (p : List UInt8) (k : Nat) : (E2 p k).length = k := by
  unfold E2
  split
  · rw [List.length_take, words_length]; omega
  · rw [ext2_length, words_length]; omega
theorem E1_low (p : List UInt8) {k : Nat} (h : k < 16) : E1 p (k + 1) = E1 p k ++ [be p (4 * k)] := by
  unfold E1; rw [if_pos (by omega), if_pos (by omega), words_take p h]
theorem E2_low (p : List UInt8) {k : Nat} (h : k < 16) : E2 p (k + 1) = E2 p k ++ [be p (4 * k)] := by
  unfold E2; rw [if_pos (by omega), if_pos (by omega), words_take p h]
theorem E1_ext (p : List UInt8) {k : Nat} (h : 16 ≤ k) : E1 p k = ext1 (k - 16) (words p) := by
  unfold E1
  split
  · have : k = 16 := by omega
    subst this
    rw [List.take_of_length_le (by rw [words_length]; omega)]; rfl
  · rfl
theorem E2_ext (p : List UInt8) {k : Nat} (h : 16 ≤ k) : E2 p k = ext2 (k - 16) (words p) := by
  unfold E2
  split
  · have : k = 16 := by omega
    subst this
    rw [List.take_of_length_le (by rw [words_length]; omega)]; rfl
  · rfl
theorem E1_high (p : List UInt8) {k : Nat} (h : 16 ≤ k) : E1 p (k + 1) = E1 p k ++ [nxt1 (E1 p k)] := by
  rw [E1_ext p h, E1_ext p (by omega), show k + 1 - 16 = (k - 16) + 1 by omega, ext1_snoc]
theorem E2_high (p : List UInt8) {k : Nat} (h : 16 ≤ k) : E2 p (k + 1) = E2 p k ++ [nxt2 (E2 p k)] := by
  rw [E2_ext p h, E2_ext p (by omega), show k + 1 - 16 = (k - 16) + 1 by omega, ext2_snoc]
theorem nxt1_at {w : List W} {k : Nat} (h : w.length = k) : nxt1 w = rotl (w.getD (k - 3) 0 ^^^ w.getD (k - 8) 0 ^^^ w.getD (k - 14) 0 ^^^ w.getD (k - 16) 0) 1 := by unfold nxt1; rw [h]
theorem nxt2_at {w : List W} {k : Nat} (h : w.length = k) : nxt2 w = w.getD (k - 16) 0 + (rotl (w.getD (k - 15) 0) 25 ^^^ rotl (w.getD (k - 15) 0) 14 ^^^ w.getD (k - 15) 0 >>> 3) + w.getD (k - 7) 0 + (rotl (w.getD (k - 2) 0) 15 ^^^ rotl (w.getD (k - 2) 0) 13 ^^^ w.getD (k - 2) 0 >>> 10) := by
  unfold nxt2; rw [h]
theorem rds1_step {i : Nat} {l v : List W} (h : i < l.length) : rds1 i (l.drop i) v = rds1 (i + 1) (l.drop (i + 1)) (rd1 i (l.getD i 0) v) := by
  rw [List.drop_eq_getElem_cons h]
  simp [rds1, h]
end ShaM

/- Numbers of 32 and 64 bits as bit vectors. No condition. -/
set_option linter.unusedVariables false
namespace Vc
open Go
section
theorem u_of (x : BitVec 32) : BitVec.ofInt 32 (x.toNat : Int) = x := by
  rw [BitVec.ofInt_natCast]; simp
theorem u_wrap (x : BitVec 32) : IntKind.u32.wrap (x.toNat : Int) = (x.toNat : Int) := by
  have := x.isLt
  exact wrap_u32 (by omega) (by omega)
theorem u_add (x y : BitVec 32) : IntKind.u32.wrap ((x.toNat : Int) + (y.toNat : Int)) = ((x + y).toNat : Int) := by
  rw [wrap_u32_mod, BitVec.toNat_add]; omega
theorem u_shl (x : BitVec 32) (k : Nat) (hk : k ≤ 32) : IntKind.u32.wrap ((x.toNat : Int) * 2 ^ (min k 32)) = ((x <<< k).toNat : Int) := by
  have hp : (2 : Int) ^ k = ((2 ^ k : Nat) : Int) := by push_cast; rfl
  rw [Nat.min_eq_left hk, wrap_u32_mod, BitVec.toNat_shiftLeft, Nat.shiftLeft_eq, hp, ← Int.natCast_mul]
  generalize x.toNat * 2 ^ k = z
  show (z : Int) % 4294967296 = ((z % 4294967296 : Nat) : Int)
  omega
theorem u_shr (x : BitVec 32) (k : Nat) (hk : k ≤ 32) : Int.fdiv (x.toNat : Int) (2 ^ (min k 32)) = ((x >>> k).toNat : Int) := by
  have hp : (2 : Int) ^ k = ((2 ^ k : Nat) : Int) := by push_cast; rfl
  rw [Nat.min_eq_left hk, hp, Int.fdiv_eq_ediv_of_nonneg _ (Int.natCast_nonneg _), ← Int.natCast_ediv, BitVec.toNat_ushiftRight, Nat.shiftRight_eq_div_pow]
end
end Vc

/- Plain facts on bits of a text, the lowest of each byte first. -/
set_option linter.unusedVariables false
namespace BitsM
open Vc
/-- The first n bytes as a number, the first the lowest. -/
def V (s : ByteArray) : Nat → Nat
  | 0 => 0
  | n + 1 => V s n + byt s n * 2 ^ (8 * n)
theorem V_lt (s : ByteArray) : ∀ n, V s n < 2 ^ (8 * n)
  | 0 => by simp [V]
  | n + 1 => by
    have h := V_lt s n
    have hb := byt_lt s n
    have e : 2 ^ (8 * (n + 1)) = 256 * 2 ^ (8 * n) := by rw [Nat.mul_succ, Nat.pow_add]; omega
    have : byt s n * 2 ^ (8 * n) ≤ 255 * 2 ^ (8 * n) := Nat.mul_le_mul_right _ (by omega)
    simp only [V]; omega
/-- What is held: the bits from pos on of the first n bytes. -/
def held (s : ByteArray) (n pos : Nat) : Nat := V s n / 2 ^ pos
theorem held_lt (s : ByteArray) (n pos : Nat) (h : pos ≤ 8 * n) : held s n pos < 2 ^ (8 * n - pos) := by
  unfold held
  rw [Nat.div_lt_iff_lt_mul (Nat.two_pow_pos _), ← Nat.pow_add, Nat.sub_add_cancel h]
  exact V_lt s n
theorem held_succ (s : ByteArray) (n pos : Nat) (h : pos ≤ 8 * n) : held s (n + 1) pos = held s n pos + byt s n * 2 ^ (8 * n - pos) := by
  unfold held
  have e : 2 ^ (8 * n) = 2 ^ (8 * n - pos) * 2 ^ pos := by rw [← Nat.pow_add, Nat.sub_add_cancel h]
  simp only [V]
  rw [e, ← Nat.mul_assoc, Nat.add_mul_div_right _ _ (Nat.two_pow_pos _)]
theorem held_or (s : ByteArray) (n pos : Nat) (h : pos ≤ 8 * n) : held s n pos ||| byt s n * 2 ^ (8 * n - pos) = held s (n + 1) pos := by
  rw [held_succ s n pos h, Nat.or_comm, Nat.mul_comm, Nat.add_comm, ← Nat.two_pow_add_eq_or_of_lt (held_lt s n pos h)]
theorem held_skip (s : ByteArray) (n pos k : Nat) : held s n pos / 2 ^ k = held s n (pos + k) := by
  unfold held; rw [Nat.div_div_eq_div_mul, ← Nat.pow_add]
/-- The next k bits of the whole text, from pos on. -/
def nbits (s : ByteArray) (pos k : Nat) : Nat := V s s.size / 2 ^ pos % 2 ^ k
theorem V_split (s : ByteArray) (n : Nat) : ∀ d, ∃ q, V s (n + d) = V s n + q * 2 ^ (8 * n)
  | 0 => ⟨0, by simp⟩
  | d + 1 => by
    obtain ⟨q, hq⟩ := V_split s n d
    refine ⟨q + byt s (n + d) * 2 ^ (8 * d), ?_⟩
    show V s (n + d) + byt s (n + d) * 2 ^ (8 * (n + d)) = _
    rw [hq, Nat.add_mul, Nat.mul_assoc, ← Nat.pow_add]
    have : 8 * d + 8 * n = 8 * (n + d) := by omega
    rw [this]; omega
theorem held_bits (s : ByteArray) (n pos k : Nat) (hn : n ≤ s.size) (h : pos + k ≤ 8 * n ∨ n = s.size) : held s n pos % 2 ^ k = nbits s pos k := by
  rcases h with h | rfl
  · unfold held nbits
    obtain ⟨q, hq⟩ := V_split s n (s.size - n)
    rw [Nat.add_sub_cancel' hn] at hq
    rw [hq]
    have e : 2 ^ (8 * n) = 2 ^ (8 * n - pos - k) * 2 ^ k * 2 ^ pos := by
      rw [← Nat.pow_add, ← Nat.pow_add]; congr 1; omega
    rw [e, ← Nat.mul_assoc, ← Nat.mul_assoc, Nat.add_mul_div_right _ _ (Nat.two_pow_pos _)]
    rw [Nat.add_mul_mod_self_right]
  · rfl
theorem and_mask (x k : Nat) : x &&& (2 ^ k - 1) = x % 2 ^ k := Nat.and_two_pow_sub_one_eq_mod x k
end BitsM

/- Formulas of 9 Go functions of this seat (written by a program of the author's, vcgen.py), and that each is enough for the call. No condition. -/
set_option linter.unusedVariables false
namespace Go.Proofs.YtcnpekohkbjnnaaGreatDoor
open Go Vc Go.Proofs
set_option maxRecDepth 100000
/-- sha.word -/
def vc_sha_word (x0 : ByteArray) (w : World) (R : Value → World → Prop) : Prop :=
  (((0 : Int) ≤ (0 : Int) ∧
    0 < (↑(ByteArray.size x0) : Int)) ∧
   ((0 : Int) ≤ (24 : Int) ∧
    (((0 : Int) ≤ (1 : Int) ∧
      1 < (↑(ByteArray.size x0) : Int)) ∧
     ((0 : Int) ≤ (16 : Int) ∧
      (((0 : Int) ≤ (2 : Int) ∧
        2 < (↑(ByteArray.size x0) : Int)) ∧
       ((0 : Int) ≤ (8 : Int) ∧
        (((0 : Int) ≤ (3 : Int) ∧
          3 < (↑(ByteArray.size x0) : Int)) ∧
         ∀ w1 : World,
         (Drew w w1 →
           R (Value.int IntKind.u32 (IntKind.wrap IntKind.u32 (↑(BitVec.toNat (BitVec.ofInt 32 (IntKind.wrap IntKind.u32 (↑(BitVec.toNat (BitVec.ofInt 32 (IntKind.wrap IntKind.u32 (↑(BitVec.toNat (BitVec.ofInt 32 (IntKind.wrap IntKind.u32 (IntKind.wrap IntKind.u32 (byteAt x0 0) * 2 ^ min (Int.toNat 24) 32)) ||| BitVec.ofInt 32 (IntKind.wrap IntKind.u32 (IntKind.wrap IntKind.u32 (byteAt x0 1) * 2 ^ min (Int.toNat 16) 32)))) : Int)) ||| BitVec.ofInt 32 (IntKind.wrap IntKind.u32 (IntKind.wrap IntKind.u32 (byteAt x0 2) * 2 ^ min (Int.toNat 8) 32)))) : Int)) ||| BitVec.ofInt 32 (IntKind.wrap IntKind.u32 (byteAt x0 3)))) : Int))) w1))))))))
theorem vc_sha_word_ok {x0 : ByteArray} {w : World} {R : Value → World → Prop} {R' : Ending → World → Prop} (h : vc_sha_word x0 w R) (hR : ∀ v w', R v w' → R' (.returned v) w') :
    Calls Tryz.prog 127 #[.string x0] w R' :=
  calls_of_body (vs := [(.string x0, false)]) (ty := ty) (ann := ⟨[], [], [(1, .quiet)], []⟩) (c := Tryz.f127.body.getD .skip) (by kernel_rfl) Tryz.func127 (by kernel_rfl) (by kernel_rfl) (Eq.mp (by kernel_rfl) h) hR
/-- math/bits.RotateLeft32 -/
def vc_bits_RotateLeft32 (x0 : Int) (x1 : Int) (w : World) (R : Value → World → Prop) : Prop :=
  (0 ≤ IntKind.wrap IntKind.u64 (↑(BitVec.toNat (BitVec.ofInt 64 (IntKind.wrap IntKind.u64 x1) &&& BitVec.ofInt 64 31)) : Int) ∧
   (0 ≤ IntKind.wrap IntKind.u64 (32 - IntKind.wrap IntKind.u64 (↑(BitVec.toNat (BitVec.ofInt 64 (IntKind.wrap IntKind.u64 x1) &&& BitVec.ofInt 64 31)) : Int)) ∧
    R (Value.int IntKind.u32 (IntKind.wrap IntKind.u32 (↑(BitVec.toNat (BitVec.ofInt 32 (IntKind.wrap IntKind.u32 (x0 * 2 ^ min (Int.toNat (IntKind.wrap IntKind.u64 (↑(BitVec.toNat (BitVec.ofInt 64 (IntKind.wrap IntKind.u64 x1) &&& BitVec.ofInt 64 31)) : Int))) 32)) ||| BitVec.ofInt 32 (Int.fdiv x0 (2 ^ min (Int.toNat (IntKind.wrap IntKind.u64 (32 - IntKind.wrap IntKind.u64 (↑(BitVec.toNat (BitVec.ofInt 64 (IntKind.wrap IntKind.u64 x1) &&& BitVec.ofInt 64 31)) : Int)))) 32)))) : Int))) w))
theorem vc_bits_RotateLeft32_ok {x0 : Int} {x1 : Int} {w : World} {R : Value → World → Prop} {R' : Ending → World → Prop} (h : vc_bits_RotateLeft32 x0 x1 w R) (hR : ∀ v w', R v w' → R' (.returned v) w') :
    Calls Tryz.prog 128 #[.int .u32 x0, .int .i64 x1] w R' :=
  calls_of_body (vs := [(.int .u32 x0, false), (.int .i64 x1, false)]) (ty := ty) (ann := ⟨[], [], [], []⟩) (c := Tryz.f128.body.getD .skip) (by kernel_rfl) Tryz.func128 (by kernel_rfl) (by kernel_rfl) (Eq.mp (by kernel_rfl) h) hR
/-- sha.start1 -/
def vc_sha_start1 (w : World) (R : Value → World → Prop) : Prop :=
  ∀ w1 : World,
  (w1 = World.alloc w (Obj.cells (Array.mk [Value.int IntKind.u32 1732584193, Value.int IntKind.u32 4023233417, Value.int IntKind.u32 2562383102, Value.int IntKind.u32 271733878, Value.int IntKind.u32 3285377520]) 104) →
    R (Value.slice (some (Addr.mk (Array.size (World.heap w)) 0 none)) 5 5) w1)
theorem vc_sha_start1_ok {w : World} {R : Value → World → Prop} {R' : Ending → World → Prop} (h : vc_sha_start1 w R) (hR : ∀ v w', R v w' → R' (.returned v) w') :
    Calls Tryz.prog 98 #[] w R' :=
  calls_of_body (vs := []) (ty := ty) (ann := ⟨[], [], [], []⟩) (c := Tryz.f98.body.getD .skip) (by kernel_rfl) Tryz.func98 (by kernel_rfl) (by kernel_rfl) (Eq.mp (by kernel_rfl) h) hR
/-- sha.block1 -/
def vc_sha_block1 (x0a : Option Addr) (x0n : Nat) (x0c : Nat) (x1 : ByteArray) (w : World) (R : Value → World → Prop) : Prop :=
  ∀ w1 : World,
  (w1 = World.alloc w (Obj.cells (Array.mk [Value.int IntKind.u32 0, Value.int IntKind.u32 0, Value.int IntKind.u32 0, Value.int IntKind.u32 0, Value.int IntKind.u32 0, Value.int IntKind.u32 0, Value.int IntKind.u32 0, Value.int IntKind.u32 0, Value.int IntKind.u32 0, Value.int IntKind.u32 0, Value.int IntKind.u32 0, Value.int IntKind.u32 0, Value.int IntKind.u32 0, Value.int IntKind.u32 0, Value.int IntKind.u32 0, Value.int IntKind.u32 0, Value.int IntKind.u32 0, Value.int IntKind.u32 0, Value.int IntKind.u32 0, Value.int IntKind.u32 0, Value.int IntKind.u32 0, Value.int IntKind.u32 0, Value.int IntKind.u32 0, Value.int IntKind.u32 0, Value.int IntKind.u32 0, Value.int IntKind.u32 0, Value.int IntKind.u32 0, Value.int IntKind.u32 0, Value.int IntKind.u32 0, Value.int IntKind.u32 0, Value.int IntKind.u32 0, Value.int IntKind.u32 0, Value.int IntKind.u32 0, Value.int IntKind.u32 0, Value.int IntKind.u32 0, Value.int IntKind.u32 0, Value.int IntKind.u32 0, Value.int IntKind.u32 0, Value.int IntKind.u32 0, Value.int IntKind.u32 0, Value.int IntKind.u32 0, Value.int IntKind.u32 0, Value.int IntKind.u32 0, Value.int IntKind.u32 0, Value.int IntKind.u32 0, Value.int IntKind.u32 0, Value.int IntKind.u32 0, Value.int IntKind.u32 0, Value.int IntKind.u32 0, Value.int IntKind.u32 0, Value.int IntKind.u32 0, Value.int IntKind.u32 0, Value.int IntKind.u32 0, Value.int IntKind.u32 0, Value.int IntKind.u32 0, Value.int IntKind.u32 0, Value.int IntKind.u32 0, Value.int IntKind.u32 0, Value.int IntKind.u32 0, Value.int IntKind.u32 0, Value.int IntKind.u32 0, Value.int IntKind.u32 0, Value.int IntKind.u32 0, Value.int IntKind.u32 0, Value.int IntKind.u32 0, Value.int IntKind.u32 0, Value.int IntKind.u32 0, Value.int IntKind.u32 0, Value.int IntKind.u32 0, Value.int IntKind.u32 0, Value.int IntKind.u32 0, Value.int IntKind.u32 0, Value.int IntKind.u32 0, Value.int IntKind.u32 0, Value.int IntKind.u32 0, Value.int IntKind.u32 0, Value.int IntKind.u32 0, Value.int IntKind.u32 0, Value.int IntKind.u32 0, Value.int IntKind.u32 0]) 174) →
    ∃ I2 : Int → World → Prop, ∃ I3 : Int → World → Nat, (I2 0 w1 ∧
     ∀ n4 : Int,
     ∀ w5 : World,
     (I2 n4 w5 →
       (((decide (n4 < 80) = true →
          (((decide (n4 < 16) = true →
             ((0 ≤ IntKind.wrap IntKind.i64 (4 * n4) ∧
               IntKind.wrap IntKind.i64 (4 * n4) ≤ (↑(ByteArray.size x1) : Int)) ∧
              Calls Tryz.prog (127 : Nat) (Array.mk [Value.string (ByteArray.extract x1 (Int.toNat (IntKind.wrap IntKind.i64 (4 * n4))) (ByteArray.size x1))]) (w5) (fun e6 w7 =>
                ∃ n8 : Int, (e6 = Ending.returned (Value.int IntKind.u32 n8) ∧
                 ((0 ≤ n4 ∧
                   n4 < (↑80 : Int)) ∧
                  (Wr w7 (Addr.add (Addr.mk (Array.size (World.heap w)) 0 none) (Int.toNat n4 * 1)) ∧
                   ∀ w9 : World,
                   (w9 = World.setCell w7 (Addr.add (Addr.mk (Array.size (World.heap w)) 0 none) (Int.toNat n4 * 1)) (Value.int IntKind.u32 n8) →
                     (I2 (IntKind.wrap IntKind.i64 (n4 + 1)) w9 ∧
                      I3 (IntKind.wrap IntKind.i64 (n4 + 1)) w9 < I3 n4 w5))))))))) ∧
           (decide (n4 < 16) = false →
             ∀ w10 : World,
             (Drew w5 w10 →
               ∃ I11 : World → Prop, (I11 w10 ∧
                ((0 ≤ IntKind.wrap IntKind.i64 (n4 - 3) ∧
                  IntKind.wrap IntKind.i64 (n4 - 3) < (↑80 : Int)) ∧
                 ∃ n12 : Int, ((∀ w13 : World,
                  (I11 w13 →
                    World.cell? w13 (Addr.add (Addr.mk (Array.size (World.heap w)) 0 none) (Int.toNat (IntKind.wrap IntKind.i64 (n4 - 3)) * 1)) = some (Value.int IntKind.u32 n12))) ∧
                  ((0 ≤ IntKind.wrap IntKind.i64 (n4 - 8) ∧
                    IntKind.wrap IntKind.i64 (n4 - 8) < (↑80 : Int)) ∧
                   ∃ n14 : Int, ((∀ w15 : World,
                    (I11 w15 →
                      World.cell? w15 (Addr.add (Addr.mk (Array.size (World.heap w)) 0 none) (Int.toNat (IntKind.wrap IntKind.i64 (n4 - 8)) * 1)) = some (Value.int IntKind.u32 n14))) ∧
                    ((0 ≤ IntKind.wrap IntKind.i64 (n4 - 14) ∧
                      IntKind.wrap IntKind.i64 (n4 - 14) < (↑80 : Int)) ∧
                     ∃ n16 : Int, ((∀ w17 : World,
                      (I11 w17 →
                        World.cell? w17 (Addr.add (Addr.mk (Array.size (World.heap w)) 0 none) (Int.toNat (IntKind.wrap IntKind.i64 (n4 - 14)) * 1)) = some (Value.int IntKind.u32 n16))) ∧
                      ((0 ≤ IntKind.wrap IntKind.i64 (n4 - 16) ∧
                        IntKind.wrap IntKind.i64 (n4 - 16) < (↑80 : Int)) ∧
                       ∃ n18 : Int, ((∀ w19 : World,
                        (I11 w19 →
                          World.cell? w19 (Addr.add (Addr.mk (Array.size (World.heap w)) 0 none) (Int.toNat (IntKind.wrap IntKind.i64 (n4 - 16)) * 1)) = some (Value.int IntKind.u32 n18))) ∧
                        Calls Tryz.prog (128 : Nat) (Array.mk [Value.int IntKind.u32 (IntKind.wrap IntKind.u32 (↑(BitVec.toNat (BitVec.ofInt 32 (IntKind.wrap IntKind.u32 (↑(BitVec.toNat (BitVec.ofInt 32 (IntKind.wrap IntKind.u32 (↑(BitVec.toNat (BitVec.ofInt 32 n12 ^^^ BitVec.ofInt 32 n14)) : Int)) ^^^ BitVec.ofInt 32 n16)) : Int)) ^^^ BitVec.ofInt 32 n18)) : Int)), Value.int IntKind.i64 1]) (w10) (fun e20 w21 =>
                          ∃ n22 : Int, (e20 = Ending.returned (Value.int IntKind.u32 n22) ∧
                           (I11 w21 ∧
                            ((0 ≤ n4 ∧
                              n4 < (↑80 : Int)) ∧
                             (Wr w21 (Addr.add (Addr.mk (Array.size (World.heap w)) 0 none) (Int.toNat n4 * 1)) ∧
                              ∀ w23 : World,
                              (w23 = World.setCell w21 (Addr.add (Addr.mk (Array.size (World.heap w)) 0 none) (Int.toNat n4 * 1)) (Value.int IntKind.u32 n22) →
                                (I2 (IntKind.wrap IntKind.i64 (n4 + 1)) w23 ∧
                                 I3 (IntKind.wrap IntKind.i64 (n4 + 1)) w23 < I3 n4 w5))))))))))))))))))))) ∧
        (decide (n4 < 80) = false →
          (((0 : Int) ≤ (0 : Int) ∧
            0 < (↑x0n : Int)) ∧
           ∃ a24 : Addr, (x0a = some a24 ∧
            ∃ n25 : Int, (World.cell? w5 (Addr.add a24 (Int.toNat 0 * 1)) = some (Value.int IntKind.u32 n25) ∧
             (((0 : Int) ≤ (1 : Int) ∧
               1 < (↑x0n : Int)) ∧
              ∃ a26 : Addr, (x0a = some a26 ∧
               ∃ n27 : Int, (World.cell? w5 (Addr.add a26 (Int.toNat 1 * 1)) = some (Value.int IntKind.u32 n27) ∧
                (((0 : Int) ≤ (2 : Int) ∧
                  2 < (↑x0n : Int)) ∧
                 ∃ a28 : Addr, (x0a = some a28 ∧
                  ∃ n29 : Int, (World.cell? w5 (Addr.add a28 (Int.toNat 2 * 1)) = some (Value.int IntKind.u32 n29) ∧
                   (((0 : Int) ≤ (3 : Int) ∧
                     3 < (↑x0n : Int)) ∧
                    ∃ a30 : Addr, (x0a = some a30 ∧
                     ∃ n31 : Int, (World.cell? w5 (Addr.add a30 (Int.toNat 3 * 1)) = some (Value.int IntKind.u32 n31) ∧
                      (((0 : Int) ≤ (4 : Int) ∧
                        4 < (↑x0n : Int)) ∧
                       ∃ a32 : Addr, (x0a = some a32 ∧
                        ∃ n33 : Int, (World.cell? w5 (Addr.add a32 (Int.toNat 4 * 1)) = some (Value.int IntKind.u32 n33) ∧
                         ∀ w34 : World,
                         (Drew w5 w34 →
                           ∃ v35 : Value, (Sem.run Tryz.prog (loadVar 174 (Addr.mk (Array.size (World.heap w)) 0 none)) w34 = Result.ok v35 w34 ∧
                            ∃ I36 : Int → Int → Int → Int → Int → Int → World → Prop, ∃ I37 : Int → Int → Int → Int → Int → Int → World → Nat, (I36 n25 n27 n29 n31 n33 0 w34 ∧
                             ∀ n38 : Int,
                             ∀ n39 : Int,
                             ∀ n40 : Int,
                             ∀ n41 : Int,
                             ∀ n42 : Int,
                             ∀ n43 : Int,
                             ∀ w44 : World,
                             (I36 n38 n39 n40 n41 n42 n43 w44 →
                               (((decide (n43 < 80) = true →
                                  ∃ w45 : World, ∃ n46 : Int, (Sem.run Tryz.prog (Instr.index 174 v35 (Value.int IntKind.i64 n43)) w44 = Result.ok (Value.int IntKind.u32 n46) w45 ∧
                                   ∃ I47 : Int → Int → World → Prop, (((20 : Int) ≠ (0 : Int) ∧
                                     ((((IntKind.wrap IntKind.i64 (Int.tdiv n43 20) == 0) = true →
                                        (I47 (IntKind.wrap IntKind.u32 (↑(BitVec.toNat (BitVec.ofInt 32 (IntKind.wrap IntKind.u32 (↑(BitVec.toNat (BitVec.ofInt 32 n39 &&& BitVec.ofInt 32 n40)) : Int)) ||| BitVec.ofInt 32 (IntKind.wrap IntKind.u32 (↑(BitVec.toNat (BitVec.ofInt 32 (IntKind.wrap IntKind.u32 (↑(BitVec.toNat (BitVec.ofInt 32 (if IntKind.signed IntKind.u32 = true then -1 else Int.ofNat (2 ^ 32 - Nat.succ 0)) ^^^ BitVec.ofInt 32 n39)) : Int)) &&& BitVec.ofInt 32 n41)) : Int)))) : Int)) 1518500249 w45))) ∧
                                      ((IntKind.wrap IntKind.i64 (Int.tdiv n43 20) == 0) = false →
                                        ((((IntKind.wrap IntKind.i64 (Int.tdiv n43 20) == 1) = true →
                                           I47 (IntKind.wrap IntKind.u32 (↑(BitVec.toNat (BitVec.ofInt 32 (IntKind.wrap IntKind.u32 (↑(BitVec.toNat (BitVec.ofInt 32 n39 ^^^ BitVec.ofInt 32 n40)) : Int)) ^^^ BitVec.ofInt 32 n41)) : Int)) 1859775393 w45)) ∧
                                         ((IntKind.wrap IntKind.i64 (Int.tdiv n43 20) == 1) = false →
                                           ((((IntKind.wrap IntKind.i64 (Int.tdiv n43 20) == 2) = true →
                                              I47 (IntKind.wrap IntKind.u32 (↑(BitVec.toNat (BitVec.ofInt 32 (IntKind.wrap IntKind.u32 (↑(BitVec.toNat (BitVec.ofInt 32 (IntKind.wrap IntKind.u32 (↑(BitVec.toNat (BitVec.ofInt 32 n39 &&& BitVec.ofInt 32 n40)) : Int)) ||| BitVec.ofInt 32 (IntKind.wrap IntKind.u32 (↑(BitVec.toNat (BitVec.ofInt 32 n39 &&& BitVec.ofInt 32 n41)) : Int)))) : Int)) ||| BitVec.ofInt 32 (IntKind.wrap IntKind.u32 (↑(BitVec.toNat (BitVec.ofInt 32 n40 &&& BitVec.ofInt 32 n41)) : Int)))) : Int)) 2400959708 w45)) ∧
                                            ((IntKind.wrap IntKind.i64 (Int.tdiv n43 20) == 2) = false →
                                              I47 (IntKind.wrap IntKind.u32 (↑(BitVec.toNat (BitVec.ofInt 32 (IntKind.wrap IntKind.u32 (↑(BitVec.toNat (BitVec.ofInt 32 n39 ^^^ BitVec.ofInt 32 n40)) : Int)) ^^^ BitVec.ofInt 32 n41)) : Int)) 3395469782 w45))))))) ∧
                                    ∀ n48 : Int,
                                    ∀ n49 : Int,
                                    ∀ w50 : World,
                                    (I47 n48 n49 w50 →
                                      Calls Tryz.prog (128 : Nat) (Array.mk [Value.int IntKind.u32 n38, Value.int IntKind.i64 5]) (w50) (fun e51 w52 =>
                                        ∃ n53 : Int, (e51 = Ending.returned (Value.int IntKind.u32 n53) ∧
                                         Calls Tryz.prog (128 : Nat) (Array.mk [Value.int IntKind.u32 n39, Value.int IntKind.i64 30]) (w52) (fun e54 w55 =>
                                           ∃ n56 : Int, (e54 = Ending.returned (Value.int IntKind.u32 n56) ∧
                                            (I36 (IntKind.wrap IntKind.u32 (IntKind.wrap IntKind.u32 (IntKind.wrap IntKind.u32 (IntKind.wrap IntKind.u32 (n53 + n48) + n42) + n49) + n46)) n38 n56 n40 n41 (IntKind.wrap IntKind.i64 (n43 + 1)) w55 ∧
                                             I37 (IntKind.wrap IntKind.u32 (IntKind.wrap IntKind.u32 (IntKind.wrap IntKind.u32 (IntKind.wrap IntKind.u32 (n53 + n48) + n42) + n49) + n46)) n38 n56 n40 n41 (IntKind.wrap IntKind.i64 (n43 + 1)) w55 < I37 n38 n39 n40 n41 n42 n43 w44)))))))))) ∧
                                (decide (n43 < 80) = false →
                                  (((0 : Int) ≤ (0 : Int) ∧
                                    0 < (↑x0n : Int)) ∧
                                   ∃ a57 : Addr, (x0a = some a57 ∧
                                    ∃ n58 : Int, (World.cell? w44 (Addr.add a57 (Int.toNat 0 * 1)) = some (Value.int IntKind.u32 n58) ∧
                                     (((0 : Int) ≤ (0 : Int) ∧
                                       0 < (↑x0n : Int)) ∧
                                      ∃ a59 : Addr, (x0a = some a59 ∧
                                       (Wr w44 (Addr.add a59 (Int.toNat 0 * 1)) ∧
                                        ∀ w60 : World,
                                        (w60 = World.setCell w44 (Addr.add a59 (Int.toNat 0 * 1)) (Value.int IntKind.u32 (IntKind.wrap IntKind.u32 (n58 + n38))) →
                                          (((0 : Int) ≤ (1 : Int) ∧
                                            1 < (↑x0n : Int)) ∧
                                           ∃ a61 : Addr, (x0a = some a61 ∧
                                            ∃ n62 : Int, (World.cell? w60 (Addr.add a61 (Int.toNat 1 * 1)) = some (Value.int IntKind.u32 n62) ∧
                                             (((0 : Int) ≤ (1 : Int) ∧
                                               1 < (↑x0n : Int)) ∧
                                              ∃ a63 : Addr, (x0a = some a63 ∧
                                               (Wr w60 (Addr.add a63 (Int.toNat 1 * 1)) ∧
                                                ∀ w64 : World,
                                                (w64 = World.setCell w60 (Addr.add a63 (Int.toNat 1 * 1)) (Value.int IntKind.u32 (IntKind.wrap IntKind.u32 (n62 + n39))) →
                                                  (((0 : Int) ≤ (2 : Int) ∧
                                                    2 < (↑x0n : Int)) ∧
                                                   ∃ a65 : Addr, (x0a = some a65 ∧
                                                    ∃ n66 : Int, (World.cell? w64 (Addr.add a65 (Int.toNat 2 * 1)) = some (Value.int IntKind.u32 n66) ∧
                                                     (((0 : Int) ≤ (2 : Int) ∧
                                                       2 < (↑x0n : Int)) ∧
                                                      ∃ a67 : Addr, (x0a = some a67 ∧
                                                       (Wr w64 (Addr.add a67 (Int.toNat 2 * 1)) ∧
                                                        ∀ w68 : World,
                                                        (w68 = World.setCell w64 (Addr.add a67 (Int.toNat 2 * 1)) (Value.int IntKind.u32 (IntKind.wrap IntKind.u32 (n66 + n40))) →
                                                          (((0 : Int) ≤ (3 : Int) ∧
                                                            3 < (↑x0n : Int)) ∧
                                                           ∃ a69 : Addr, (x0a = some a69 ∧
                                                            ∃ n70 : Int, (World.cell? w68 (Addr.add a69 (Int.toNat 3 * 1)) = some (Value.int IntKind.u32 n70) ∧
                                                             (((0 : Int) ≤ (3 : Int) ∧
                                                               3 < (↑x0n : Int)) ∧
                                                              ∃ a71 : Addr, (x0a = some a71 ∧
                                                               (Wr w68 (Addr.add a71 (Int.toNat 3 * 1)) ∧
                                                                ∀ w72 : World,
                                                                (w72 = World.setCell w68 (Addr.add a71 (Int.toNat 3 * 1)) (Value.int IntKind.u32 (IntKind.wrap IntKind.u32 (n70 + n41))) →
                                                                  (((0 : Int) ≤ (4 : Int) ∧
                                                                    4 < (↑x0n : Int)) ∧
                                                                   ∃ a73 : Addr, (x0a = some a73 ∧
                                                                    ∃ n74 : Int, (World.cell? w72 (Addr.add a73 (Int.toNat 4 * 1)) = some (Value.int IntKind.u32 n74) ∧
                                                                     (((0 : Int) ≤ (4 : Int) ∧
                                                                       4 < (↑x0n : Int)) ∧
                                                                      ∃ a75 : Addr, (x0a = some a75 ∧
                                                                       (Wr w72 (Addr.add a75 (Int.toNat 4 * 1)) ∧
                                                                        ∀ w76 : World,
                                                                        (w76 = World.setCell w72 (Addr.add a75 (Int.toNat 4 * 1)) (Value.int IntKind.u32 (IntKind.wrap IntKind.u32 (n74 + n42))) →
                                                                          R (Value.tuple (Array.mk [])) w76)))))))))))))))))))))))))))))))))))))))))))))))))))))))))))))
theorem vc_sha_block1_ok {x0a : Option Addr} {x0n : Nat} {x0c : Nat} {x1 : ByteArray} {w : World} {R : Value → World → Prop} {R' : Ending → World → Prop} (h : vc_sha_block1 x0a x0n x0c x1 w R) (hR : ∀ v w', R v w' → R' (.returned v) w') :
    Calls Tryz.prog 99 #[.slice x0a x0n x0c, .string x1] w R' :=
  calls_of_body (vs := [(.slice x0a x0n x0c, false), (.string x1, false)]) (ty := ty) (ann := ⟨[(20, [(13, .int .u32), (14, .int .u32)])], [(2, [(15, .int .i64)]), (10, [(6, .int .u32), (7, .int .u32), (8, .int .u32), (9, .int .u32), (10, .int .u32), (66, .int .i64)])], [(6, .held [(0, true), (1, true), (2, true), (3, true), (4, true), (5, true), (6, true), (7, true), (8, true), (9, true), (10, true), (11, true), (12, true), (13, true), (14, true), (15, true), (16, true), (17, true), (18, true), (19, true), (20, false), (21, true), (22, false)]), (8, .quiet)], []⟩) (c := Tryz.f99.body.getD .skip) (by kernel_rfl) Tryz.func99 (by kernel_rfl) (by kernel_rfl) (Eq.mp (by kernel_rfl) h) hR
/-- (*sha.hash).write#1 -/
def vc_sha_hash_write_1 (x0 : Nat) (x1 : ByteArray) (x2a : Option Addr) (x2n : Nat) (x2c : Nat) (w : World) (R : Value → World → Prop) : Prop :=
  ∃ I1 : World → Prop, ((∃ l2 : Sl, (World.cell? w (Addr.mk x0 0 none) = some (Value.slice l2.1 l2.2 l2.3) ∧
    (((Option.isNone l2.1 = true →
       ∃ w3 : World, ∃ l4 : Sl, (Sem.run Tryz.prog (Builtin.append_ (Array.mk [94, 94]) 94 (Array.mk [Value.slice none 0 0, Value.slice x2a x2n x2c])) w = Result.ok (Value.slice l4.1 l4.2 l4.3) w3 ∧
        (Wr w3 (Addr.mk x0 0 none) ∧
         ∀ w5 : World,
         (w5 = World.setCell w3 (Addr.mk x0 0 none) (Value.slice l4.1 l4.2 l4.3) →
           I1 w5))))) ∧
     (Option.isNone l2.1 = false →
       I1 w)))) ∧
   ∀ w6 : World,
   (I1 w6 →
     ∃ n7 : Int, (World.cell? w6 (Addr.mk x0 2 none) = some (Value.int IntKind.u64 n7) ∧
      (Wr w6 (Addr.mk x0 2 none) ∧
       ∀ w8 : World,
       (w8 = World.setCell w6 (Addr.mk x0 2 none) (Value.int IntKind.u64 (IntKind.wrap IntKind.u64 (n7 + IntKind.wrap IntKind.u64 (↑(ByteArray.size x1) : Int)))) →
         ∃ s9 : ByteArray, (World.cell? w8 (Addr.mk x0 1 none) = some (Value.string s9) ∧
          (ByteArray.size s9 + ByteArray.size x1 ≤ 9223372036854775807 ∧
           ∃ I10 : ByteArray → World → Prop, ∃ I11 : ByteArray → World → Nat, (I10 (s9 ++ x1) w8 ∧
            ∀ s12 : ByteArray,
            ∀ w13 : World,
            (I10 s12 w13 →
              (((decide ((↑(ByteArray.size s12) : Int) ≥ 64) = true →
                 ∀ w14 : World,
                 (Drew w13 w14 →
                   ∃ I15 : World → Prop, (I15 w14 ∧
                    ∃ l16 : Sl, ((∀ w17 : World,
                     (I15 w17 →
                       World.cell? w17 (Addr.mk x0 0 none) = some (Value.slice l16.1 l16.2 l16.3))) ∧
                     (((0 : Int) ≤ (64 : Int) ∧
                       64 ≤ (↑(ByteArray.size s12) : Int)) ∧
                      Calls Tryz.prog (99 : FuncId) (Array.mk [Value.slice l16.1 l16.2 l16.3, Value.string (ByteArray.extract s12 0 (Int.toNat 64))]) (w14) (fun e18 w19 =>
                        (e18 = Ending.returned (Value.tuple (Array.mk [])) ∧
                         (((0 : Int) ≤ (64 : Int) ∧
                           64 ≤ (↑(ByteArray.size s12) : Int)) ∧
                          (I10 (ByteArray.extract s12 (Int.toNat 64) (ByteArray.size s12)) w19 ∧
                           I11 (ByteArray.extract s12 (Int.toNat 64) (ByteArray.size s12)) w19 < I11 s12 w13)))))))))) ∧
               (decide ((↑(ByteArray.size s12) : Int) ≥ 64) = false →
                 (Wr w13 (Addr.mk x0 1 none) ∧
                  ∀ w20 : World,
                  (w20 = World.setCell w13 (Addr.mk x0 1 none) (Value.string s12) →
                    R (Value.tuple (Array.mk [])) w20)))))))))))))
theorem vc_sha_hash_write_1_ok {x0 : Nat} {x1 : ByteArray} {x2a : Option Addr} {x2n : Nat} {x2c : Nat} {w : World} {R : Value → World → Prop} {R' : Ending → World → Prop} (h : vc_sha_hash_write_1 x0 x1 x2a x2n x2c w R) (hR : ∀ v w', R v w' → R' (.returned v) w') :
    Calls Tryz.prog 97 #[.pointer (some ⟨x0, 0, none⟩), .string x1, .slice x2a x2n x2c, .func (.func 99) #[] #[]] w R' :=
  calls_of_body (vs := [(.pointer (some ⟨x0, 0, none⟩), true), (.string x1, false), (.slice x2a x2n x2c, false), (.func (.func 99) #[] #[], false)]) (ty := ty) (ann := ⟨[(2, [])], [(4, [(1, .str)])], [(5, .held [(0, true), (1, true), (2, true), (3, true), (4, true), (5, true), (6, true), (7, false)])], []⟩) (c := Tryz.f97.body.getD .skip) (by kernel_rfl) Tryz.func97 (by kernel_rfl) (by kernel_rfl) (Eq.mp (by kernel_rfl) h) hR
/-- (*sha.hash).sum#1 -/
def vc_sha_hash_sum_1 (x0 : Nat) (x1a : Option Addr) (x1n : Nat) (x1c : Nat) (w : World) (R : Value → World → Prop) : Prop :=
  ∃ I1 : Addr → World → Prop, ((∀ w2 : World,
   (Drew w w2 →
     ∃ I3 : World → Prop, (I3 w2 ∧
      ∃ l4 : Sl, ((∀ w5 : World,
       (I3 w5 →
         World.cell? w5 (Addr.mk x0 0 none) = some (Value.slice l4.1 l4.2 l4.3))) ∧
       ∃ s6 : ByteArray, ((∀ w7 : World,
        (I3 w7 →
          World.cell? w7 (Addr.mk x0 1 none) = some (Value.string s6))) ∧
        ∃ n8 : Int, ((∀ w9 : World,
         (I3 w9 →
           World.cell? w9 (Addr.mk x0 2 none) = some (Value.int IntKind.u64 n8))) ∧
         ((∃ w10 : World, ∃ l11 : Sl, (Sem.run Tryz.prog (Builtin.append_ (Array.mk [94, 94]) 94 (Array.mk [Value.slice none 0 0, Value.slice l4.1 l4.2 l4.3])) w2 = Result.ok (Value.slice l11.1 l11.2 l11.3) w10 ∧
           (I3 w10 ∧
            ∀ w12 : World,
            (w12 = World.alloc w10 (Obj.cells (Array.mk [Value.slice none 0 0, Value.string (ByteArray.mk (Array.mk [])), Value.int IntKind.u64 0]) 97) →
              (I3 w12 ∧
               ∃ w13 : World, (Sem.run Tryz.prog (storeVar 97 (Addr.mk (Array.size (World.heap w10)) 0 none) (Value.agg (Array.mk [Value.slice l11.1 l11.2 l11.3, Value.string s6, Value.int IntKind.u64 n8]))) w12 = Result.ok PUnit.unit w13 ∧
                I1 (Addr.mk (Array.size (World.heap w10)) 0 none) w13)))))) ∧
          ∀ w14 : World,
          (w14 = World.alloc w2 (Obj.cells (Array.mk [Value.slice none 0 0, Value.string (ByteArray.mk (Array.mk [])), Value.int IntKind.u64 0]) 97) →
            (I3 w14 ∧
             ∃ w15 : World, ∃ l16 : Sl, (Sem.run Tryz.prog (Builtin.append_ (Array.mk [94, 94]) 94 (Array.mk [Value.slice none 0 0, Value.slice l4.1 l4.2 l4.3])) w14 = Result.ok (Value.slice l16.1 l16.2 l16.3) w15 ∧
              (I3 w15 ∧
               ∃ w17 : World, (Sem.run Tryz.prog (storeVar 97 (Addr.mk (Array.size (World.heap w2)) 0 none) (Value.agg (Array.mk [Value.slice l16.1 l16.2 l16.3, Value.string s6, Value.int IntKind.u64 n8]))) w15 = Result.ok PUnit.unit w17 ∧
                I1 (Addr.mk (Array.size (World.heap w2)) 0 none) w17)))))))))))) ∧
   ∀ a18 : Addr,
   ∀ w19 : World,
   (I1 a18 w19 →
     ∃ I20 : World → Prop, ((∃ l21 : Sl, (World.cell? w19 (Addr.mk x0 0 none) = some (Value.slice l21.1 l21.2 l21.3) ∧
       (((Option.isNone l21.1 = true →
          (Wr w19 a18 ∧
           ∀ w22 : World,
           (w22 = World.setCell w19 a18 (Value.slice none 0 0) →
             I20 w22)))) ∧
        (Option.isNone l21.1 = false →
          I20 w19)))) ∧
      ∀ w23 : World,
      (I20 w23 →
        ∃ I24 : ByteArray → World → Prop, ∃ I25 : ByteArray → World → Nat, (I24 (ByteArray.mk (Array.mk [128])) w23 ∧
         ∀ s26 : ByteArray,
         ∀ w27 : World,
         (I24 s26 w27 →
           ∃ s28 : ByteArray, (World.cell? w27 (Addr.mk x0 1 none) = some (Value.string s28) ∧
            ((64 : Int) ≠ (0 : Int) ∧
             ((((Int.tmod (IntKind.wrap IntKind.i64 ((↑(ByteArray.size s28) : Int) + (↑(ByteArray.size s26) : Int))) 64 != 56) = true →
                (ByteArray.size s26 + ByteArray.size (ByteArray.mk (Array.mk [0])) ≤ 9223372036854775807 ∧
                 (I24 (s26 ++ ByteArray.mk (Array.mk [0])) w27 ∧
                  I25 (s26 ++ ByteArray.mk (Array.mk [0])) w27 < I25 s26 w27)))) ∧
              ((Int.tmod (IntKind.wrap IntKind.i64 ((↑(ByteArray.size s28) : Int) + (↑(ByteArray.size s26) : Int))) 64 != 56) = false →
                ∃ I29 : Sl → Int → World → Prop, ∃ I30 : Sl → Int → World → Nat, (I29 (Sl.mk none 0 0) 56 w27 ∧
                 ∀ l31 : Sl,
                 ∀ n32 : Int,
                 ∀ w33 : World,
                 (I29 l31 n32 w33 →
                   (((decide (n32 ≥ 0) = true →
                      ∃ n34 : Int, (World.cell? w33 (Addr.mk x0 2 none) = some (Value.int IntKind.u64 n34) ∧
                       (0 ≤ n32 ∧
                        ∀ w35 : World,
                        (w35 = World.alloc w33 (Obj.cells (Array.mk [Value.int IntKind.u8 (IntKind.wrap IntKind.u8 (Int.fdiv (IntKind.wrap IntKind.u64 (n34 * 8)) (2 ^ min (Int.toNat n32) 64)))]) 5) →
                          ∃ w36 : World, ∃ l37 : Sl, (Sem.run Tryz.prog (Builtin.append_ (Array.mk [43, 43]) 43 (Array.mk [Value.slice l31.1 l31.2 l31.3, Value.slice (some (Addr.mk (Array.size (World.heap w33)) 0 none)) 1 1])) w35 = Result.ok (Value.slice l37.1 l37.2 l37.3) w36 ∧
                           (I29 (Sl.mk l37.1 l37.2 l37.3) (IntKind.wrap IntKind.i64 (n32 - 8)) w36 ∧
                            I30 (Sl.mk l37.1 l37.2 l37.3) (IntKind.wrap IntKind.i64 (n32 - 8)) w36 < I30 l31 n32 w33))))))) ∧
                    (decide (n32 ≥ 0) = false →
                      ∃ w38 : World, ∃ s39 : ByteArray, (Sem.run Tryz.prog (convert 43 9 (Value.slice l31.1 l31.2 l31.3)) w33 = Result.ok (Value.string s39) w38 ∧
                       (ByteArray.size s26 + ByteArray.size s39 ≤ 9223372036854775807 ∧
                        Calls Tryz.prog (97 : Nat) (Array.mk [Value.pointer (some a18), Value.string (s26 ++ s39), Value.slice x1a x1n x1c, Value.func (Fn.func 99) (Array.mk []) (Array.mk [])]) (w38) (fun e40 w41 =>
                          (e40 = Ending.returned (Value.tuple (Array.mk [])) ∧
                           ∃ l42 : Sl, (World.cell? w41 a18 = some (Value.slice l42.1 l42.2 l42.3) ∧
                            ∃ I43 : Sl → Int → World → Prop, ∃ I44 : Sl → Int → World → Nat, (I43 (Sl.mk none 0 0) 0 w41 ∧
                             ∀ l45 : Sl,
                             ∀ n46 : Int,
                             ∀ w47 : World,
                             (I43 l45 n46 w47 →
                               (((decide (n46 < (↑l42.2 : Int)) = true →
                                  ((0 ≤ n46 ∧
                                    n46 < (↑l42.2 : Int)) ∧
                                   ∃ a48 : Addr, (l42.1 = some a48 ∧
                                    ∃ n49 : Int, (World.cell? w47 (Addr.add a48 (Int.toNat n46 * 1)) = some (Value.int IntKind.u32 n49) ∧
                                     ((0 : Int) ≤ (24 : Int) ∧
                                      ((0 : Int) ≤ (16 : Int) ∧
                                       ((0 : Int) ≤ (8 : Int) ∧
                                        ∀ w50 : World,
                                        (w50 = World.alloc w47 (Obj.cells (Array.mk [Value.int IntKind.u8 (IntKind.wrap IntKind.u8 (Int.fdiv n49 (2 ^ min (Int.toNat 24) 32))), Value.int IntKind.u8 (IntKind.wrap IntKind.u8 (Int.fdiv n49 (2 ^ min (Int.toNat 16) 32))), Value.int IntKind.u8 (IntKind.wrap IntKind.u8 (Int.fdiv n49 (2 ^ min (Int.toNat 8) 32))), Value.int IntKind.u8 (IntKind.wrap IntKind.u8 n49)]) 5) →
                                          ∃ w51 : World, ∃ l52 : Sl, (Sem.run Tryz.prog (Builtin.append_ (Array.mk [43, 43]) 43 (Array.mk [Value.slice l45.1 l45.2 l45.3, Value.slice (some (Addr.mk (Array.size (World.heap w47)) 0 none)) 4 4])) w50 = Result.ok (Value.slice l52.1 l52.2 l52.3) w51 ∧
                                           (I43 (Sl.mk l52.1 l52.2 l52.3) (IntKind.wrap IntKind.i64 (n46 + 1)) w51 ∧
                                            I44 (Sl.mk l52.1 l52.2 l52.3) (IntKind.wrap IntKind.i64 (n46 + 1)) w51 < I44 l45 n46 w47))))))))))) ∧
                                (decide (n46 < (↑l42.2 : Int)) = false →
                                  ∃ w53 : World, ∃ s54 : ByteArray, (Sem.run Tryz.prog (convert 43 9 (Value.slice l45.1 l45.2 l45.3)) w47 = Result.ok (Value.string s54) w53 ∧
                                   R (Value.string s54) w53))))))))))))))))))))))))
theorem vc_sha_hash_sum_1_ok {x0 : Nat} {x1a : Option Addr} {x1n : Nat} {x1c : Nat} {w : World} {R : Value → World → Prop} {R' : Ending → World → Prop} (h : vc_sha_hash_sum_1 x0 x1a x1n x1c w R) (hR : ∀ v w', R v w' → R' (.returned v) w') :
    Calls Tryz.prog 100 #[.pointer (some ⟨x0, 0, none⟩), .slice x1a x1n x1c, .func (.func 99) #[] #[]] w R' :=
  calls_of_body (vs := [(.pointer (some ⟨x0, 0, none⟩), true), (.slice x1a x1n x1c, false), (.func (.func 99) #[] #[], false)]) (ty := ty) (ann := ⟨[(2, [(7, .addr)]), (4, [])], [(5, [(8, .str)]), (9, [(9, .slice), (10, .int .i64)]), (15, [(11, .slice), (71, .int .i64)])], [(1, .tree (.rd 0 (.rd 1 (.rd 2 (.rd 3 (.rd 5 (.rd 6 (.rd 7 (.rd 8 (.rd 9 (.rd 10 (.rd 11 (.rd 12 (.ef 4 (.rd 13 (.ef 14 (.ef 15 .done .done) .done)) (.ef 14 (.ef 4 (.rd 13 (.ef 15 .done .done)) .done) .done)))))))))))))))], []⟩) (c := Tryz.f100.body.getD .skip) (by kernel_rfl) Tryz.func100 (by kernel_rfl) (by kernel_rfl) (Eq.mp (by kernel_rfl) h) hR
/-- (*sha.Hash1).Write -/
def vc_sha_Hash1_Write (x0 : Nat) (x1 : ByteArray) (w : World) (R : Value → World → Prop) : Prop :=
  ∀ w1 : World,
  (Drew w w1 →
    ∃ I2 : World → Prop, (I2 w1 ∧
     Calls Tryz.prog (98 : Nat) (Array.mk []) (w1) (fun e3 w4 =>
       ∃ l5 : Sl, (e3 = Ending.returned (Value.slice l5.1 l5.2 l5.3) ∧
        (I2 w4 ∧
         Calls Tryz.prog (97 : Nat) (Array.mk [Value.pointer (some (Addr.mk x0 0 none)), Value.string x1, Value.slice l5.1 l5.2 l5.3, Value.func (Fn.func 99) (Array.mk []) (Array.mk [])]) (w4) (fun e6 w7 =>
           (e6 = Ending.returned (Value.tuple (Array.mk [])) ∧
            R (Value.tuple (Array.mk [])) w7)))))))
theorem vc_sha_Hash1_Write_ok {x0 : Nat} {x1 : ByteArray} {w : World} {R : Value → World → Prop} {R' : Ending → World → Prop} (h : vc_sha_Hash1_Write x0 x1 w R) (hR : ∀ v w', R v w' → R' (.returned v) w') :
    Calls Tryz.prog 54 #[.pointer (some ⟨x0, 0, none⟩), .string x1] w R' :=
  calls_of_body (vs := [(.pointer (some ⟨x0, 0, none⟩), true), (.string x1, false)]) (ty := ty) (ann := ⟨[], [], [(0, .held [(0, true), (1, true), (2, true), (3, true), (4, false), (5, false)])], []⟩) (c := Tryz.f54.body.getD .skip) (by kernel_rfl) Tryz.func54 (by kernel_rfl) (by kernel_rfl) (Eq.mp (by kernel_rfl) h) hR
/-- (*sha.Hash1).Sum -/
def vc_sha_Hash1_Sum (x0 : Nat) (w : World) (R : Value → World → Prop) : Prop :=
  ∀ w1 : World,
  (Drew w w1 →
    ∃ I2 : World → Prop, (I2 w1 ∧
     Calls Tryz.prog (98 : Nat) (Array.mk []) (w1) (fun e3 w4 =>
       ∃ l5 : Sl, (e3 = Ending.returned (Value.slice l5.1 l5.2 l5.3) ∧
        (I2 w4 ∧
         Calls Tryz.prog (100 : Nat) (Array.mk [Value.pointer (some (Addr.mk x0 0 none)), Value.slice l5.1 l5.2 l5.3, Value.func (Fn.func 99) (Array.mk []) (Array.mk [])]) (w4) (fun e6 w7 =>
           ∃ s8 : ByteArray, (e6 = Ending.returned (Value.string s8) ∧
            (I2 w7 ∧
             R (Value.string s8) w7))))))))
theorem vc_sha_Hash1_Sum_ok {x0 : Nat} {w : World} {R : Value → World → Prop} {R' : Ending → World → Prop} (h : vc_sha_Hash1_Sum x0 w R) (hR : ∀ v w', R v w' → R' (.returned v) w') :
    Calls Tryz.prog 55 #[.pointer (some ⟨x0, 0, none⟩)] w R' :=
  calls_of_body (vs := [(.pointer (some ⟨x0, 0, none⟩), true)]) (ty := ty) (ann := ⟨[], [], [(1, .held [(0, true), (1, true), (2, true), (3, false), (4, false), (5, true)])], []⟩) (c := Tryz.f55.body.getD .skip) (by kernel_rfl) Tryz.func55 (by kernel_rfl) (by kernel_rfl) (Eq.mp (by kernel_rfl) h) hR
/-- sha.Sum1 -/
def vc_sha_Sum1 (x0 : ByteArray) (w : World) (R : Value → World → Prop) : Prop :=
  ∀ w1 : World,
  (w1 = World.alloc w (Obj.cells (Array.mk [Value.slice none 0 0, Value.string (ByteArray.mk (Array.mk [])), Value.int IntKind.u64 0]) 99) →
    Calls Tryz.prog (54 : Nat) (Array.mk [Value.pointer (some (Addr.mk (Array.size (World.heap w)) 0 none)), Value.string x0]) (w1) (fun e2 w3 =>
      (e2 = Ending.returned (Value.tuple (Array.mk [])) ∧
       Calls Tryz.prog (55 : Nat) (Array.mk [Value.pointer (some (Addr.mk (Array.size (World.heap w)) 0 none))]) (w3) (fun e4 w5 =>
         ∃ s6 : ByteArray, (e4 = Ending.returned (Value.string s6) ∧
          R (Value.string s6) w5)))))
theorem vc_sha_Sum1_ok {x0 : ByteArray} {w : World} {R : Value → World → Prop} {R' : Ending → World → Prop} (h : vc_sha_Sum1 x0 w R) (hR : ∀ v w', R v w' → R' (.returned v) w') :
    Calls Tryz.prog 27 #[.string x0] w R' :=
  calls_of_body (vs := [(.string x0, false)]) (ty := ty) (ann := ⟨[], [], [], []⟩) (c := Tryz.f27.body.getD .skip) (by kernel_rfl) Tryz.func27 (by kernel_rfl) (by kernel_rfl) (Eq.mp (by kernel_rfl) h) hR
end Go.Proofs.YtcnpekohkbjnnaaGreatDoor

/- What the small functions of the package sha and of its reference do. Conditions: a word's text has four bytes; a turn is by less than 32. -/
set_option linter.unusedVariables false
namespace Go.Proofs.YtcnpekohkbjnnaaGreatDoor
open Go Vc ShaM Go.Proofs

theorem elU32 : El Tryz.prog T_S_uint32 T_uint32 (.int .u32 0) 4 := ⟨by kernel_rfl, by kernel_rfl, rfl⟩
abbrev uv (l : List W) : List Value := l.map (fun x : W => Value.int .u32 (x.toNat : Int))
theorem uv_get {l : List W} {i : Nat} (h : i < l.length) : (uv l)[i]? = some (.int .u32 ((l.getD i 0).toNat : Int)) := by
  simp only [uv, List.getElem?_map, List.getElem?_eq_getElem h, Option.map_some, List.getD_eq_getElem?_getD, Option.getD_some]
theorem uv_len (l : List W) : (uv l).length = l.length := List.length_map ..
/-- An element of an array by value. -/
theorem index_agg {P : Program} {w : World} (t e : TypeId) (n : Nat) (cs : List Value) (k : IntKind) (i : Nat) (h : P.underlying t = some (.array n e)) (hs : (P.info? e).map (·.size) = some 1) (hl : cs.length = n) (hin : i < n) (ho : Vc.one P e = true) :
    (Instr.index t (.agg cs.toArray) (.int k (i : Int))).run P w = .ok (cs.getD i undef) w := by
  obtain ⟨ie, hie, hsz⟩ := Option.map_eq_some_iff.1 hs
  have hn : 0 ≤ (i : Int) ∧ (i : Int) < (n : Int) := by omega
  have hsize : ∀ w, (Go.sizeOf e).run P w = .ok 1 w := fun w => by simp [Go.sizeOf, typeInfo, hie, hsz]
  have hi : i < cs.length := by omega
  simp [Instr.index, run_underlying h, asIntOf, hin, go_sem, hsize, run_isAgg ho, Result.andThen, hi]

theorem word_spec (s : ByteArray) (h : 4 ≤ s.size) (w : World) : Calls Tryz.prog F_sha_word #[.string s] w fun e w' => e = .returned (.int .u32 ((be s.data.toList 0).toNat : Int)) ∧ Drew w w' := by
  refine vc_sha_word_ok (R := fun v w' => v = .int .u32 ((be s.data.toList 0).toNat : Int) ∧ Drew w w') ?_ (fun v w' h => ⟨by rw [h.1], h.2⟩)
  refine ⟨⟨by decide, by omega⟩, by decide, ⟨by decide, by omega⟩, by decide, ⟨by decide, by omega⟩, by decide, ⟨by decide, by omega⟩, fun w1 d => ⟨?_, d⟩⟩
  have b0 := byteAt_nat s 0
  have b1 := byteAt_nat s 1
  have b2 := byteAt_nat s 2
  have b3 := byteAt_nat s 3
  have l0 := byt_lt s 0
  have l1 := byt_lt s 1
  have l2 := byt_lt s 2
  have l3 := byt_lt s 3
  have e : (be s.data.toList 0).toNat = byt s 0 * 16777216 + byt s 1 * 65536 + byt s 2 * 256 + byt s 3 := by
    unfold be byt
    rw [BitVec.toNat_ofNat]
    simp only [List.getD_eq_getElem?_getD, Nat.zero_add]
    unfold byt at l0 l1 l2 l3
    exact Nat.mod_eq_of_lt (by omega)
  rw [show byteAt s 0 = (byt s 0 : Int) from b0, show byteAt s 1 = (byt s 1 : Int) from b1, show byteAt s 2 = (byt s 2 : Int) from b2, show byteAt s 3 = (byt s 3 : Int) from b3, e]
  revert l0 l1 l2 l3
  generalize byt s 0 = a0
  generalize byt s 1 = a1
  generalize byt s 2 = a2
  generalize byt s 3 = a3
  intro l0 l1 l2 l3
  have p24 : (2 : Int) ^ min (Int.toNat 24) 32 = 16777216 := rfl
  have p16 : (2 : Int) ^ min (Int.toNat 16) 32 = 65536 := rfl
  have p8 : (2 : Int) ^ min (Int.toNat 8) 32 = 256 := rfl
  have m0 : IntKind.u32.wrap (IntKind.u32.wrap (a0 : Int) * 16777216) = ((a0 * 16777216 : Nat) : Int) := by rw [wrap_u32 (x := (a0 : Int)) (by omega) (by omega), wrap_u32 (by omega) (by omega)]; omega
  have m1 : IntKind.u32.wrap (IntKind.u32.wrap (a1 : Int) * 65536) = ((a1 * 65536 : Nat) : Int) := by rw [wrap_u32 (x := (a1 : Int)) (by omega) (by omega), wrap_u32 (by omega) (by omega)]; omega
  have m2 : IntKind.u32.wrap (IntKind.u32.wrap (a2 : Int) * 256) = ((a2 * 256 : Nat) : Int) := by rw [wrap_u32 (x := (a2 : Int)) (by omega) (by omega), wrap_u32 (by omega) (by omega)]; omega
  have o1 : (a0 * 16777216) ||| (a1 * 65536) = a0 * 16777216 + a1 * 65536 := by
    have := Nat.two_pow_add_eq_or_of_lt (i := 24) (b := a1 * 65536) (by omega) a0
    rw [Nat.mul_comm] at this; exact this.symm
  have o2 : (a0 * 16777216 + a1 * 65536) ||| (a2 * 256) = a0 * 16777216 + a1 * 65536 + a2 * 256 := by
    have := Nat.two_pow_add_eq_or_of_lt (i := 16) (b := a2 * 256) (by omega) (a0 * 256 + a1)
    rw [show 2 ^ 16 * (a0 * 256 + a1) = a0 * 16777216 + a1 * 65536 by omega] at this; exact this.symm
  have o3 : (a0 * 16777216 + a1 * 65536 + a2 * 256) ||| a3 = a0 * 16777216 + a1 * 65536 + a2 * 256 + a3 := by
    have := Nat.two_pow_add_eq_or_of_lt (i := 8) (b := a3) (by omega) (a0 * 65536 + a1 * 256 + a2)
    rw [show 2 ^ 8 * (a0 * 65536 + a1 * 256 + a2) = a0 * 16777216 + a1 * 65536 + a2 * 256 by omega] at this; exact this.symm
  rw [p24, p16, p8, m0, m1, m2, wrap_u32 (x := (a3 : Int)) (by omega) (by omega), or_nat 32 _ _ (by omega) (by omega), o1, wrap_u32 (x := ((a0 * 16777216 + a1 * 65536 : Nat) : Int)) (by omega) (by omega),
    or_nat 32 _ _ (by omega) (by omega), o2, wrap_u32 (x := ((a0 * 16777216 + a1 * 65536 + a2 * 256 : Nat) : Int)) (by omega) (by omega), or_nat 32 _ _ (by omega) (by omega), o3, wrap_u32 (by omega) (by omega)]

theorem rot_eq (x : W) {s : Nat} (h : s < 32) : IntKind.u32.wrap (↑((BitVec.ofInt 32 (IntKind.u32.wrap ((x.toNat : Int) * 2 ^ min s 32)) ||| BitVec.ofInt 32 (Int.fdiv (x.toNat : Int) (2 ^ min (32 - s) 32))).toNat) : Int) = ((rotl x s).toNat : Int) := by
  rw [u_shl x s (by omega), u_shr x (32 - s) (by omega), u_of, u_of, u_wrap]; rfl

theorem rot_spec (x : W) (k : Int) (s : Nat) (hs : s < 32) (hk : k % 18446744073709551616 % 32 = (s : Int)) (w : World) :
    Calls Tryz.prog F_bits_RotateLeft32 #[.int .u32 (x.toNat : Int), .int .i64 k] w fun e w' => e = .returned (.int .u32 ((rotl x s).toNat : Int)) ∧ w' = w := by
  refine vc_bits_RotateLeft32_ok (R := fun v w' => v = .int .u32 ((rotl x s).toNat : Int) ∧ w' = w) ?_ (fun v w' h => ⟨by rw [h.1], h.2⟩)
  rw [vc_bits_RotateLeft32, wrap_u64_mod k]
  obtain ⟨n, hn⟩ := Int.eq_ofNat_of_zero_le (Int.emod_nonneg k (show (18446744073709551616 : Int) ≠ 0 by decide))
  have hlt : k % 18446744073709551616 < 18446744073709551616 := Int.emod_lt_of_pos _ (by decide)
  rw [hn] at hk hlt ⊢
  have e1 : (BitVec.ofInt 64 31) = BitVec.ofInt 64 ((31 : Nat) : Int) := rfl
  have e2 : n &&& 31 = s := by
    have := Nat.and_two_pow_sub_one_eq_mod n 5
    rw [show 2 ^ 5 - 1 = 31 from rfl] at this
    rw [this]; omega
  rw [e1, and_nat 64 _ _ (by omega) (by omega), e2, wrap_u64 (x := (s : Int)) (by omega) (by omega), wrap_u64 (x := 32 - (s : Int)) (by omega) (by omega)]
  refine ⟨by omega, by omega, ?_, rfl⟩
  rw [Int.toNat_natCast, show (32 - (s : Int)).toNat = 32 - s by omega, rot_eq x hs]
end Go.Proofs.YtcnpekohkbjnnaaGreatDoor

/- Arrays of words, in plain and in memory. No condition. -/
set_option linter.unusedVariables false
namespace Go.Proofs.YtcnpekohkbjnnaaGreatDoor
open Go Vc ShaM Go.Proofs

theorem ext_toList (s : ByteArray) (a b : Nat) : (s.extract a b).data.toList = (s.data.toList.drop a).take (b - a) := by
  rw [ByteArray.data_extract, Array.toList_extract]
theorem be_drop (l : List UInt8) (a : Nat) : be (l.drop a) 0 = be l a := by
  unfold be; simp [List.getD_eq_getElem?_getD, List.getElem?_drop]
theorem neg32 : BitVec.ofInt 32 (if IntKind.signed IntKind.u32 = true then -1 else Int.ofNat (2 ^ 32 - Nat.succ 0)) = BitVec.allOnes 32 := by decide
theorem ones32 : BitVec.ofInt 32 4294967295 = BitVec.allOnes 32 := by decide

/-- The array of a schedule while it is made. -/
def arr (E : Nat → List W) (n k : Nat) : List W := E k ++ List.replicate (n - k) 0
theorem arr_set {E : Nat → List W} {n k : Nat} {x : W} (hE : (E k).length = k) (hk : k < n) (h : E (k + 1) = E k ++ [x]) : (arr E n k).set k x = arr E n (k + 1) := by
  unfold arr
  rw [List.set_append_right _ _ (by omega), hE, Nat.sub_self, h, List.append_assoc, show n - k = (n - (k + 1)) + 1 by omega, List.replicate_succ]
  rfl
theorem arr_length {E : Nat → List W} {n k : Nat} (hE : (E k).length = k) (hk : k ≤ n) : (arr E n k).length = n := by
  unfold arr; rw [List.length_append, List.length_replicate]; omega
theorem arr_getD {E : Nat → List W} {n k j : Nat} (hE : (E k).length = k) (hj : j < k) : (arr E n k).getD j 0 = (E k).getD j 0 := by
  unfold arr
  rw [List.getD_eq_getElem?_getD, List.getElem?_append_left (by omega), List.getD_eq_getElem?_getD]
theorem own_get {w : World} {base : Nat} {e : TypeId} {l : Sl} {xs : List W} (h : Vc.Own w base e l (uv xs)) {i : Nat} (hi : i < xs.length) : ∃ x, l.a = some x ∧ w.cell? (x.add i) = some (.int .u32 ((xs.getD i 0).toNat : Int)) :=
  h.reads i _ (uv_get hi)
theorem own_put {w : World} {base : Nat} {e : TypeId} {l : Sl} {xs : List W} (h : Vc.Own w base e l (uv xs)) {i : Nat} (hi : i < xs.length) (x : W) :
    ∃ y, l.a = some y ∧ Wr w (y.add i) ∧ ∀ w2, w2 = w.setCell (y.add i) (.int .u32 (x.toNat : Int)) → Vc.Own w2 base e l (uv (xs.set i x)) ∧ Fr (Vc.At l) w w2 := by
  obtain ⟨y, hy, hc, hw, hs⟩ := h.set (i := i) (by rw [uv_len]; exact hi)
  refine ⟨y, hy, hw, fun w2 hw2 => ?_⟩
  obtain ⟨h1, h2⟩ := hs (.int .u32 (x.toNat : Int))
  rw [hw2]
  exact ⟨by rw [uv, List.map_set]; exact h1, h2⟩

theorem f1_eq (i : Nat) (b c d : W) : (i < 20 → f1 i b c d = (b &&& c) ||| (~~~b &&& d) ∧ k1 i = 0x5a827999#32) ∧ (20 ≤ i → i < 40 → f1 i b c d = b ^^^ c ^^^ d ∧ k1 i = 0x6ed9eba1#32) ∧
    (40 ≤ i → i < 60 → f1 i b c d = (b &&& c) ||| (b &&& d) ||| (c &&& d) ∧ k1 i = 0x8f1bbcdc#32) ∧ (60 ≤ i → f1 i b c d = b ^^^ c ^^^ d ∧ k1 i = 0xca62c1d6#32) := by
  unfold f1 k1
  refine ⟨fun h => ?_, fun h h2 => ?_, fun h h2 => ?_, fun h => ?_⟩
  · rw [if_pos h, if_pos h]; exact ⟨rfl, rfl⟩
  · rw [if_neg (by omega), if_pos h2, if_neg (by omega), if_pos h2]; exact ⟨rfl, rfl⟩
  · rw [if_neg (by omega), if_neg (by omega), if_pos h2, if_neg (by omega), if_neg (by omega), if_pos h2]; exact ⟨rfl, rfl⟩
  · rw [if_neg (by omega), if_neg (by omega), if_neg (by omega), if_neg (by omega), if_neg (by omega), if_neg (by omega)]; exact ⟨rfl, rfl⟩

end Go.Proofs.YtcnpekohkbjnnaaGreatDoor

/- The shapes of the types of this seat, a row a type. No condition. -/
import Derived.Test.YtmhlmdnhpfhoeaaGreatDoorVcCode
namespace Go.Proofs.YtmhlmdnhpfhoeaaGreatDoor
open Vc
def tyL : List Sh := [
  .tup [],
  .one (.any),
  .one (.int .i64),
  .one (.int .i64),
  .one (.bool),
  .one (.int .u8),
  .one (.int .u8),
  .agg [.int .i64, .int .i64, .bool, .int .u8],
  .agg [.int .i64, .int .i64, .bool, .int .u8],
  .one (.str),
  .one (.str),
  .one (.str),
  .one (.int .u64),
  .agg [.str, .int .u64],
  .agg [.str, .int .u64],
  .one (.ptr),
  .one (.ptr),
  .one (.ptr),
  .agg [.ptr],
  .agg [.ptr],
  .one (.any),
  .one (.int .i32),
  .one (.slice),
  .one (.any),
  .one (.ptr),
  .one (.int .i64),
  .tup [(.one (.ptr)), (.one (.int .i64))],
  .one (.any),
  .one (.any),
  .one (.ptr),
  .tup [(.one (.ptr)), (.one (.int .i64))],
  .one (.any),
  .one (.slice),
  .tup [(.one (.slice)), (.one (.int .i64))],
  .one (.any),
  .one (.any),
  .one (.any),
  .one (.slice),
  .one (.any),
  .one (.any),
  .tup [(.one (.str)), (.one (.int .i64))],
  .one (.any),
  .tup [(.one (.str)), (.one (.int .i64))],
  .one (.any),
  .one (.any),
  .one (.any),
  .one (.any),
  .agg [.str, .str],
  .agg [.str, .str],
  .one (.any),
  .one (.any),
  .agg [.slice, .int .i64],
  .agg [.slice, .int .i64],
  .one (.any),
  .one (.any),
  .one (.map),
  .agg [.ptr, .map],
  .agg [.ptr, .map],
  .tup [(.one (.str)), (.one (.str)), (.one (.bool))],
  .one (.any),
  .one (.any),
  .tup [(.one (.str)), (.one (.bool))],
  .one (.any),
  .agg [.str, .str],
  .agg [.str, .str],
  .tup [(.agg [.str, .str]), (.one (.bool))],
  .one (.any),
  .one (.any),
  .agg [.str, .str, .str],
  .agg [.str, .str, .str],
  .one (.any),
  .one (.any),
  .one (.any),
  .one (.any),
  .one (.any),
  .one (.any),
  .one (.any),
  .tup [(.one (.str)), (.one (.str)), (.one (.int .i64))],
  .one (.any),
  .one (.any),
  .one (.any),
  .one (.int .u64),
  .one (.any),
  .one (.any),
  .one (.any),
  .tup [(.one (.int .i64)), (.one (.bool))],
  .one (.any),
  .one (.any),
  .one (.any),
  .one (.any),
  .one (.any),
  .one (.int .i64),
  .tup [(.one (.int .i64)), (.one (.int .i64))],
  .one (.any),
  .one (.any),
  .one (.any),
  .one (.any),
  .one (.any),
  .one (.int .u32),
  .one (.any),
  .one (.int .u64),
  .one (.any),
  .one (.slice),
  .one (.any),
  .one (.any),
  .one (.any),
  .one .any,
  .one .any,
  .tup [(.one .any), (.one (.bool))],
  .one (.any),
  .one (.any),
  .tup [(.one (.int .i32)), (.one (.int .i64))],
  .one (.any),
  .one (.any),
  .one (.any),
  .one (.any),
  .one (.any),
  .one (.any),
  .one (.int .u64),
  .one (.any),
  .one (.any),
  .one (.any),
  .one (.ptr),
  .one (.any),
  .one (.any),
  .one (.any),
  .one (.ptr),
  .one (.any),
  .one (.any),
  .one (.ptr),
  .tup [(.one (.int .i64)), (.one (.int .i64))],
  .one (.any),
  .tup [(.one (.int .u32)), (.one (.int .u32))],
  .one (.any),
  .one .any,
  .agg [.int .u8, .int .u8],
  .agg [.int .u8, .int .u8],
  .one .any,
  .one (.any),
  .one (.any),
  .agg [.ptr, .ptr, .ptr, .str],
  .agg [.ptr, .ptr, .ptr, .str],
  .agg [],
  .agg [],
  .agg [],
  .one (.any),
  .one (.int .u8),
  .one (.int .u8),
  .one (.any),
  .one (.ptr),
  .one (.int .i32),
  .one (.int .i32),
  .agg [.int .u64, .int .u64, .int .u32, .int .u8, .int .u8, .int .u8, .int .u8, .any, .ptr, .int .i32, .int .i32],
  .agg [.int .u64, .int .u64, .int .u32, .int .u8, .int .u8, .int .u8, .int .u8, .any, .ptr, .int .i32, .int .i32],
  .one (.any)]
def nth : List Sh → Nat → Sh
  | [], _ => .one .any
  | s :: _, 0 => s
  | _ :: r, n + 1 => nth r n
def ty (n : Nat) : Sh := nth tyL n
abbrev F_main_main : Nat := 0
abbrev F_gosem_cut : Nat := 1
abbrev F_gosem_cut_init : Nat := 2
abbrev F_cartularylaw16_RefsReads : Nat := 3
abbrev F_cartularylaw16_RefsShadow : Nat := 4
abbrev F_cartularylaw13_Short : Nat := 5
abbrev F_snap_New : Nat := 6
abbrev F_cartularylaw16_awake : Nat := 7
abbrev F_refs_Open : Nat := 8
abbrev F_cartularyref16_Open : Nat := 9
abbrev F_refs_Name : Nat := 10
abbrev F_cartularyref16_Name : Nat := 11
abbrev F_cartularyref07_Same : Nat := 12
abbrev F_refs_Refs_Names : Nat := 13
abbrev F_cartularyref16_Names : Nat := 14
abbrev F_refs_Refs_Lookup : Nat := 15
abbrev F_cartularyref16_Lookup : Nat := 16
abbrev F_refs_Refs_Peeled : Nat := 17
abbrev F_cartularyref16_Peeled : Nat := 18
abbrev F_cartularyref09_Id : Nat := 19
abbrev F_cartularylaw07_Few : Nat := 20
abbrev F_cartularylaw01_Few : Nat := 21
abbrev F_slices_Clone : Nat := 22
abbrev F_slices_SortFunc : Nat := 23
abbrev F_snap_byPath : Nat := 24
abbrev F_snap_Clean : Nat := 25
abbrev F_snap_Snap_Under : Nat := 26
abbrev F_snap_Snap_Get : Nat := 27
abbrev F_strings_Cut : Nat := 28
abbrev F_strings_HasPrefix : Nat := 29
abbrev F_strings_CutPrefix : Nat := 30
abbrev F_sums_Id : Nat := 31
abbrev F_cartularyref07_Get : Nat := 32
abbrev F_cartularyref08_Find : Nat := 33
abbrev F_cartularyref07_Begins : Nat := 34
abbrev F_strings_Contains : Nat := 35
abbrev F_strings_HasSuffix : Nat := 36
abbrev F_strings_ContainsAny : Nat := 37
abbrev F_strings_SplitSeq : Nat := 38
abbrev F_cartularyref07_Clean : Nat := 39
abbrev F_cartularyref16_Has : Nat := 40
abbrev F_cartularyref16_Ends : Nat := 41
abbrev F_cartularyref07_Parts : Nat := 42
abbrev F_slices_Sort : Nat := 43
abbrev F_slices_Compact : Nat := 44
abbrev F_cartularyref07_Under : Nat := 45
abbrev F_cartularyref07_Put : Nat := 46
abbrev F_refs_Refs_file : Nat := 47
abbrev F_cartularyref01_Hexed : Nat := 48
abbrev F_slices_pdqsortCmpFunc : Nat := 49
abbrev F_bits_Len : Nat := 50
abbrev F_strings_Compare : Nat := 51
abbrev F_strings_ContainsFunc : Nat := 52
abbrev F_snap_Clean_1 : Nat := 53
abbrev F_slices_BinarySearchFunc : Nat := 54
abbrev F_stringslite_Cut : Nat := 55
abbrev F_stringslite_HasPrefix : Nat := 56
abbrev F_stringslite_CutPrefix : Nat := 57
abbrev F_sums_Unhex : Nat := 58
abbrev F_strings_Index : Nat := 59
abbrev F_stringslite_HasSuffix : Nat := 60
abbrev F_strings_IndexAny : Nat := 61
abbrev F_strings_splitSeq : Nat := 62
abbrev F_slices_pdqsortOrdered : Nat := 63
abbrev F_strings_CutSuffix : Nat := 64
abbrev F_slices_insertionSortCmpFunc : Nat := 65
abbrev F_slices_heapSortCmpFunc : Nat := 66
abbrev F_slices_breakPatternsCmpFunc : Nat := 67
abbrev F_slices_choosePivotCmpFunc : Nat := 68
abbrev F_slices_reverseRangeCmpFunc : Nat := 69
abbrev F_slices_partialInsertionSortCmpFunc : Nat := 70
abbrev F_slices_partitionEqualCmpFunc : Nat := 71
abbrev F_slices_partitionCmpFunc : Nat := 72
abbrev F_bits_Len32 : Nat := 73
abbrev F_bits_Len64 : Nat := 74
abbrev F_bytealg_CompareString : Nat := 75
abbrev F_strings_IndexFunc : Nat := 76
abbrev F_stringslite_Index : Nat := 77
abbrev F_sums_digit : Nat := 78
abbrev F_strings_IndexRune : Nat := 79
abbrev F_strings_shouldUseASCIISet : Nat := 80
abbrev F_strings_makeASCIISet : Nat := 81
abbrev F_strings_asciiSet_contains : Nat := 82
abbrev F_strings_splitSeq_1 : Nat := 83
abbrev F_utf8_DecodeRuneInString : Nat := 84
abbrev F_slices_insertionSortOrdered : Nat := 85
abbrev F_slices_heapSortOrdered : Nat := 86
abbrev F_slices_breakPatternsOrdered : Nat := 87
abbrev F_slices_choosePivotOrdered : Nat := 88
abbrev F_slices_reverseRangeOrdered : Nat := 89
abbrev F_slices_partialInsertionSortOrdered : Nat := 90
abbrev F_cmp_Less : Nat := 91
abbrev F_slices_partitionEqualOrdered : Nat := 92
abbrev F_slices_partitionOrdered : Nat := 93
abbrev F_stringslite_CutSuffix : Nat := 94
abbrev F_slices_siftDownCmpFunc : Nat := 95
abbrev F_slices_nextPowerOfTwo : Nat := 96
abbrev F_slices_xorshift_Next : Nat := 97
abbrev F_slices_medianAdjacentCmpFunc : Nat := 98
abbrev F_slices_medianCmpFunc : Nat := 99
abbrev F_bytealg_abigen_runtime_cmpstring : Nat := 100
abbrev F_strings_indexFunc : Nat := 101
abbrev F_stringslite_IndexByte : Nat := 102
abbrev F_bytealg_IndexString : Nat := 103
abbrev F_bytealg_Cutover : Nat := 104
abbrev F_bytealg_IndexRabinKarp : Nat := 105
abbrev F_strings_IndexByte : Nat := 106
abbrev F_utf8_ValidRune : Nat := 107
abbrev F_utf8_decodeRuneInStringSlow : Nat := 108
abbrev F_slices_siftDownOrdered : Nat := 109
abbrev F_slices_medianAdjacentOrdered : Nat := 110
abbrev F_slices_medianOrdered : Nat := 111
abbrev F_cmp_isNaN : Nat := 112
abbrev F_slices_order2CmpFunc : Nat := 113
abbrev F_bytealg_IndexByteString : Nat := 114
abbrev F_bytealg_hashStr : Nat := 115
abbrev F_slices_order2Ordered : Nat := 116
abbrev F_runtime_boundsError_Error : Nat := 117
abbrev F_runtime_boundsError_RuntimeError : Nat := 118
abbrev F_runtime_errorString_Error : Nat := 119
abbrev F_runtime_errorString_RuntimeError : Nat := 120
abbrev F_runtime_plainError_Error : Nat := 121
abbrev F_runtime_plainError_RuntimeError : Nat := 122
abbrev F_runtime_errorAddressString_Error : Nat := 123
abbrev F_runtime_errorAddressString_RuntimeError : Nat := 124
abbrev F_runtime_TypeAssertionError_Error : Nat := 125
abbrev F_runtime_TypeAssertionError_RuntimeError : Nat := 126
abbrev F_runtime_PanicNilError_Error : Nat := 127
abbrev F_runtime_PanicNilError_RuntimeError : Nat := 128
abbrev F_abi_Type_Align : Nat := 129
abbrev F_maps_unhashableTypeError_Error : Nat := 130
abbrev F_maps_unhashableTypeError_RuntimeError : Nat := 131
abbrev F_snap_Snap_Len : Nat := 132
abbrev F_abi_Kind_String : Nat := 133
abbrev F_var_s_door_gosem_cut_vars_holds_initialisers_alone_see_the_manifest_s_row_cutvarsword_look_11_test_files_too_ : Nat := 134
abbrev F_var_s_door_the_look_of_gosem_cut_vars_went_over_the_folder_that_the_caller_named_as_the_repository_s_root_look_11_ : Nat := 135
abbrev F_utf8_acceptRanges_is_laid_by_its_own_initialiser_plain_data_look_11_ : Nat := 136
abbrev F_utf8_first_is_laid_by_its_text_alone_pinned_1_ : Nat := 137
abbrev F_gosem_cut_vars : Nat := 138
abbrev T_int64 : Nat := 2
abbrev T_int : Nat := 3
abbrev T_bool : Nat := 4
abbrev T_uint8 : Nat := 5
abbrev T_abi_BoundsErrorCode : Nat := 6
abbrev T_runtime_boundsError : Nat := 8
abbrev T_string : Nat := 9
abbrev T_runtime_errorString : Nat := 10
abbrev T_runtime_plainError : Nat := 11
abbrev T_uintptr : Nat := 12
abbrev T_runtime_errorAddressString : Nat := 14
abbrev T_P_runtime_TypeAssertionError : Nat := 15
abbrev T_P_runtime_PanicNilError : Nat := 16
abbrev T_P_abi_Type : Nat := 17
abbrev T_maps_unhashableTypeError : Nat := 19
abbrev T_int32 : Nat := 21
abbrev T_S_api_File : Nat := 22
abbrev T_P_snap_Snap : Nat := 24
abbrev T_api_Errno : Nat := 25
abbrev T_P_refs_Refs : Nat := 29
abbrev T_S_cartularyref16_Row : Nat := 32
abbrev T_S_string : Nat := 37
abbrev T_api_File : Nat := 48
abbrev T_snap_Snap : Nat := 52
abbrev T_map_string_refs_row : Nat := 55
abbrev T_refs_Refs : Nat := 57
abbrev T_refs_row : Nat := 64
abbrev T_cartularyref16_Row : Nat := 69
abbrev T_iter_Seq : Nat := 71
abbrev T_uint : Nat := 81
abbrev T_slices_sortedHint : Nat := 91
abbrev T_uint32 : Nat := 98
abbrev T_uint64 : Nat := 100
abbrev T_S_uint8 : Nat := 102
abbrev T_256_bool : Nat := 106
abbrev T_strings_asciiSet : Nat := 107
abbrev T_slices_xorshift : Nat := 118
abbrev T_P_int : Nat := 122
abbrev T_P_strings_asciiSet : Nat := 126
abbrev T_P_slices_xorshift : Nat := 129
abbrev T_256_uint8 : Nat := 134
abbrev T_utf8_acceptRange : Nat := 136
abbrev T_16_utf8_acceptRange : Nat := 137
abbrev T_runtime_TypeAssertionError : Nat := 141
abbrev T_0_P_runtime_PanicNilError : Nat := 142
abbrev T_runtime_PanicNilError : Nat := 144
abbrev T_abi_TFlag : Nat := 146
abbrev T_abi_Kind : Nat := 147
abbrev T_P_uint8 : Nat := 149
abbrev T_abi_NameOff : Nat := 150
abbrev T_abi_TypeOff : Nat := 151
abbrev T_abi_Type : Nat := 153
abbrev G_bytealg_MaxLen : Nat := 0
abbrev G_utf8_first : Nat := 1
abbrev G_utf8_acceptRanges : Nat := 2
end Go.Proofs.YtmhlmdnhpfhoeaaGreatDoor

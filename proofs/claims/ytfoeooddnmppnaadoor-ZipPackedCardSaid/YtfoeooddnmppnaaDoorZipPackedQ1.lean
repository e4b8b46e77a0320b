/- Texts of this seat in one: made by a program of ours. -/
import Derived.Test.YtfoeooddnmppnaaDoorZipPackedQ0
import Derived.Test.YtfoeooddnmppnaaDoorProg
import Derived.Shelf.Lays
import Derived.Shelf.Strings.BuilderX
import Derived.Shelf.Strings.Search1
import Derived.RangeFuncNested
import Derived.RangeFuncBound
import Derived.RangeFuncCalls
import Derived.RangeFuncLeaves
import Derived.Shelf.Abstract
import Derived.Shelf.RegionOpen
import Derived.WalkKit
import Derived.OwnWalkIn
import Derived.TacticsInMore
import Derived.LoopNIn
import Derived.LoopIn
import Derived.Shelf.Small.Strs
import Derived.Sort.Walk0
/- The shapes of the types of this seat, a row a type. No condition. -/
namespace Go.Proofs.YtfoeooddnmppnaaDoor
open Vc
def tyL : List Sh := [
  .tup [],
  .one (.any),
  .one (.int .i64),
  .one (.int .i64),
  .one (.bool),
  .one (.int .u8),
  .one (.int .u8),
  .agg [.int .i64, .int .i64, .bool, .int .u8],
  .agg [.int .i64, .int .i64, .bool, .int .u8],
  .one (.str),
  .one (.str),
  .one (.str),
  .one (.int .u64),
  .agg [.str, .int .u64],
  .agg [.str, .int .u64],
  .one (.ptr),
  .one (.ptr),
  .one (.ptr),
  .agg [.ptr],
  .agg [.ptr],
  .one (.any),
  .one (.int .i32),
  .one (.slice),
  .one (.any),
  .one (.int .i64),
  .tup [(.one (.str)), (.one (.int .i64))],
  .one (.any),
  .one (.any),
  .one (.any),
  .one (.any),
  .one (.any),
  .tup [(.one (.slice)), (.one (.int .i64))],
  .one (.any),
  .one (.any),
  .one (.any),
  .one (.slice),
  .agg [.str, .str],
  .agg [.str, .str],
  .one (.any),
  .one (.any),
  .one (.any),
  .one (.any),
  .one (.any),
  .one (.any),
  .one (.slice),
  .one (.any),
  .one (.any),
  .one (.slice),
  .one (.any),
  .one (.any),
  .agg [.str, .int .i64, .str],
  .agg [.str, .int .i64, .str],
  .one (.any),
  .one (.any),
  .one (.slice),
  .one (.slice),
  .one (.slice),
  .one (.any),
  .one (.any),
  .one (.any),
  .one (.any),
  .one (.any),
  .one (.int .u32),
  .one (.any),
  .one (.any),
  .one (.any),
  .one (.int .i64),
  .tup [(.one (.int .i64)), (.one (.bool))],
  .one (.ptr),
  .agg [.str, .int .i64],
  .agg [.str, .int .i64],
  .one (.any),
  .one (.any),
  .one (.any),
  .one (.slice),
  .agg [.int .i64, .int .u32, .int .i64, .int .i64, .int .i64],
  .agg [.int .i64, .int .u32, .int .i64, .int .i64, .int .i64],
  .one (.any),
  .agg [.int .i64, .int .u32, .int .i64, .int .i64, .int .i64, .str, .int .i64],
  .agg [.int .i64, .int .u32, .int .i64, .int .i64, .int .i64, .str, .int .i64],
  .one (.any),
  .one (.any),
  .one (.any),
  .one (.any),
  .one (.any),
  .one (.int .u64),
  .agg [.slice, .str, .int .u64],
  .agg [.slice, .str, .int .u64],
  .agg [.slice, .str, .int .u64],
  .agg [.slice, .str, .int .u64],
  .one (.any),
  .one (.any),
  .one (.any),
  .one (.any),
  .one (.slice),
  .one (.any),
  .one (.any),
  .tup [(.one (.str)), (.one (.bool))],
  .one (.any),
  .one (.any),
  .one (.any),
  .one (.any),
  .one (.any),
  .agg [.slice, .int .u64, .int .i64],
  .agg [.slice, .int .u64, .int .i64],
  .one (.ptr),
  .tup [(.one (.ptr)), (.one (.ptr))],
  .one (.any),
  .one (.any),
  .one (.map),
  .tup [(.one (.int .i64)), (.one (.bool))],
  .tup [(.one (.int .u32)), (.one (.int .i64))],
  .one (.any),
  .tup [(.one (.int .i64)), (.one (.int .u32)), (.one (.int .i64))],
  .one (.any),
  .one (.any),
  .one (.any),
  .one (.any),
  .agg [.int .u32],
  .agg [.int .u32],
  .one (.any),
  .one (.any),
  .one (.any),
  .one (.any),
  .one (.any),
  .one (.any),
  .one (.any),
  .one (.any),
  .one (.any),
  .tup [(.one (.str)), (.one (.int .i64)), (.one (.int .i64))],
  .one (.any),
  .one (.any),
  .one (.ptr),
  .one (.any),
  .one (.any),
  .one (.int .u64),
  .agg [.int .u8, .int .u8, .int .u8],
  .one (.any),
  .one (.any),
  .one (.any),
  .one (.any),
  .one (.any),
  .one (.any),
  .one (.any),
  .one (.any),
  .one (.any),
  .one (.map),
  .tup [(.one (.ptr)), (.one (.int .i64))],
  .one (.any),
  .one (.ptr),
  .agg [.int .i64, .int .i64, .int .i64, .int .i64, .int .i64, .int .i64, .int .i64, .int .i64, .int .i64, .int .i64, .int .i64, .int .i64, .int .i64, .int .i64, .int .i64, .int .i64],
  .agg [.slice, .int .i64, .int .i64, .int .i64, .int .i64, .int .i64, .int .i64, .int .i64, .int .i64, .int .i64, .int .i64, .int .i64, .int .i64, .int .i64, .int .i64, .int .i64, .int .i64, .slice],
  .agg [.slice, .int .i64, .int .i64, .int .i64, .int .i64, .int .i64, .int .i64, .int .i64, .int .i64, .int .i64, .int .i64, .int .i64, .int .i64, .int .i64, .int .i64, .int .i64, .int .i64, .slice],
  .tup [(.one (.int .i64)), (.one (.int .i64))],
  .one (.ptr),
  .one (.any),
  .one (.any),
  .one (.ptr),
  .one (.ptr),
  .one (.any),
  .agg [.ptr, .slice, .int .i64],
  .agg [.ptr, .slice, .int .i64],
  .one (.any),
  .one (.any),
  .one (.any),
  .one (.any),
  .one (.ptr),
  .one (.any),
  .one .any,
  .one (.any),
  .agg [.int .u32, .int .u32, .int .u32, .int .u32, .int .u32, .int .u32, .int .u32, .int .u32],
  .tup [(.one (.int .u64)), (.one (.int .u64))],
  .one (.any),
  .tup [(.one (.int .i32)), (.one (.int .i64))],
  .one (.any),
  .one (.any),
  .agg [.str, .int .i64, .int .u64, .int .i64, .int .i64],
  .agg [.str, .int .i64, .int .u64, .int .i64, .int .i64],
  .tup [(.one (.int .u32)), (.one (.bool))],
  .one (.any),
  .tup [(.one (.ptr)), (.one (.ptr)), (.one (.int .i64))],
  .one (.any),
  .tup [(.one (.int .i64)), (.one (.int .i64))],
  .one (.any),
  .one (.any),
  .one (.any),
  .one (.any),
  .one (.any),
  .one .any,
  .one (.any),
  .one (.any),
  .one (.any),
  .one .any,
  .one .any,
  .tup [(.one .any), (.one (.bool))],
  .one (.any),
  .one (.any),
  .one .any,
  .agg [.int .u8, .int .u8],
  .agg [.int .u8, .int .u8],
  .one .any,
  .one (.any),
  .tup [(.one (.int .u32)), (.one (.int .u32))],
  .one (.any),
  .one (.ptr),
  .agg [.ptr, .ptr, .ptr, .str],
  .agg [.ptr, .ptr, .ptr, .str],
  .agg [],
  .agg [],
  .agg [],
  .one (.int .u8),
  .one (.int .u8),
  .one (.any),
  .one (.ptr),
  .one (.int .i32),
  .one (.int .i32),
  .agg [.int .u64, .int .u64, .int .u32, .int .u8, .int .u8, .int .u8, .int .u8, .any, .ptr, .int .i32, .int .i32],
  .agg [.int .u64, .int .u64, .int .u32, .int .u8, .int .u8, .int .u8, .int .u8, .any, .ptr, .int .i32, .int .i32],
  .one (.any)]
def nth : List Sh → Nat → Sh
  | [], _ => .one .any
  | s :: _, 0 => s
  | _ :: r, n + 1 => nth r n
def ty (n : Nat) : Sh := nth tyL n
abbrev F_main_main : Nat := 0
abbrev F_gosem_cut : Nat := 1
abbrev F_gosem_cut_init : Nat := 2
abbrev F_cartularylaw23_ZipWrites : Nat := 3
abbrev F_cartularylaw23_ZipFull : Nat := 4
abbrev F_cartularylaw23_ZipOne : Nat := 5
abbrev F_cartularylaw23_ZipSpoils : Nat := 6
abbrev F_cartularylaw24_ModzipHashes : Nat := 7
abbrev F_cartularylaw24_ModzipNested : Nat := 8
abbrev F_cartularylaw24_ModzipHashed : Nat := 9
abbrev F_cartularylaw23_ZipPacked : Nat := 10
abbrev F_cartularylaw24_ModzipTurns : Nat := 11
abbrev F_cartularylaw09_Short : Nat := 12
abbrev F_zip_Write : Nat := 13
abbrev F_cartularyref23_Check : Nat := 14
abbrev F_cartularylaw23_awake : Nat := 15
abbrev F_zip_Check : Nat := 16
abbrev F_cartularyref23_Same : Nat := 17
abbrev F_zip_Read : Nat := 18
abbrev F_cartularyref23_Text : Nat := 19
abbrev F_cartularylaw01_Few : Nat := 20
abbrev F_cartularylaw23_plain : Nat := 21
abbrev F_cartularylaw24_awake : Nat := 22
abbrev F_modzip_Hash : Nat := 23
abbrev F_cartularyref24_Hash : Nat := 24
abbrev F_cartularyref02_Table : Nat := 25
abbrev F_cartularylaw24_Short : Nat := 26
abbrev F_modzip_Select : Nat := 27
abbrev F_inflate_Deflate : Nat := 28
abbrev F_cartularyref23_Archive : Nat := 29
abbrev F_modzip_Pack : Nat := 30
abbrev F_cartularylaw07_Few : Nat := 31
abbrev F_zip_facts : Nat := 32
abbrev F_sums_Crc32 : Nat := 33
abbrev F_zip_two : Nat := 34
abbrev F_zip_four : Nat := 35
abbrev F_cartularyref07_Clean : Nat := 36
abbrev F_snap_Clean : Nat := 37
abbrev F_zip_Read_1 : Nat := 38
abbrev F_zip_reader_want : Nat := 39
abbrev F_zip_reader_number : Nat := 40
abbrev F_zip_must : Nat := 41
abbrev F_zip_reader_head : Nat := 42
abbrev F_zip_reader_take : Nat := 43
abbrev F_zip_entry_unpack : Nat := 44
abbrev F_modzip_prefixed : Nat := 45
abbrev F_modzip_Front : Nat := 46
abbrev F_slices_SortStableFunc : Nat := 47
abbrev F_modzip_Hash_1 : Nat := 48
abbrev F_strings_Compare : Nat := 49
abbrev F_sha_Hash256_Write : Nat := 50
abbrev F_sums_Hex : Nat := 51
abbrev F_sha_Sum256 : Nat := 52
abbrev F_sums_Base64 : Nat := 53
abbrev F_sha_Hash256_Sum : Nat := 54
abbrev F_cartularyref24_Sorted : Nat := 55
abbrev F_cartularyref24_Ahead : Nat := 56
abbrev F_cartularyref01_Hex : Nat := 57
abbrev F_cartularyref02_Sum256 : Nat := 58
abbrev F_cartularyref01_Base64 : Nat := 59
abbrev F_cartularyref02_primes : Nat := 60
abbrev F_cartularyref02_Roots : Nat := 61
abbrev F_strings_CutPrefix : Nat := 62
abbrev F_modzip_Item_plain : Nat := 63
abbrev F_strings_HasSuffix : Nat := 64
abbrev F_strings_TrimSuffix : Nat := 65
abbrev F_modzip_Select_1 : Nat := 66
abbrev F_slices_ContainsFunc : Nat := 67
abbrev F_modzip_Select_1_1 : Nat := 68
abbrev F_strings_HasPrefix : Nat := 69
abbrev F_modzip_vendored : Nat := 70
abbrev F_slices_ContainsFunc_2 : Nat := 71
abbrev F_modzip_Select_2 : Nat := 72
abbrev F_modzip_Select_3 : Nat := 73
abbrev F_modzip_check : Nat := 74
abbrev F_inflate_fixed : Nat := 75
abbrev F_bitin_Writer_Bits : Nat := 76
abbrev F_huff_Table_Code : Nat := 77
abbrev F_bitin_Writer_Code : Nat := 78
abbrev F_inflate_symbolOf : Nat := 79
abbrev F_inflate_lengthBase : Nat := 80
abbrev F_inflate_distBase : Nat := 81
abbrev F_bitin_Writer_Text : Nat := 82
abbrev F_inflate_Stored : Nat := 83
abbrev F_cartularyref23_Facts : Nat := 84
abbrev F_cartularyref23_little : Nat := 85
abbrev F_sums_Crc_Write : Nat := 86
abbrev F_sums_Crc_Sum : Nat := 87
abbrev F_sums_Little : Nat := 88
abbrev F_cartularyref07_Parts : Nat := 89
abbrev F_strings_SplitSeq : Nat := 90
abbrev F_strings_ContainsFunc : Nat := 91
abbrev F_snap_Clean_1 : Nat := 92
abbrev F_sums_FromLittle : Nat := 93
abbrev F_inflate_Inflate : Nat := 94
abbrev F_slices_Clone : Nat := 95
abbrev F_slices_stableCmpFunc : Nat := 96
abbrev F_bytealg_CompareString : Nat := 97
abbrev F_sha_hash_write : Nat := 98
abbrev F_sha_start256 : Nat := 99
abbrev F_sha_block256 : Nat := 100
abbrev F_sha_hash_sum : Nat := 101
abbrev F_cartularyref24_put : Nat := 102
abbrev F_cartularyref02_Pad : Nat := 103
abbrev F_cartularyref02_words : Nat := 104
abbrev F_cartularyref02_turn : Nat := 105
abbrev F_cartularyref02_out : Nat := 106
abbrev F_cartularyref02_under : Nat := 107
abbrev F_stringslite_CutPrefix : Nat := 108
abbrev F_stringslite_HasSuffix : Nat := 109
abbrev F_stringslite_TrimSuffix : Nat := 110
abbrev F_slices_IndexFunc : Nat := 111
abbrev F_stringslite_HasPrefix : Nat := 112
abbrev F_strings_Contains : Nat := 113
abbrev F_slices_IndexFunc_2 : Nat := 114
abbrev F_modfile_FilePath : Nat := 115
abbrev F_modzip_fold : Nat := 116
abbrev F_huff_New : Nat := 117
abbrev F_bitin_Writer_Bytes : Nat := 118
abbrev F_cartularyref01_Little : Nat := 119
abbrev F_cartularyref01_Crc32 : Nat := 120
abbrev F_strings_splitSeq : Nat := 121
abbrev F_strings_IndexFunc : Nat := 122
abbrev F_bitin_New : Nat := 123
abbrev F_inflate_state_run : Nat := 124
abbrev F_bitin_Reader_Used : Nat := 125
abbrev F_slices_insertionSortCmpFunc : Nat := 126
abbrev F_slices_symMergeCmpFunc : Nat := 127
abbrev F_bytealg_abigen_runtime_cmpstring : Nat := 128
abbrev F_sha_table256 : Nat := 129
abbrev F_sha_word : Nat := 130
abbrev F_bits_RotateLeft32 : Nat := 131
abbrev F_cartularyref02_mul : Nat := 132
abbrev F_strings_Index : Nat := 133
abbrev F_strings_ContainsAny : Nat := 134
abbrev F_bitin_Writer_Align : Nat := 135
abbrev F_strings_splitSeq_1 : Nat := 136
abbrev F_utf8_DecodeRuneInString : Nat := 137
abbrev F_strings_indexFunc : Nat := 138
abbrev F_bitin_Reader_Bits : Nat := 139
abbrev F_inflate_state_stored : Nat := 140
abbrev F_inflate_state_tables : Nat := 141
abbrev F_huff_Table_Read : Nat := 142
abbrev F_inflate_state_put : Nat := 143
abbrev F_inflate_state_repeat : Nat := 144
abbrev F_slices_rotateCmpFunc : Nat := 145
abbrev F_stringslite_Index : Nat := 146
abbrev F_strings_IndexAny : Nat := 147
abbrev F_utf8_decodeRuneInStringSlow : Nat := 148
abbrev F_bitin_Reader_Peek : Nat := 149
abbrev F_bitin_Reader_Skip : Nat := 150
abbrev F_bitin_Reader_Bytes : Nat := 151
abbrev F_bitin_Reader_Left : Nat := 152
abbrev F_inflate_order : Nat := 153
abbrev F_slices_swapRangeCmpFunc : Nat := 154
abbrev F_stringslite_IndexByte : Nat := 155
abbrev F_bytealg_IndexString : Nat := 156
abbrev F_bytealg_Cutover : Nat := 157
abbrev F_bytealg_IndexRabinKarp : Nat := 158
abbrev F_strings_IndexRune : Nat := 159
abbrev F_strings_shouldUseASCIISet : Nat := 160
abbrev F_strings_makeASCIISet : Nat := 161
abbrev F_strings_asciiSet_contains : Nat := 162
abbrev F_bitin_Reader_fill : Nat := 163
abbrev F_bitin_Reader_Align : Nat := 164
abbrev F_bytealg_IndexByteString : Nat := 165
abbrev F_bytealg_hashStr : Nat := 166
abbrev F_strings_IndexByte : Nat := 167
abbrev F_utf8_ValidRune : Nat := 168
abbrev F_runtime_boundsError_Error : Nat := 169
abbrev F_runtime_boundsError_RuntimeError : Nat := 170
abbrev F_runtime_errorString_Error : Nat := 171
abbrev F_runtime_errorString_RuntimeError : Nat := 172
abbrev F_runtime_plainError_Error : Nat := 173
abbrev F_runtime_plainError_RuntimeError : Nat := 174
abbrev F_runtime_errorAddressString_Error : Nat := 175
abbrev F_runtime_errorAddressString_RuntimeError : Nat := 176
abbrev F_runtime_TypeAssertionError_Error : Nat := 177
abbrev F_runtime_TypeAssertionError_RuntimeError : Nat := 178
abbrev F_runtime_PanicNilError_Error : Nat := 179
abbrev F_runtime_PanicNilError_RuntimeError : Nat := 180
abbrev F_abi_Type_Align : Nat := 181
abbrev F_maps_unhashableTypeError_Error : Nat := 182
abbrev F_maps_unhashableTypeError_RuntimeError : Nat := 183
abbrev F_abi_Kind_String : Nat := 184
abbrev F_var_s_door_gosem_cut_vars_holds_initialisers_alone_see_the_manifest_s_row_cutvarsword_look_11_test_files_too_ : Nat := 185
abbrev F_var_s_door_the_look_of_gosem_cut_vars_went_over_the_folder_that_the_caller_named_as_the_repository_s_root_look_11_ : Nat := 186
abbrev F_utf8_acceptRanges_is_laid_by_its_own_initialiser_plain_data_look_11_ : Nat := 187
abbrev F_utf8_first_is_laid_by_its_text_alone_pinned_1_ : Nat := 188
abbrev F_gosem_cut_vars : Nat := 189
abbrev T_int64 : Nat := 2
abbrev T_int : Nat := 3
abbrev T_bool : Nat := 4
abbrev T_uint8 : Nat := 5
abbrev T_abi_BoundsErrorCode : Nat := 6
abbrev T_runtime_boundsError : Nat := 8
abbrev T_string : Nat := 9
abbrev T_runtime_errorString : Nat := 10
abbrev T_runtime_plainError : Nat := 11
abbrev T_uintptr : Nat := 12
abbrev T_runtime_errorAddressString : Nat := 14
abbrev T_P_runtime_TypeAssertionError : Nat := 15
abbrev T_P_runtime_PanicNilError : Nat := 16
abbrev T_P_abi_Type : Nat := 17
abbrev T_maps_unhashableTypeError : Nat := 19
abbrev T_int32 : Nat := 21
abbrev T_S_api_File : Nat := 22
abbrev T_api_Errno : Nat := 24
abbrev T_S_uint8 : Nat := 35
abbrev T_api_File : Nat := 37
abbrev T_S_uint32 : Nat := 44
abbrev T_S_modzip_Item : Nat := 47
abbrev T_modzip_Item : Nat := 51
abbrev T_S_bool : Nat := 54
abbrev T_S_string : Nat := 55
abbrev T_S_int : Nat := 56
abbrev T_uint32 : Nat := 62
abbrev T_zip_wrong : Nat := 66
abbrev T_P_zip_reader : Nat := 68
abbrev T_zip_reader : Nat := 70
abbrev T_S_zip_entry : Nat := 74
abbrev T_zip_head : Nat := 76
abbrev T_zip_entry : Nat := 79
abbrev T_uint64 : Nat := 85
abbrev T_sha_hash : Nat := 87
abbrev T_sha_Hash256 : Nat := 89
abbrev T_S_uint64 : Nat := 94
abbrev T_bitin_Writer : Nat := 104
abbrev T_P_huff_Table : Nat := 105
abbrev T_map_string_int : Nat := 109
abbrev T_sums_Crc : Nat := 119
abbrev T_iter_Seq : Nat := 124
abbrev T_P_sha_Hash256 : Nat := 132
abbrev T_uint : Nat := 135
abbrev T_3_uint8 : Nat := 136
abbrev T_map_string_bool : Nat := 146
abbrev T_P_bitin_Writer : Nat := 149
abbrev T_16_int : Nat := 150
abbrev T_huff_Table : Nat := 152
abbrev T_P_sums_Crc : Nat := 154
abbrev T_P_inflate_state : Nat := 157
abbrev T_P_bitin_Reader : Nat := 158
abbrev T_inflate_state : Nat := 161
abbrev T_P_sha_hash : Nat := 166
abbrev T_sha_block : Nat := 167
abbrev T_64_uint32 : Nat := 168
abbrev T_8_uint32 : Nat := 170
abbrev T_bitin_Reader : Nat := 177
abbrev T_19_int : Nat := 188
abbrev T_256_bool : Nat := 192
abbrev T_strings_asciiSet : Nat := 193
abbrev T_256_uint8 : Nat := 197
abbrev T_utf8_acceptRange : Nat := 199
abbrev T_16_utf8_acceptRange : Nat := 200
abbrev T_P_strings_asciiSet : Nat := 204
abbrev T_runtime_TypeAssertionError : Nat := 206
abbrev T_0_P_runtime_PanicNilError : Nat := 207
abbrev T_runtime_PanicNilError : Nat := 209
abbrev T_abi_TFlag : Nat := 210
abbrev T_abi_Kind : Nat := 211
abbrev T_P_uint8 : Nat := 213
abbrev T_abi_NameOff : Nat := 214
abbrev T_abi_TypeOff : Nat := 215
abbrev T_abi_Type : Nat := 217
abbrev G_bytealg_MaxLen : Nat := 0
abbrev G_utf8_first : Nat := 1
abbrev G_utf8_acceptRanges : Nat := 2
end Go.Proofs.YtfoeooddnmppnaaDoor

/- Formulas of 11 Go functions of this seat (written by a program of the author's, vcgen.py), and that each is enough for the call. No condition. -/
set_option linter.unusedVariables false
namespace Go.Proofs.YtfoeooddnmppnaaDoor
open Go Vc Go.Proofs
set_option maxRecDepth 100000
/-- strings.IndexByte -/
def vc_strings_IndexByte (x0 : ByteArray) (x1 : Int) (w : World) (R : Value → World → Prop) : Prop :=
  Calls Tryd.prog (155 : Nat) (Array.mk [Value.string x0, Value.int IntKind.u8 x1]) (w) (fun e1 w2 =>
    ∃ n3 : Int, (e1 = Ending.returned (Value.int IntKind.i64 n3) ∧
     R (Value.int IntKind.i64 n3) w2))
theorem vc_strings_IndexByte_ok {x0 : ByteArray} {x1 : Int} {w : World} {R : Value → World → Prop} {R' : Ending → World → Prop} (h : vc_strings_IndexByte x0 x1 w R) (hR : ∀ v w', R v w' → R' (.returned v) w') :
    Calls Tryd.prog 167 #[.string x0, .int .u8 x1] w R' :=
  calls_of_body (vs := [(.string x0, false), (.int .u8 x1, false)]) (ty := ty) (ann := ⟨[], [], [], []⟩) (c := Tryd.f167.body.getD .skip) (by kernel_rfl) Tryd.func167 (by kernel_rfl) (by kernel_rfl) (Eq.mp (by kernel_rfl) h) hR
/-- internal/stringslite.Index -/
def vc_stringslite_Index (x0 : ByteArray) (x1 : ByteArray) (w : World) (R : Value → World → Prop) : Prop :=
  ∃ I1 : World → Prop, ((((((↑(ByteArray.size x1) : Int) == 0) = true →
      R (Value.int IntKind.i64 0) w)) ∧
    (((↑(ByteArray.size x1) : Int) == 0) = false →
      ((((ByteArray.toList x1 == ByteArray.toList x0) = true →
         R (Value.int IntKind.i64 0) w)) ∧
       ((ByteArray.toList x1 == ByteArray.toList x0) = false →
         (((((↑(ByteArray.size x1) : Int) == 1) = true →
            (((0 : Int) ≤ (0 : Int) ∧
              0 < (↑(ByteArray.size x1) : Int)) ∧
             Calls Tryd.prog (155 : Nat) (Array.mk [Value.string x0, Value.int IntKind.u8 (byteAt x1 0)]) (w) (fun e2 w3 =>
               ∃ n4 : Int, (e2 = Ending.returned (Value.int IntKind.i64 n4) ∧
                R (Value.int IntKind.i64 n4) w3))))) ∧
          (((↑(ByteArray.size x1) : Int) == 1) = false →
            (((decide ((↑(ByteArray.size x1) : Int) ≥ (↑(ByteArray.size x0) : Int)) = true →
               R (Value.int IntKind.i64 (-1)) w)) ∧
             (decide ((↑(ByteArray.size x1) : Int) ≥ (↑(ByteArray.size x0) : Int)) = false →
               ∃ n5 : Int, (World.cell? w (Addr.mk 0 0 none) = some (Value.int IntKind.i64 n5) ∧
                (((decide ((↑(ByteArray.size x1) : Int) ≤ n5) = true →
                   (((decide ((↑(ByteArray.size x0) : Int) ≤ 64) = true →
                      False)) ∧
                    (decide ((↑(ByteArray.size x0) : Int) ≤ 64) = false →
                      I1 w)))) ∧
                 (decide ((↑(ByteArray.size x1) : Int) ≤ n5) = false →
                   I1 w))))))))))) ∧
   ∀ w6 : World,
   (I1 w6 →
     (((0 : Int) ≤ (0 : Int) ∧
       0 < (↑(ByteArray.size x1) : Int)) ∧
      (((0 : Int) ≤ (1 : Int) ∧
        1 < (↑(ByteArray.size x1) : Int)) ∧
       ∃ I7 : Int → Int → World → Prop, ∃ I8 : Int → Int → World → Nat, (I7 0 0 w6 ∧
        ∀ n9 : Int,
        ∀ n10 : Int,
        ∀ w11 : World,
        (I7 n9 n10 w11 →
          (((decide (n9 < IntKind.wrap IntKind.i64 (IntKind.wrap IntKind.i64 ((↑(ByteArray.size x0) : Int) - (↑(ByteArray.size x1) : Int)) + 1)) = true →
             ∃ I12 : Int → World → Prop, (((0 ≤ n9 ∧
                n9 < (↑(ByteArray.size x0) : Int)) ∧
               ((((byteAt x0 n9 != byteAt x1 0) = true →
                  ((0 ≤ IntKind.wrap IntKind.i64 (n9 + 1) ∧
                    (IntKind.wrap IntKind.i64 (n9 + 1) ≤ IntKind.wrap IntKind.i64 (IntKind.wrap IntKind.i64 ((↑(ByteArray.size x0) : Int) - (↑(ByteArray.size x1) : Int)) + 1) ∧
                     IntKind.wrap IntKind.i64 (IntKind.wrap IntKind.i64 ((↑(ByteArray.size x0) : Int) - (↑(ByteArray.size x1) : Int)) + 1) ≤ (↑(ByteArray.size x0) : Int))) ∧
                   Calls Tryd.prog (155 : Nat) (Array.mk [Value.string (ByteArray.extract x0 (Int.toNat (IntKind.wrap IntKind.i64 (n9 + 1))) (Int.toNat (IntKind.wrap IntKind.i64 (IntKind.wrap IntKind.i64 ((↑(ByteArray.size x0) : Int) - (↑(ByteArray.size x1) : Int)) + 1)))), Value.int IntKind.u8 (byteAt x1 0)]) (w11) (fun e13 w14 =>
                     ∃ n15 : Int, (e13 = Ending.returned (Value.int IntKind.i64 n15) ∧
                      (((decide (n15 < 0) = true →
                         R (Value.int IntKind.i64 (-1)) w14)) ∧
                       (decide (n15 < 0) = false →
                         I12 (IntKind.wrap IntKind.i64 (n9 + IntKind.wrap IntKind.i64 (n15 + 1))) w14))))))) ∧
                ((byteAt x0 n9 != byteAt x1 0) = false →
                  I12 n9 w11))) ∧
              ∀ n16 : Int,
              ∀ w17 : World,
              (I12 n16 w17 →
                ∃ I18 : World → Prop, (((0 ≤ IntKind.wrap IntKind.i64 (n16 + 1) ∧
                   IntKind.wrap IntKind.i64 (n16 + 1) < (↑(ByteArray.size x0) : Int)) ∧
                  ((((byteAt x0 (IntKind.wrap IntKind.i64 (n16 + 1)) == byteAt x1 1) = true →
                     ((0 ≤ n16 ∧
                       (n16 ≤ IntKind.wrap IntKind.i64 (n16 + (↑(ByteArray.size x1) : Int)) ∧
                        IntKind.wrap IntKind.i64 (n16 + (↑(ByteArray.size x1) : Int)) ≤ (↑(ByteArray.size x0) : Int))) ∧
                      ((((ByteArray.toList (ByteArray.extract x0 (Int.toNat n16) (Int.toNat (IntKind.wrap IntKind.i64 (n16 + (↑(ByteArray.size x1) : Int))))) == ByteArray.toList x1) = true →
                         R (Value.int IntKind.i64 n16) w17)) ∧
                       ((ByteArray.toList (ByteArray.extract x0 (Int.toNat n16) (Int.toNat (IntKind.wrap IntKind.i64 (n16 + (↑(ByteArray.size x1) : Int))))) == ByteArray.toList x1) = false →
                         I18 w17))))) ∧
                   ((byteAt x0 (IntKind.wrap IntKind.i64 (n16 + 1)) == byteAt x1 1) = false →
                     I18 w17))) ∧
                 ∀ w19 : World,
                 (I18 w19 →
                   ∃ I20 : Bool → World → Prop, ((∃ n21 : Int, (World.cell? w19 (Addr.mk 0 0 none) = some (Value.int IntKind.i64 n21) ∧
                     (((decide ((↑(ByteArray.size x1) : Int) ≤ n21) = true →
                        Calls Tryd.prog (157 : Nat) (Array.mk [Value.int IntKind.i64 (IntKind.wrap IntKind.i64 (n16 + 1))]) (w19) (fun e22 w23 =>
                          ∃ n24 : Int, (e22 = Ending.returned (Value.int IntKind.i64 n24) ∧
                           I20 (decide (IntKind.wrap IntKind.i64 (n10 + 1) > n24)) w23)))) ∧
                      (decide ((↑(ByteArray.size x1) : Int) ≤ n21) = false →
                        I20 false w19)))) ∧
                    ∀ b25 : Bool,
                    ∀ w26 : World,
                    (I20 b25 w26 →
                      (((b25 = true →
                         ((0 ≤ IntKind.wrap IntKind.i64 (n16 + 1) ∧
                           IntKind.wrap IntKind.i64 (n16 + 1) ≤ (↑(ByteArray.size x0) : Int)) ∧
                          False))) ∧
                       (b25 = false →
                         ∃ n27 : Int, (World.cell? w26 (Addr.mk 0 0 none) = some (Value.int IntKind.i64 n27) ∧
                          (((decide ((↑(ByteArray.size x1) : Int) > n27) = true →
                             ((0 : Int) ≤ (4 : Int) ∧
                              (((decide (IntKind.wrap IntKind.i64 (n10 + 1) ≥ IntKind.wrap IntKind.i64 (4 + Int.fdiv (IntKind.wrap IntKind.i64 (n16 + 1)) (2 ^ min (Int.toNat 4) 64))) = true →
                                 (((decide (IntKind.wrap IntKind.i64 (n16 + 1) < IntKind.wrap IntKind.i64 (IntKind.wrap IntKind.i64 ((↑(ByteArray.size x0) : Int) - (↑(ByteArray.size x1) : Int)) + 1)) = true →
                                    ((0 ≤ IntKind.wrap IntKind.i64 (n16 + 1) ∧
                                      IntKind.wrap IntKind.i64 (n16 + 1) ≤ (↑(ByteArray.size x0) : Int)) ∧
                                     Calls Tryd.prog (158 : Nat) (Array.mk [Value.string (ByteArray.extract x0 (Int.toNat (IntKind.wrap IntKind.i64 (n16 + 1))) (ByteArray.size x0)), Value.string x1]) (w26) (fun e28 w29 =>
                                       ∃ n30 : Int, (e28 = Ending.returned (Value.int IntKind.i64 n30) ∧
                                        (((decide (n30 < 0) = true →
                                           R (Value.int IntKind.i64 (-1)) w29)) ∧
                                         (decide (n30 < 0) = false →
                                           R (Value.int IntKind.i64 (IntKind.wrap IntKind.i64 (IntKind.wrap IntKind.i64 (n16 + 1) + n30))) w29))))))) ∧
                                  (decide (IntKind.wrap IntKind.i64 (n16 + 1) < IntKind.wrap IntKind.i64 (IntKind.wrap IntKind.i64 ((↑(ByteArray.size x0) : Int) - (↑(ByteArray.size x1) : Int)) + 1)) = false →
                                    (I7 (IntKind.wrap IntKind.i64 (n16 + 1)) (IntKind.wrap IntKind.i64 (n10 + 1)) w26 ∧
                                     I8 (IntKind.wrap IntKind.i64 (n16 + 1)) (IntKind.wrap IntKind.i64 (n10 + 1)) w26 < I8 n9 n10 w11))))) ∧
                               (decide (IntKind.wrap IntKind.i64 (n10 + 1) ≥ IntKind.wrap IntKind.i64 (4 + Int.fdiv (IntKind.wrap IntKind.i64 (n16 + 1)) (2 ^ min (Int.toNat 4) 64))) = false →
                                 (I7 (IntKind.wrap IntKind.i64 (n16 + 1)) (IntKind.wrap IntKind.i64 (n10 + 1)) w26 ∧
                                  I8 (IntKind.wrap IntKind.i64 (n16 + 1)) (IntKind.wrap IntKind.i64 (n10 + 1)) w26 < I8 n9 n10 w11)))))) ∧
                           (decide ((↑(ByteArray.size x1) : Int) > n27) = false →
                             (I7 (IntKind.wrap IntKind.i64 (n16 + 1)) (IntKind.wrap IntKind.i64 (n10 + 1)) w26 ∧
                              I8 (IntKind.wrap IntKind.i64 (n16 + 1)) (IntKind.wrap IntKind.i64 (n10 + 1)) w26 < I8 n9 n10 w11)))))))))))))) ∧
           (decide (n9 < IntKind.wrap IntKind.i64 (IntKind.wrap IntKind.i64 ((↑(ByteArray.size x0) : Int) - (↑(ByteArray.size x1) : Int)) + 1)) = false →
             R (Value.int IntKind.i64 (-1)) w11))))))))
theorem vc_stringslite_Index_ok {x0 : ByteArray} {x1 : ByteArray} {w : World} {R : Value → World → Prop} {R' : Ending → World → Prop} (h : vc_stringslite_Index x0 x1 w R) (hR : ∀ v w', R v w' → R' (.returned v) w') :
    Calls Tryd.prog 146 #[.string x0, .string x1] w R' :=
  calls_of_body (vs := [(.string x0, false), (.string x1, false)]) (ty := ty) (ann := ⟨[(10, []), (21, [(8, .int .i64)]), (23, []), (26, [(107, .bool)])], [(15, [(8, .int .i64), (10, .int .i64)])], [], []⟩) (c := Tryd.f146.body.getD .skip) (by kernel_rfl) Tryd.func146 (by kernel_rfl) (by kernel_rfl) (Eq.mp (by kernel_rfl) h) hR
/-- strings.Index -/
def vc_strings_Index (x0 : ByteArray) (x1 : ByteArray) (w : World) (R : Value → World → Prop) : Prop :=
  Calls Tryd.prog (146 : Nat) (Array.mk [Value.string x0, Value.string x1]) (w) (fun e1 w2 =>
    ∃ n3 : Int, (e1 = Ending.returned (Value.int IntKind.i64 n3) ∧
     R (Value.int IntKind.i64 n3) w2))
theorem vc_strings_Index_ok {x0 : ByteArray} {x1 : ByteArray} {w : World} {R : Value → World → Prop} {R' : Ending → World → Prop} (h : vc_strings_Index x0 x1 w R) (hR : ∀ v w', R v w' → R' (.returned v) w') :
    Calls Tryd.prog 133 #[.string x0, .string x1] w R' :=
  calls_of_body (vs := [(.string x0, false), (.string x1, false)]) (ty := ty) (ann := ⟨[], [], [], []⟩) (c := Tryd.f133.body.getD .skip) (by kernel_rfl) Tryd.func133 (by kernel_rfl) (by kernel_rfl) (Eq.mp (by kernel_rfl) h) hR
/-- strings.IndexRune -/
def vc_strings_IndexRune (x0 : ByteArray) (x1 : Int) (w : World) (R : Value → World → Prop) : Prop :=
  ∃ I1 : Bool → World → Prop, ((((decide (0 ≤ x1) = true →
      I1 (decide (x1 < 128)) w)) ∧
    (decide (0 ≤ x1) = false →
      I1 false w)) ∧
   ∀ b2 : Bool,
   ∀ w3 : World,
   (I1 b2 w3 →
     (((b2 = true →
        Calls Tryd.prog (167 : Nat) (Array.mk [Value.string x0, Value.int IntKind.u8 (IntKind.wrap IntKind.u8 x1)]) (w3) (fun e4 w5 =>
          ∃ n6 : Int, (e4 = Ending.returned (Value.int IntKind.i64 n6) ∧
           R (Value.int IntKind.i64 n6) w5)))) ∧
      (b2 = false →
        ((((x1 == 65533) = true →
           ∃ w7 : World, ∃ a8 : Addr, (Sem.run Tryd.prog (Instr.range 9 (Value.string x0)) w3 = Result.ok (Value.pointer (some a8)) w7 ∧
            ∃ I9 : World → Prop, ∃ I10 : World → Nat, (I9 w7 ∧
             ∀ w11 : World,
             (I9 w11 →
               ((∃ w12 : World, (Sem.run Tryd.prog (Instr.next (Value.pointer (some a8)) true 0) w11 = Result.ok (Value.tuple (Array.mk [Value.bool false])) w12 ∧
                 (((false = true →
                    False)) ∧
                  (false = false →
                    R (Value.int IntKind.i64 (-1)) w12)))) ∨
                (∃ w13 : World, ∃ n14 : Int, ∃ n15 : Int, (Sem.run Tryd.prog (Instr.next (Value.pointer (some a8)) true 0) w11 = Result.ok (Value.tuple (Array.mk [Value.bool true, Value.int IntKind.i64 n14, Value.int IntKind.i32 n15])) w13 ∧
                 (((true = true →
                    ((((n15 == 65533) = true →
                       R (Value.int IntKind.i64 n14) w13)) ∧
                     ((n15 == 65533) = false →
                       (I9 w13 ∧
                        I10 w13 < I10 w11))))) ∧
                  (true = false →
                    R (Value.int IntKind.i64 (-1)) w13)))))))))) ∧
         ((x1 == 65533) = false →
           Calls Tryd.prog (168 : Nat) (Array.mk [Value.int IntKind.i32 x1]) (w3) (fun e16 w17 =>
             ∃ b18 : Bool, (e16 = Ending.returned (Value.bool b18) ∧
              ((((!b18) = true →
                 R (Value.int IntKind.i64 (-1)) w17)) ∧
               ((!b18) = false →
                 ∃ w19 : World, ∃ s20 : ByteArray, (Sem.run Tryd.prog (convert 21 9 (Value.int IntKind.i32 x1)) w17 = Result.ok (Value.string s20) w19 ∧
                  ∃ I21 : Int → World → Prop, ∃ I22 : Int → World → Nat, (I21 (IntKind.wrap IntKind.i64 ((↑(ByteArray.size s20) : Int) - 1)) w19 ∧
                   ∀ n23 : Int,
                   ∀ w24 : World,
                   (I21 n23 w24 →
                     (((decide (n23 < (↑(ByteArray.size x0) : Int)) = true →
                        ∃ I25 : Int → World → Prop, (((0 ≤ n23 ∧
                           n23 < (↑(ByteArray.size x0) : Int)) ∧
                          ((0 ≤ IntKind.wrap IntKind.i64 ((↑(ByteArray.size s20) : Int) - 1) ∧
                            IntKind.wrap IntKind.i64 ((↑(ByteArray.size s20) : Int) - 1) < (↑(ByteArray.size s20) : Int)) ∧
                           ∀ w26 : World,
                           (Drew w24 w26 →
                             ((((byteAt x0 n23 != byteAt s20 (IntKind.wrap IntKind.i64 ((↑(ByteArray.size s20) : Int) - 1))) = true →
                                ∀ w27 : World,
                                (Drew w26 w27 →
                                  ∃ I28 : World → Prop, (I28 w27 ∧
                                   ((0 ≤ IntKind.wrap IntKind.i64 (n23 + 1) ∧
                                     IntKind.wrap IntKind.i64 (n23 + 1) ≤ (↑(ByteArray.size x0) : Int)) ∧
                                    ((0 ≤ IntKind.wrap IntKind.i64 ((↑(ByteArray.size s20) : Int) - 1) ∧
                                      IntKind.wrap IntKind.i64 ((↑(ByteArray.size s20) : Int) - 1) < (↑(ByteArray.size s20) : Int)) ∧
                                     Calls Tryd.prog (167 : Nat) (Array.mk [Value.string (ByteArray.extract x0 (Int.toNat (IntKind.wrap IntKind.i64 (n23 + 1))) (ByteArray.size x0)), Value.int IntKind.u8 (byteAt s20 (IntKind.wrap IntKind.i64 ((↑(ByteArray.size s20) : Int) - 1)))]) (w27) (fun e29 w30 =>
                                       ∃ n31 : Int, (e29 = Ending.returned (Value.int IntKind.i64 n31) ∧
                                        (I28 w30 ∧
                                         (((decide (n31 < 0) = true →
                                            R (Value.int IntKind.i64 (-1)) w30)) ∧
                                          (decide (n31 < 0) = false →
                                            I25 (IntKind.wrap IntKind.i64 (n23 + IntKind.wrap IntKind.i64 (n31 + 1))) w30))))))))))) ∧
                              ((byteAt x0 n23 != byteAt s20 (IntKind.wrap IntKind.i64 ((↑(ByteArray.size s20) : Int) - 1))) = false →
                                I25 n23 w26))))) ∧
                         ∀ n32 : Int,
                         ∀ w33 : World,
                         (I25 n32 w33 →
                           ∃ I34 : Int → World → Prop, ∃ I35 : Int → World → Nat, (I34 1 w33 ∧
                            ∀ n36 : Int,
                            ∀ w37 : World,
                            (I34 n36 w37 →
                              (((decide (n36 < (↑(ByteArray.size s20) : Int)) = true →
                                 ((0 ≤ IntKind.wrap IntKind.i64 (n32 - n36) ∧
                                   IntKind.wrap IntKind.i64 (n32 - n36) < (↑(ByteArray.size x0) : Int)) ∧
                                  ((0 ≤ IntKind.wrap IntKind.i64 (IntKind.wrap IntKind.i64 ((↑(ByteArray.size s20) : Int) - 1) - n36) ∧
                                    IntKind.wrap IntKind.i64 (IntKind.wrap IntKind.i64 ((↑(ByteArray.size s20) : Int) - 1) - n36) < (↑(ByteArray.size s20) : Int)) ∧
                                   ∀ w38 : World,
                                   (Drew w37 w38 →
                                     ((((byteAt x0 (IntKind.wrap IntKind.i64 (n32 - n36)) != byteAt s20 (IntKind.wrap IntKind.i64 (IntKind.wrap IntKind.i64 ((↑(ByteArray.size s20) : Int) - 1) - n36))) = true →
                                        False)) ∧
                                      ((byteAt x0 (IntKind.wrap IntKind.i64 (n32 - n36)) != byteAt s20 (IntKind.wrap IntKind.i64 (IntKind.wrap IntKind.i64 ((↑(ByteArray.size s20) : Int) - 1) - n36))) = false →
                                        (I34 (IntKind.wrap IntKind.i64 (n36 + 1)) w38 ∧
                                         I35 (IntKind.wrap IntKind.i64 (n36 + 1)) w38 < I35 n36 w37)))))))) ∧
                               (decide (n36 < (↑(ByteArray.size s20) : Int)) = false →
                                 R (Value.int IntKind.i64 (IntKind.wrap IntKind.i64 (n32 - IntKind.wrap IntKind.i64 ((↑(ByteArray.size s20) : Int) - 1)))) w37)))))))) ∧
                      (decide (n23 < (↑(ByteArray.size x0) : Int)) = false →
                        R (Value.int IntKind.i64 (-1)) w24)))))))))))))))
theorem vc_strings_IndexRune_ok {x0 : ByteArray} {x1 : Int} {w : World} {R : Value → World → Prop} {R' : Ending → World → Prop} (h : vc_strings_IndexRune x0 x1 w R) (hR : ∀ v w', R v w' → R' (.returned v) w') :
    Calls Tryd.prog 159 #[.string x0, .int .i32 x1] w R' :=
  calls_of_body (vs := [(.string x0, false), (.int .i32 x1, false)]) (ty := ty) (ann := ⟨[(11, [(9, .int .i64)]), (35, [(160, .bool)])], [(5, [(9, .int .i64)]), (12, [(12, .int .i64)]), (25, []), (29, []), (38, [])], [(6, .quiet), (7, .held [(0, true), (1, true), (2, true), (3, true), (4, true), (5, true), (6, true), (7, false), (8, true)]), (14, .quiet), (31, .quiet)], []⟩) (c := Tryd.f159.body.getD .skip) (by kernel_rfl) Tryd.func159 (by kernel_rfl) (by kernel_rfl) (Eq.mp (by kernel_rfl) h) hR
/-- strings.IndexAny -/
def vc_strings_IndexAny (x0 : ByteArray) (x1 : ByteArray) (w : World) (R : Value → World → Prop) : Prop :=
  ((((ByteArray.toList x1 == ByteArray.toList (ByteArray.mk (Array.mk []))) = true →
     R (Value.int IntKind.i64 (-1)) w)) ∧
   ((ByteArray.toList x1 == ByteArray.toList (ByteArray.mk (Array.mk []))) = false →
     (((((↑(ByteArray.size x1) : Int) == 1) = true →
        (((0 : Int) ≤ (0 : Int) ∧
          0 < (↑(ByteArray.size x1) : Int)) ∧
         (((decide (IntKind.wrap IntKind.i32 (byteAt x1 0) ≥ 128) = true →
            Calls Tryd.prog (159 : Nat) (Array.mk [Value.string x0, Value.int IntKind.i32 65533]) (w) (fun e1 w2 =>
              ∃ n3 : Int, (e1 = Ending.returned (Value.int IntKind.i64 n3) ∧
               R (Value.int IntKind.i64 n3) w2)))) ∧
          (decide (IntKind.wrap IntKind.i32 (byteAt x1 0) ≥ 128) = false →
            Calls Tryd.prog (159 : Nat) (Array.mk [Value.string x0, Value.int IntKind.i32 (IntKind.wrap IntKind.i32 (byteAt x1 0))]) (w) (fun e4 w5 =>
              ∃ n6 : Int, (e4 = Ending.returned (Value.int IntKind.i64 n6) ∧
               R (Value.int IntKind.i64 n6) w5))))))) ∧
      (((↑(ByteArray.size x1) : Int) == 1) = false →
        ∃ I7 : World → Prop, (Calls Tryd.prog (160 : Nat) (Array.mk [Value.int IntKind.i64 (↑(ByteArray.size x0) : Int)]) (w) (fun e8 w9 =>
           ∃ b10 : Bool, (e8 = Ending.returned (Value.bool b10) ∧
            (((b10 = true →
               Calls Tryd.prog (161 : Nat) (Array.mk [Value.string x1]) (w9) (fun e11 w12 =>
                 ∃ v13 : Value, ∃ b14 : Bool, (e11 = Ending.returned (Value.tuple (Array.mk [v13, Value.bool b14])) ∧
                  ∀ w15 : World,
                  (w15 = World.alloc w12 (Obj.cells (Array.mk [Value.bool false, Value.bool false, Value.bool false, Value.bool false, Value.bool false, Value.bool false, Value.bool false, Value.bool false, Value.bool false, Value.bool false, Value.bool false, Value.bool false, Value.bool false, Value.bool false, Value.bool false, Value.bool false, Value.bool false, Value.bool false, Value.bool false, Value.bool false, Value.bool false, Value.bool false, Value.bool false, Value.bool false, Value.bool false, Value.bool false, Value.bool false, Value.bool false, Value.bool false, Value.bool false, Value.bool false, Value.bool false, Value.bool false, Value.bool false, Value.bool false, Value.bool false, Value.bool false, Value.bool false, Value.bool false, Value.bool false, Value.bool false, Value.bool false, Value.bool false, Value.bool false, Value.bool false, Value.bool false, Value.bool false, Value.bool false, Value.bool false, Value.bool false, Value.bool false, Value.bool false, Value.bool false, Value.bool false, Value.bool false, Value.bool false, Value.bool false, Value.bool false, Value.bool false, Value.bool false, Value.bool false, Value.bool false, Value.bool false, Value.bool false, Value.bool false, Value.bool false, Value.bool false, Value.bool false, Value.bool false, Value.bool false, Value.bool false, Value.bool false, Value.bool false, Value.bool false, Value.bool false, Value.bool false, Value.bool false, Value.bool false, Value.bool false, Value.bool false, Value.bool false, Value.bool false, Value.bool false, Value.bool false, Value.bool false, Value.bool false, Value.bool false, Value.bool false, Value.bool false, Value.bool false, Value.bool false, Value.bool false, Value.bool false, Value.bool false, Value.bool false, Value.bool false, Value.bool false, Value.bool false, Value.bool false, Value.bool false, Value.bool false, Value.bool false, Value.bool false, Value.bool false, Value.bool false, Value.bool false, Value.bool false, Value.bool false, Value.bool false, Value.bool false, Value.bool false, Value.bool false, Value.bool false, Value.bool false, Value.bool false, Value.bool false, Value.bool false, Value.bool false, Value.bool false, Value.bool false, Value.bool false, Value.bool false, Value.bool false, Value.bool false, Value.bool false, Value.bool false, Value.bool false, Value.bool false, Value.bool false, Value.bool false, Value.bool false, Value.bool false, Value.bool false, Value.bool false, Value.bool false, Value.bool false, Value.bool false, Value.bool false, Value.bool false, Value.bool false, Value.bool false, Value.bool false, Value.bool false, Value.bool false, Value.bool false, Value.bool false, Value.bool false, Value.bool false, Value.bool false, Value.bool false, Value.bool false, Value.bool false, Value.bool false, Value.bool false, Value.bool false, Value.bool false, Value.bool false, Value.bool false, Value.bool false, Value.bool false, Value.bool false, Value.bool false, Value.bool false, Value.bool false, Value.bool false, Value.bool false, Value.bool false, Value.bool false, Value.bool false, Value.bool false, Value.bool false, Value.bool false, Value.bool false, Value.bool false, Value.bool false, Value.bool false, Value.bool false, Value.bool false, Value.bool false, Value.bool false, Value.bool false, Value.bool false, Value.bool false, Value.bool false, Value.bool false, Value.bool false, Value.bool false, Value.bool false, Value.bool false, Value.bool false, Value.bool false, Value.bool false, Value.bool false, Value.bool false, Value.bool false, Value.bool false, Value.bool false, Value.bool false, Value.bool false, Value.bool false, Value.bool false, Value.bool false, Value.bool false, Value.bool false, Value.bool false, Value.bool false, Value.bool false, Value.bool false, Value.bool false, Value.bool false, Value.bool false, Value.bool false, Value.bool false, Value.bool false, Value.bool false, Value.bool false, Value.bool false, Value.bool false, Value.bool false, Value.bool false, Value.bool false, Value.bool false, Value.bool false, Value.bool false, Value.bool false, Value.bool false, Value.bool false, Value.bool false, Value.bool false, Value.bool false, Value.bool false, Value.bool false, Value.bool false, Value.bool false, Value.bool false, Value.bool false, Value.bool false, Value.bool false, Value.bool false, Value.bool false, Value.bool false, Value.bool false, Value.bool false, Value.bool false, Value.bool false, Value.bool false, Value.bool false, Value.bool false, Value.bool false, Value.bool false, Value.bool false, Value.bool false, Value.bool false, Value.bool false, Value.bool false, Value.bool false]) 193) →
                    ∃ w16 : World, (Sem.run Tryd.prog (storeVar 193 (Addr.mk (Array.size (World.heap w12)) 0 none) v13) w15 = Result.ok PUnit.unit w16 ∧
                     (((b14 = true →
                        ∃ I17 : Int → World → Prop, ∃ I18 : Int → World → Nat, (I17 0 w16 ∧
                         ∀ n19 : Int,
                         ∀ w20 : World,
                         (I17 n19 w20 →
                           (((decide (n19 < (↑(ByteArray.size x0) : Int)) = true →
                              ((0 ≤ n19 ∧
                                n19 < (↑(ByteArray.size x0) : Int)) ∧
                               Calls Tryd.prog (162 : Nat) (Array.mk [Value.pointer (some (Addr.mk (Array.size (World.heap w12)) 0 none)), Value.int IntKind.u8 (byteAt x0 n19)]) (w20) (fun e21 w22 =>
                                 ∃ b23 : Bool, (e21 = Ending.returned (Value.bool b23) ∧
                                  (((b23 = true →
                                     R (Value.int IntKind.i64 n19) w22)) ∧
                                   (b23 = false →
                                     (I17 (IntKind.wrap IntKind.i64 (n19 + 1)) w22 ∧
                                      I18 (IntKind.wrap IntKind.i64 (n19 + 1)) w22 < I18 n19 w20)))))))) ∧
                            (decide (n19 < (↑(ByteArray.size x0) : Int)) = false →
                              R (Value.int IntKind.i64 (-1)) w20)))))) ∧
                      (b14 = false →
                        I7 w16)))))))) ∧
             (b10 = false →
               I7 w9)))) ∧
         ∀ w24 : World,
         (I7 w24 →
           ∃ w25 : World, ∃ a26 : Addr, (Sem.run Tryd.prog (Instr.range 9 (Value.string x0)) w24 = Result.ok (Value.pointer (some a26)) w25 ∧
            ∃ I27 : World → Prop, ∃ I28 : World → Nat, (I27 w25 ∧
             ∀ w29 : World,
             (I27 w29 →
               ((∃ w30 : World, (Sem.run Tryd.prog (Instr.next (Value.pointer (some a26)) true 0) w29 = Result.ok (Value.tuple (Array.mk [Value.bool false])) w30 ∧
                 (((false = true →
                    False)) ∧
                  (false = false →
                    R (Value.int IntKind.i64 (-1)) w30)))) ∨
                (∃ w31 : World, ∃ n32 : Int, ∃ n33 : Int, (Sem.run Tryd.prog (Instr.next (Value.pointer (some a26)) true 0) w29 = Result.ok (Value.tuple (Array.mk [Value.bool true, Value.int IntKind.i64 n32, Value.int IntKind.i32 n33])) w31 ∧
                 (((true = true →
                    Calls Tryd.prog (159 : Nat) (Array.mk [Value.string x1, Value.int IntKind.i32 n33]) (w31) (fun e34 w35 =>
                      ∃ n36 : Int, (e34 = Ending.returned (Value.int IntKind.i64 n36) ∧
                       (((decide (n36 ≥ 0) = true →
                          R (Value.int IntKind.i64 n32) w35)) ∧
                        (decide (n36 ≥ 0) = false →
                          (I27 w35 ∧
                           I28 w35 < I28 w29))))))) ∧
                  (true = false →
                    R (Value.int IntKind.i64 (-1)) w31))))))))))))))
theorem vc_strings_IndexAny_ok {x0 : ByteArray} {x1 : ByteArray} {w : World} {R : Value → World → Prop} {R' : Ending → World → Prop} (h : vc_strings_IndexAny x0 x1 w R) (hR : ∀ v w', R v w' → R' (.returned v) w') :
    Calls Tryd.prog 147 #[.string x0, .string x1] w R' :=
  calls_of_body (vs := [(.string x0, false), (.string x1, false)]) (ty := ty) (ann := ⟨[(17, [])], [(12, [(8, .int .i64)]), (18, [])], [], []⟩) (c := Tryd.f147.body.getD .skip) (by kernel_rfl) Tryd.func147 (by kernel_rfl) (by kernel_rfl) (Eq.mp (by kernel_rfl) h) hR
/-- strings.shouldUseASCIISet -/
def vc_strings_shouldUseASCIISet (x0 : Int) (w : World) (R : Value → World → Prop) : Prop :=
  R (Value.bool (decide (x0 > 8))) w
theorem vc_strings_shouldUseASCIISet_ok {x0 : Int} {w : World} {R : Value → World → Prop} {R' : Ending → World → Prop} (h : vc_strings_shouldUseASCIISet x0 w R) (hR : ∀ v w', R v w' → R' (.returned v) w') :
    Calls Tryd.prog 160 #[.int .i64 x0] w R' :=
  calls_of_body (vs := [(.int .i64 x0, false)]) (ty := ty) (ann := ⟨[], [], [], []⟩) (c := Tryd.f160.body.getD .skip) (by kernel_rfl) Tryd.func160 (by kernel_rfl) (by kernel_rfl) (Eq.mp (by kernel_rfl) h) hR
/-- strings.makeASCIISet -/
def vc_strings_makeASCIISet (x0 : ByteArray) (w : World) (R : Value → World → Prop) : Prop :=
  ∀ w1 : World,
  (w1 = World.alloc w (Obj.cells (Array.mk [Value.bool false, Value.bool false, Value.bool false, Value.bool false, Value.bool false, Value.bool false, Value.bool false, Value.bool false, Value.bool false, Value.bool false, Value.bool false, Value.bool false, Value.bool false, Value.bool false, Value.bool false, Value.bool false, Value.bool false, Value.bool false, Value.bool false, Value.bool false, Value.bool false, Value.bool false, Value.bool false, Value.bool false, Value.bool false, Value.bool false, Value.bool false, Value.bool false, Value.bool false, Value.bool false, Value.bool false, Value.bool false, Value.bool false, Value.bool false, Value.bool false, Value.bool false, Value.bool false, Value.bool false, Value.bool false, Value.bool false, Value.bool false, Value.bool false, Value.bool false, Value.bool false, Value.bool false, Value.bool false, Value.bool false, Value.bool false, Value.bool false, Value.bool false, Value.bool false, Value.bool false, Value.bool false, Value.bool false, Value.bool false, Value.bool false, Value.bool false, Value.bool false, Value.bool false, Value.bool false, Value.bool false, Value.bool false, Value.bool false, Value.bool false, Value.bool false, Value.bool false, Value.bool false, Value.bool false, Value.bool false, Value.bool false, Value.bool false, Value.bool false, Value.bool false, Value.bool false, Value.bool false, Value.bool false, Value.bool false, Value.bool false, Value.bool false, Value.bool false, Value.bool false, Value.bool false, Value.bool false, Value.bool false, Value.bool false, Value.bool false, Value.bool false, Value.bool false, Value.bool false, Value.bool false, Value.bool false, Value.bool false, Value.bool false, Value.bool false, Value.bool false, Value.bool false, Value.bool false, Value.bool false, Value.bool false, Value.bool false, Value.bool false, Value.bool false, Value.bool false, Value.bool false, Value.bool false, Value.bool false, Value.bool false, Value.bool false, Value.bool false, Value.bool false, Value.bool false, Value.bool false, Value.bool false, Value.bool false, Value.bool false, Value.bool false, Value.bool false, Value.bool false, Value.bool false, Value.bool false, Value.bool false, Value.bool false, Value.bool false, Value.bool false, Value.bool false, Value.bool false, Value.bool false, Value.bool false, Value.bool false, Value.bool false, Value.bool false, Value.bool false, Value.bool false, Value.bool false, Value.bool false, Value.bool false, Value.bool false, Value.bool false, Value.bool false, Value.bool false, Value.bool false, Value.bool false, Value.bool false, Value.bool false, Value.bool false, Value.bool false, Value.bool false, Value.bool false, Value.bool false, Value.bool false, Value.bool false, Value.bool false, Value.bool false, Value.bool false, Value.bool false, Value.bool false, Value.bool false, Value.bool false, Value.bool false, Value.bool false, Value.bool false, Value.bool false, Value.bool false, Value.bool false, Value.bool false, Value.bool false, Value.bool false, Value.bool false, Value.bool false, Value.bool false, Value.bool false, Value.bool false, Value.bool false, Value.bool false, Value.bool false, Value.bool false, Value.bool false, Value.bool false, Value.bool false, Value.bool false, Value.bool false, Value.bool false, Value.bool false, Value.bool false, Value.bool false, Value.bool false, Value.bool false, Value.bool false, Value.bool false, Value.bool false, Value.bool false, Value.bool false, Value.bool false, Value.bool false, Value.bool false, Value.bool false, Value.bool false, Value.bool false, Value.bool false, Value.bool false, Value.bool false, Value.bool false, Value.bool false, Value.bool false, Value.bool false, Value.bool false, Value.bool false, Value.bool false, Value.bool false, Value.bool false, Value.bool false, Value.bool false, Value.bool false, Value.bool false, Value.bool false, Value.bool false, Value.bool false, Value.bool false, Value.bool false, Value.bool false, Value.bool false, Value.bool false, Value.bool false, Value.bool false, Value.bool false, Value.bool false, Value.bool false, Value.bool false, Value.bool false, Value.bool false, Value.bool false, Value.bool false, Value.bool false, Value.bool false, Value.bool false, Value.bool false, Value.bool false, Value.bool false, Value.bool false, Value.bool false, Value.bool false, Value.bool false, Value.bool false, Value.bool false, Value.bool false, Value.bool false, Value.bool false, Value.bool false, Value.bool false, Value.bool false, Value.bool false, Value.bool false, Value.bool false, Value.bool false, Value.bool false, Value.bool false]) 193) →
    ∃ I2 : Int → World → Prop, ∃ I3 : Int → World → Nat, (I2 0 w1 ∧
     ∀ n4 : Int,
     ∀ w5 : World,
     (I2 n4 w5 →
       (((decide (n4 < (↑(ByteArray.size x0) : Int)) = true →
          ((0 ≤ n4 ∧
            n4 < (↑(ByteArray.size x0) : Int)) ∧
           (((decide (byteAt x0 n4 ≥ 128) = true →
              ∃ v6 : Value, (Sem.run Tryd.prog (loadVar 193 (Addr.mk (Array.size (World.heap w)) 0 none)) w5 = Result.ok v6 w5 ∧
               ∃ w7 : World, (Sem.run Tryd.prog (storeVar 193 (Addr.mk (Array.size (World.heap w)) 0 none) v6) w5 = Result.ok PUnit.unit w7 ∧
                ∃ v8 : Value, (Sem.run Tryd.prog (loadVar 193 (Addr.mk (Array.size (World.heap w)) 0 none)) w7 = Result.ok v8 w7 ∧
                 R (Value.tuple (Array.mk [v8, Value.bool false])) w7))))) ∧
            (decide (byteAt x0 n4 ≥ 128) = false →
              ((0 ≤ byteAt x0 n4 ∧
                byteAt x0 n4 < (↑256 : Int)) ∧
               (Wr w5 (Addr.add (Addr.mk (Array.size (World.heap w)) 0 none) (Int.toNat (byteAt x0 n4) * 1)) ∧
                ∀ w9 : World,
                (w9 = World.setCell w5 (Addr.add (Addr.mk (Array.size (World.heap w)) 0 none) (Int.toNat (byteAt x0 n4) * 1)) (Value.bool true) →
                  (I2 (IntKind.wrap IntKind.i64 (n4 + 1)) w9 ∧
                   I3 (IntKind.wrap IntKind.i64 (n4 + 1)) w9 < I3 n4 w5))))))))) ∧
        (decide (n4 < (↑(ByteArray.size x0) : Int)) = false →
          ∃ v10 : Value, (Sem.run Tryd.prog (loadVar 193 (Addr.mk (Array.size (World.heap w)) 0 none)) w5 = Result.ok v10 w5 ∧
           ∃ w11 : World, (Sem.run Tryd.prog (storeVar 193 (Addr.mk (Array.size (World.heap w)) 0 none) v10) w5 = Result.ok PUnit.unit w11 ∧
            ∃ v12 : Value, (Sem.run Tryd.prog (loadVar 193 (Addr.mk (Array.size (World.heap w)) 0 none)) w11 = Result.ok v12 w11 ∧
             R (Value.tuple (Array.mk [v12, Value.bool true])) w11))))))))
theorem vc_strings_makeASCIISet_ok {x0 : ByteArray} {w : World} {R : Value → World → Prop} {R' : Ending → World → Prop} (h : vc_strings_makeASCIISet x0 w R) (hR : ∀ v w', R v w' → R' (.returned v) w') :
    Calls Tryd.prog 161 #[.string x0] w R' :=
  calls_of_body (vs := [(.string x0, false)]) (ty := ty) (ann := ⟨[], [(2, [(4, .int .i64)])], [], []⟩) (c := Tryd.f161.body.getD .skip) (by kernel_rfl) Tryd.func161 (by kernel_rfl) (by kernel_rfl) (Eq.mp (by kernel_rfl) h) hR
/-- (*strings.asciiSet).contains -/
def vc_strings_asciiSet_contains (x0 : Nat) (x1 : Int) (w : World) (R : Value → World → Prop) : Prop :=
  ((0 ≤ x1 ∧
    x1 < (↑256 : Int)) ∧
   ∃ b1 : Bool, (World.cell? w (Addr.add (Addr.mk x0 0 none) (Int.toNat x1 * 1)) = some (Value.bool b1) ∧
    R (Value.bool b1) w))
theorem vc_strings_asciiSet_contains_ok {x0 : Nat} {x1 : Int} {w : World} {R : Value → World → Prop} {R' : Ending → World → Prop} (h : vc_strings_asciiSet_contains x0 x1 w R) (hR : ∀ v w', R v w' → R' (.returned v) w') :
    Calls Tryd.prog 162 #[.pointer (some ⟨x0, 0, none⟩), .int .u8 x1] w R' :=
  calls_of_body (vs := [(.pointer (some ⟨x0, 0, none⟩), true), (.int .u8 x1, false)]) (ty := ty) (ann := ⟨[], [], [], []⟩) (c := Tryd.f162.body.getD .skip) (by kernel_rfl) Tryd.func162 (by kernel_rfl) (by kernel_rfl) (Eq.mp (by kernel_rfl) h) hR
/-- strings.ContainsAny -/
def vc_strings_ContainsAny (x0 : ByteArray) (x1 : ByteArray) (w : World) (R : Value → World → Prop) : Prop :=
  Calls Tryd.prog (147 : Nat) (Array.mk [Value.string x0, Value.string x1]) (w) (fun e1 w2 =>
    ∃ n3 : Int, (e1 = Ending.returned (Value.int IntKind.i64 n3) ∧
     R (Value.bool (decide (n3 ≥ 0))) w2))
theorem vc_strings_ContainsAny_ok {x0 : ByteArray} {x1 : ByteArray} {w : World} {R : Value → World → Prop} {R' : Ending → World → Prop} (h : vc_strings_ContainsAny x0 x1 w R) (hR : ∀ v w', R v w' → R' (.returned v) w') :
    Calls Tryd.prog 134 #[.string x0, .string x1] w R' :=
  calls_of_body (vs := [(.string x0, false), (.string x1, false)]) (ty := ty) (ann := ⟨[], [], [], []⟩) (c := Tryd.f134.body.getD .skip) (by kernel_rfl) Tryd.func134 (by kernel_rfl) (by kernel_rfl) (Eq.mp (by kernel_rfl) h) hR
/-- unicode/utf8.ValidRune -/
def vc_utf8_ValidRune (x0 : Int) (w : World) (R : Value → World → Prop) : Prop :=
  (((decide (0 ≤ x0) = true →
     (((decide (x0 < 55296) = true →
        R (Value.bool true) w)) ∧
      (decide (x0 < 55296) = false →
        (((decide (57343 < x0) = true →
           (((decide (x0 ≤ 1114111) = true →
              R (Value.bool true) w)) ∧
            (decide (x0 ≤ 1114111) = false →
              R (Value.bool false) w)))) ∧
         (decide (57343 < x0) = false →
           R (Value.bool false) w)))))) ∧
   (decide (0 ≤ x0) = false →
     (((decide (57343 < x0) = true →
        (((decide (x0 ≤ 1114111) = true →
           R (Value.bool true) w)) ∧
         (decide (x0 ≤ 1114111) = false →
           R (Value.bool false) w)))) ∧
      (decide (57343 < x0) = false →
        R (Value.bool false) w))))
theorem vc_utf8_ValidRune_ok {x0 : Int} {w : World} {R : Value → World → Prop} {R' : Ending → World → Prop} (h : vc_utf8_ValidRune x0 w R) (hR : ∀ v w', R v w' → R' (.returned v) w') :
    Calls Tryd.prog 168 #[.int .i32 x0] w R' :=
  calls_of_body (vs := [(.int .i32 x0, false)]) (ty := ty) (ann := ⟨[], [], [], []⟩) (c := Tryd.f168.body.getD .skip) (by kernel_rfl) Tryd.func168 (by kernel_rfl) (by kernel_rfl) (Eq.mp (by kernel_rfl) h) hR
/-- unicode/utf8.DecodeRuneInString -/
def vc_utf8_DecodeRuneInString (x0 : ByteArray) (w : World) (R : Value → World → Prop) : Prop :=
  ((((!ByteArray.toList x0 == ByteArray.toList (ByteArray.mk (Array.mk []))) = true →
     (((0 : Int) ≤ (0 : Int) ∧
       0 < (↑(ByteArray.size x0) : Int)) ∧
      (((decide (byteAt x0 0 < 128) = true →
         (((0 : Int) ≤ (0 : Int) ∧
           0 < (↑(ByteArray.size x0) : Int)) ∧
          R (Value.tuple (Array.mk [Value.int IntKind.i32 (IntKind.wrap IntKind.i32 (byteAt x0 0)), Value.int IntKind.i64 1])) w))) ∧
       (decide (byteAt x0 0 < 128) = false →
         Calls Tryd.prog (148 : Nat) (Array.mk [Value.string x0]) (w) (fun e1 w2 =>
           ∃ n3 : Int, ∃ n4 : Int, (e1 = Ending.returned (Value.tuple (Array.mk [Value.int IntKind.i32 n3, Value.int IntKind.i64 n4])) ∧
            R (Value.tuple (Array.mk [Value.int IntKind.i32 n3, Value.int IntKind.i64 n4])) w2))))))) ∧
   ((!ByteArray.toList x0 == ByteArray.toList (ByteArray.mk (Array.mk []))) = false →
     Calls Tryd.prog (148 : Nat) (Array.mk [Value.string x0]) (w) (fun e5 w6 =>
       ∃ n7 : Int, ∃ n8 : Int, (e5 = Ending.returned (Value.tuple (Array.mk [Value.int IntKind.i32 n7, Value.int IntKind.i64 n8])) ∧
        R (Value.tuple (Array.mk [Value.int IntKind.i32 n7, Value.int IntKind.i64 n8])) w6))))
theorem vc_utf8_DecodeRuneInString_ok {x0 : ByteArray} {w : World} {R : Value → World → Prop} {R' : Ending → World → Prop} (h : vc_utf8_DecodeRuneInString x0 w R) (hR : ∀ v w', R v w' → R' (.returned v) w') :
    Calls Tryd.prog 137 #[.string x0] w R' :=
  calls_of_body (vs := [(.string x0, false)]) (ty := ty) (ann := ⟨[], [], [], []⟩) (c := Tryd.f137.body.getD .skip) (by kernel_rfl) Tryd.func137 (by kernel_rfl) (by kernel_rfl) (Eq.mp (by kernel_rfl) h) hR
end Go.Proofs.YtfoeooddnmppnaaDoor

/- Structures of the kit over its shelf, at this seat (written by a program of the author's, laysn.py). No condition. -/
namespace Go.Proofs.YtfoeooddnmppnaaDoor
open Go Go.Shelf Go.Proofs
def lays217_ren : Go.Shelf.Ren := ⟨fun | 217 => 155 | 266 => 165 | n => n, fun | 3 => 3 | 5 => 5 | 9 => 9 | n => n, fun  | n => n⟩
theorem lays217 : Go.Proofs.Lays.n217 Tryd.prog lays217_ren := {
  mixed := by kernel_rfl,
  f217 := Tryd.func155.trans (congrArg some (by kernel_rfl)),
  f266 := Tryd.func165.trans (congrArg some (by kernel_rfl)),
  t3 := Tryd.underlying3,
  a3 := Tryd.isAgg3,
  z3 := Tryd.sizeOf3,
  v3 := Tryd.zeroValue3,
  t5 := Tryd.underlying5,
  a5 := Tryd.isAgg5,
  z5 := Tryd.sizeOf5,
  v5 := Tryd.zeroValue5,
  t9 := Tryd.underlying9,
  a9 := Tryd.isAgg9,
  z9 := Tryd.sizeOf9,
  v9 := Tryd.zeroValue9 }
def lays153_ren : Go.Shelf.Ren := ⟨fun | 119 => 168 | 137 => 167 | 152 => 159 | 153 => 147 | 217 => 155 | 224 => 157 | 225 => 156 | 226 => 160 | 227 => 161 | 228 => 162 | 266 => 165 | n => n, fun | 0 => 0 | 116 => 193 | 117 => 194 | 124 => 204 | 21 => 21 | 3 => 3 | 4 => 4 | 46 => 135 | 5 => 5 | 9 => 9 | n => n, fun  | n => n⟩
theorem lays153 : Go.Proofs.Lays.n153 Tryd.prog lays153_ren := {
  mixed := by kernel_rfl,
  f119 := Tryd.func168.trans (congrArg some (by kernel_rfl)),
  f137 := Tryd.func167.trans (congrArg some (by kernel_rfl)),
  f152 := Tryd.func159.trans (congrArg some (by kernel_rfl)),
  f153 := Tryd.func147.trans (congrArg some (by kernel_rfl)),
  f217 := Tryd.func155.trans (congrArg some (by kernel_rfl)),
  f224 := Tryd.func157.trans (congrArg some (by kernel_rfl)),
  f225 := Tryd.func156.trans (congrArg some (by kernel_rfl)),
  f226 := Tryd.func160.trans (congrArg some (by kernel_rfl)),
  f227 := Tryd.func161.trans (congrArg some (by kernel_rfl)),
  f228 := Tryd.func162.trans (congrArg some (by kernel_rfl)),
  f266 := Tryd.func165.trans (congrArg some (by kernel_rfl)),
  t0 := Tryd.underlying0,
  a0 := Tryd.isAgg0,
  z0 := Tryd.sizeOf0,
  v0 := Tryd.zeroValue0,
  t3 := Tryd.underlying3,
  a3 := Tryd.isAgg3,
  z3 := Tryd.sizeOf3,
  v3 := Tryd.zeroValue3,
  t4 := Tryd.underlying4,
  a4 := Tryd.isAgg4,
  z4 := Tryd.sizeOf4,
  v4 := Tryd.zeroValue4,
  t5 := Tryd.underlying5,
  a5 := Tryd.isAgg5,
  z5 := Tryd.sizeOf5,
  v5 := Tryd.zeroValue5,
  t9 := Tryd.underlying9,
  a9 := Tryd.isAgg9,
  z9 := Tryd.sizeOf9,
  v9 := Tryd.zeroValue9,
  t21 := Tryd.underlying21,
  a21 := Tryd.isAgg21,
  z21 := Tryd.sizeOf21,
  v21 := Tryd.zeroValue21,
  t46 := Tryd.underlying135,
  a46 := Tryd.isAgg135,
  z46 := Tryd.sizeOf135,
  v46 := Tryd.zeroValue135,
  t116 := Tryd.underlying193,
  a116 := Tryd.isAgg193,
  z116 := Tryd.sizeOf193,
  t117 := Tryd.underlying194,
  a117 := Tryd.isAgg194,
  z117 := Tryd.sizeOf194,
  v117 := Tryd.zeroValue194,
  t124 := Tryd.underlying204,
  a124 := Tryd.isAgg204,
  z124 := Tryd.sizeOf204,
  v124 := Tryd.zeroValue204 }
end Go.Proofs.YtfoeooddnmppnaaDoor

/- Go's text functions of this seat: Index at one byte. Conditions: as named. -/
set_option linter.unusedVariables false
namespace Go.Proofs.YtfoeooddnmppnaaDoor
open Go Vc Go.Proofs

theorem indexByteL_spec (s : ByteArray) (c : Int) (w : World) : Calls Tryd.prog F_stringslite_IndexByte #[.string s, .int .u8 c] w fun e w' => e = .returned (.int .i64 (Lib.indexByte s.data.toList c.toNat.toUInt8)) ∧ w' = w :=
  Any.stringslite_IndexByte lays217 s c w
/-- 'Index' at one byte. -/
theorem index1_spec (s : ByteArray) (c : Nat) (hc : c < 256) (w : World) : Calls Tryd.prog F_stringslite_Index #[.string s, .string ⟨#[UInt8.ofNat c]⟩] w fun e w' => e = .returned (.int .i64 (Lib.indexByte s.data.toList (UInt8.ofNat c))) ∧ w' = w := by
  refine vc_stringslite_Index_ok (R := fun v w' => v = .int .i64 (Lib.indexByte s.data.toList (UInt8.ofNat c)) ∧ w' = w) ?_ (fun v w' h => ⟨by rw [h.1], h.2⟩)
  have hb : byteAt ⟨#[UInt8.ofNat c]⟩ 0 = (c : Int) := by
    show (((UInt8.ofNat c).toNat : Nat) : Int) = _
    rw [toNat_of c hc]
  have h1 : (ByteArray.mk #[UInt8.ofNat c]).size = 1 := rfl
  refine ⟨fun _ => False, ⟨fun h => absurd h (by rw [h1]; decide), fun _ => ⟨fun h => ?_, fun _ => ⟨fun _ => ⟨⟨by decide, by rw [h1]; decide⟩, ?_⟩, fun h => absurd h (by rw [h1]; decide)⟩⟩⟩, fun _ h => h.elim⟩
  · rw [bs_eq] at h
    have h := of_decide_eq_true h
    subst h
    refine ⟨?_, rfl⟩
    have : Lib.indexByte (ByteArray.mk #[UInt8.ofNat c]).data.toList (UInt8.ofNat c) = ((0 : Nat) : Int) :=
      fnd_at (by rw [h1]; decide) rfl (fun k hk => by omega)
    rw [this]; rfl
  · rw [hb]
    refine (indexByteL_spec s c w).mono ?_
    rintro e w2 ⟨rfl, rfl⟩
    refine ⟨_, rfl, ?_, rfl⟩
    simp
/-- What 'Cut' at one byte says. -/
def cutS (s : ByteArray) (c : UInt8) : ByteArray × ByteArray × Bool :=
  if Lib.indexByte s.data.toList c = -1 then (s, ⟨#[]⟩, false) else (s.extract 0 (Lib.indexByte s.data.toList c).toNat, s.extract ((Lib.indexByte s.data.toList c).toNat + 1) s.size, true)
end Go.Proofs.YtfoeooddnmppnaaDoor

/- Formulas of 4 Go functions of this seat (written by a program of the author's, vcgen.py), and that each is enough for the call. No condition. -/
set_option linter.unusedVariables false
namespace Go.Proofs.YtfoeooddnmppnaaDoor
open Go Vc Go.Proofs
set_option maxRecDepth 100000
/-- snap.Clean$1 -/
def vc_snap_Clean_1 (x0 : Int) (w : World) (R : Value → World → Prop) : Prop :=
  (((decide (x0 < 32) = true →
     R (Value.bool true) w)) ∧
   (decide (x0 < 32) = false →
     R (Value.bool (decide (x0 > 126))) w))
theorem vc_snap_Clean_1_ok {x0 : Int} {w : World} {R : Value → World → Prop} {R' : Ending → World → Prop} (h : vc_snap_Clean_1 x0 w R) (hR : ∀ v w', R v w' → R' (.returned v) w') :
    Calls Tryd.prog 92 #[.int .i32 x0] w R' :=
  calls_of_body (vs := [(.int .i32 x0, false)]) (ty := ty) (ann := ⟨[], [], [], []⟩) (c := Tryd.f92.body.getD .skip) (by kernel_rfl) Tryd.func92 (by kernel_rfl) (by kernel_rfl) (Eq.mp (by kernel_rfl) h) hR
/-- strings.indexFunc#clean -/
def vc_strings_indexFunc_clean (x0 : ByteArray) (x2 : Bool) (w : World) (R : Value → World → Prop) : Prop :=
  ∃ w1 : World, ∃ a2 : Addr, (Sem.run Tryd.prog (Instr.range 9 (Value.string x0)) w = Result.ok (Value.pointer (some a2)) w1 ∧
   ∃ I3 : World → Prop, ∃ I4 : World → Nat, (I3 w1 ∧
    ∀ w5 : World,
    (I3 w5 →
      ((∃ w6 : World, (Sem.run Tryd.prog (Instr.next (Value.pointer (some a2)) true 0) w5 = Result.ok (Value.tuple (Array.mk [Value.bool false])) w6 ∧
        (((false = true →
           False)) ∧
         (false = false →
           R (Value.int IntKind.i64 (-1)) w6)))) ∨
       (∃ w7 : World, ∃ n8 : Int, ∃ n9 : Int, (Sem.run Tryd.prog (Instr.next (Value.pointer (some a2)) true 0) w5 = Result.ok (Value.tuple (Array.mk [Value.bool true, Value.int IntKind.i64 n8, Value.int IntKind.i32 n9])) w7 ∧
        (((true = true →
           Calls Tryd.prog (92 : FuncId) (Array.mk [Value.int IntKind.i32 n9]) (w7) (fun e10 w11 =>
             ∃ b12 : Bool, (e10 = Ending.returned (Value.bool b12) ∧
              ((((b12 == x2) = true →
                 R (Value.int IntKind.i64 n8) w11)) ∧
               ((b12 == x2) = false →
                 (I3 w11 ∧
                  I4 w11 < I4 w5))))))) ∧
         (true = false →
           R (Value.int IntKind.i64 (-1)) w7))))))))
theorem vc_strings_indexFunc_clean_ok {x0 : ByteArray} {x2 : Bool} {w : World} {R : Value → World → Prop} {R' : Ending → World → Prop} (h : vc_strings_indexFunc_clean x0 x2 w R) (hR : ∀ v w', R v w' → R' (.returned v) w') :
    Calls Tryd.prog 138 #[.string x0, .func (.func 92) #[] #[], .bool x2] w R' :=
  calls_of_body (vs := [(.string x0, false), (.func (.func 92) #[] #[], false), (.bool x2, false)]) (ty := ty) (ann := ⟨[], [(2, [])], [], []⟩) (c := Tryd.f138.body.getD .skip) (by kernel_rfl) Tryd.func138 (by kernel_rfl) (by kernel_rfl) (Eq.mp (by kernel_rfl) h) hR
/-- strings.IndexFunc#clean -/
def vc_strings_IndexFunc_clean (x0 : ByteArray) (w : World) (R : Value → World → Prop) : Prop :=
  Calls Tryd.prog (138 : Nat) (Array.mk [Value.string x0, Value.func (Fn.func 92) (Array.mk []) (Array.mk []), Value.bool true]) (w) (fun e1 w2 =>
    ∃ n3 : Int, (e1 = Ending.returned (Value.int IntKind.i64 n3) ∧
     R (Value.int IntKind.i64 n3) w2))
theorem vc_strings_IndexFunc_clean_ok {x0 : ByteArray} {w : World} {R : Value → World → Prop} {R' : Ending → World → Prop} (h : vc_strings_IndexFunc_clean x0 w R) (hR : ∀ v w', R v w' → R' (.returned v) w') :
    Calls Tryd.prog 122 #[.string x0, .func (.func 92) #[] #[]] w R' :=
  calls_of_body (vs := [(.string x0, false), (.func (.func 92) #[] #[], false)]) (ty := ty) (ann := ⟨[], [], [], []⟩) (c := Tryd.f122.body.getD .skip) (by kernel_rfl) Tryd.func122 (by kernel_rfl) (by kernel_rfl) (Eq.mp (by kernel_rfl) h) hR
/-- strings.ContainsFunc#clean -/
def vc_strings_ContainsFunc_clean (x0 : ByteArray) (w : World) (R : Value → World → Prop) : Prop :=
  Calls Tryd.prog (122 : Nat) (Array.mk [Value.string x0, Value.func (Fn.func 92) (Array.mk []) (Array.mk [])]) (w) (fun e1 w2 =>
    ∃ n3 : Int, (e1 = Ending.returned (Value.int IntKind.i64 n3) ∧
     R (Value.bool (decide (n3 ≥ 0))) w2))
theorem vc_strings_ContainsFunc_clean_ok {x0 : ByteArray} {w : World} {R : Value → World → Prop} {R' : Ending → World → Prop} (h : vc_strings_ContainsFunc_clean x0 w R) (hR : ∀ v w', R v w' → R' (.returned v) w') :
    Calls Tryd.prog 91 #[.string x0, .func (.func 92) #[] #[]] w R' :=
  calls_of_body (vs := [(.string x0, false), (.func (.func 92) #[] #[], false)]) (ty := ty) (ann := ⟨[], [], [], []⟩) (c := Tryd.f91.body.getD .skip) (by kernel_rfl) Tryd.func91 (by kernel_rfl) (by kernel_rfl) (Eq.mp (by kernel_rfl) h) hR
end Go.Proofs.YtfoeooddnmppnaaDoor

/- strings.SplitSeq at a slash, a range over it, ContainsFunc, snap.Clean. Conditions: as named. -/
set_option linter.unusedVariables false
namespace Go.Proofs.YtfoeooddnmppnaaDoor
open Go Vc Go.Proofs Go.RowKit Go.Shelf
attribute [local go_sem] Oper.semAt_some

/-- The parts of a text, cut at each slash. -/
def partsF : Nat → ByteArray → List ByteArray
  | 0, s => [s]
  | f + 1, s => if Lib.indexByte s.data.toList 47 = -1 then [s] else s.extract 0 (Lib.indexByte s.data.toList 47).toNat :: partsF f (s.extract ((Lib.indexByte s.data.toList 47).toNat + 1) s.size)
theorem index47 (s : ByteArray) (w : World) : Calls Tryd.prog F_strings_Index #[.string s, .string ⟨#[47]⟩] w fun e w' => e = .returned (.int .i64 (Lib.indexByte s.data.toList 47)) ∧ w' = w := by
  refine vc_strings_Index_ok (R := fun v w' => v = .int .i64 (Lib.indexByte s.data.toList 47) ∧ w' = w) ?_ (fun v w' h => ⟨by rw [h.1], h.2⟩)
  refine (index1_spec s 47 (by decide) w).mono ?_
  rintro e w2 ⟨rfl, rfl⟩
  exact ⟨_, rfl, rfl, rfl⟩
theorem partsF_no {s : ByteArray} (h : Lib.indexByte s.data.toList 47 = -1) (g : Nat) : partsF g s = [s] := by
  cases g with
  | zero => rfl
  | succ g => rw [partsF, if_pos h]
theorem partsF_yes {s : ByteArray} {i : Nat} (h : Lib.indexByte s.data.toList 47 = (i : Int)) (g : Nat) : partsF (g + 1) s = s.extract 0 i :: partsF g (s.extract (i + 1) s.size) := by
  rw [partsF, h, if_neg (by omega), Int.toNat_natCast]
set_option maxRecDepth 100000 in
set_option maxHeartbeats 2000000 in
theorem splitSeq_rounds (n : Nat) (hn : 1 ≤ n) (l b0 b1 b2 n₀ : Nat) (h0n : b0 < n₀) (h1n : b1 < n₀) (h2n : b2 < n₀) (h01 : b0 ≠ b1) (h12 : b2 ≠ b1) (s0 : ByteArray) (hs : s0.size ≤ 140737488355328) (f : Nat) (hf : s0.size ≤ f)
    (J Jx : List ByteArray → World → Prop) (hJ : ∀ pre W1 W2, J pre W1 → Fr (· = b1) W1 W2 → J pre W2)
    (hY : ∀ pre x W1, J pre W1 → (∃ r, pre ++ x :: r = partsF f s0) → YieldAt Fence.wide (n - 1) Tryd.prog l #[.string x] W1 fun e W' =>
      (e = .returned (.bool true) ∧ J (pre ++ [x]) W' ∧ Below n₀ W1 W') ∨ (e = .returned (.bool false) ∧ Jx (pre ++ [x]) W'))
    (W : World) (hc0 : W.cell? ⟨b0, 0, none⟩ = some (.string ⟨#[47]⟩)) (hc1 : W.cell? ⟨b1, 0, none⟩ = some (.string s0)) (hc2 : W.cell? ⟨b2, 0, none⟩ = some (.int .i64 0)) (hfz : W.frozen? ⟨b1, 0, none⟩ = false) (hJ0 : J [] W) :
    CallsIn Fence.wide n Tryd.prog 136 #[.func (.yield l) #[] #[], .pointer (some ⟨b0, 0, none⟩), .pointer (some ⟨b1, 0, none⟩), .pointer (some ⟨b2, 0, none⟩)] W fun e W' => (∃ v, e = .returned v) ∧ (J (partsF f s0) W' ∨ ∃ pre, Jx pre W') := by
  refine callsIn_of_wp Tryd.func136 rfl trivial ?_ rfl
  simp only [Tryd.ntmps136, List.size_toArray, List.length_cons, List.length_nil, Nat.reduceAdd, Nat.reduceSub, Array.replicate_succ, Array.replicate_zero, List.push_toArray, List.append_toArray, List.nil_append, List.cons_append]
  gi_wp2
  gi_loopw [] (fun wr => ∃ (pre : List ByteArray) (s : ByteArray) (g : Nat), wr.cell? ⟨b1, 0, none⟩ = some (.string s) ∧ s.size ≤ g ∧ s.size ≤ 140737488355328 ∧ pre ++ partsF g s = partsF f s0 ∧ J pre wr ∧ wr.cell? ⟨b0, 0, none⟩ = some (.string ⟨#[47]⟩) ∧ wr.cell? ⟨b2, 0, none⟩ = some (.int .i64 0) ∧ wr.frozen? ⟨b1, 0, none⟩ = false)
    (fun wr => match wr.cell? ⟨b1, 0, none⟩ with | some (.string s) => s.size | _ => 0)
  case atStart => exact ⟨[], s0, f, hc1, hf, hs, rfl, hJ0, hc0, hc2, hfz⟩
  case round =>
    obtain ⟨pre, s, g, k1, k2, k3, k4, k5, k6, k7, k8⟩ := hrel
    rcases fnd_cases s 47 with ⟨hi, hno⟩ | ⟨i, hi, hlt, hb, hno⟩
    · rw [partsF_no hi] at k4
      obtain ⟨fn, tmps, assign, body, hy, hR⟩ := hY pre s wr k5 ⟨[], k4⟩
      gi_wp2_with (refine ⟨trivial, ?_⟩; gi_at_call 133; refine (callsIn_wide.2 (index47 s _)).mono ?_; rw [hi]; rintro e w' ⟨rfl, rfl⟩)
      refine hR.mono ?_
      rintro e W3 (⟨rfl, hJ3, hk3⟩ | ⟨rfl, hJx3⟩)
      · gi_wp2
        go_end0
        exact ⟨⟨_, rfl⟩, .inl (by rw [← k4]; exact hJ3)⟩
      · gi_wp2
        go_end0
        exact ⟨⟨_, rfl⟩, .inr ⟨_, hJx3⟩⟩
    · obtain ⟨g, rfl⟩ : ∃ g', g = g' + 1 := ⟨g - 1, by omega⟩
      rw [partsF_yes hi] at k4
      obtain ⟨fn, tmps, assign, body, hy, hR⟩ := hY pre (s.extract 0 i) wr k5 ⟨_, k4⟩
      have e1 : IntKind.i64.wrap ((i : Int) + 0) = (i : Int) := by rw [wrap_i64 (by omega) (by omega)]; omega
      have e2 : IntKind.i64.wrap ((i : Int) + 1) = ((i + 1 : Nat) : Int) := by rw [wrap_i64 (by omega) (by omega)]; omega
      gi_wp2_with (refine ⟨trivial, ?_⟩; gi_at_call 133; refine (callsIn_wide.2 (index47 s _)).mono ?_; rw [hi]; rintro e w' ⟨rfl, rfl⟩)
      refine hR.mono ?_
      rintro e W3 (⟨rfl, hJ3, hk3⟩ | ⟨rfl, hJx3⟩)
      · have m0 : W3.cell? ⟨b0, 0, none⟩ = some (.string ⟨#[47]⟩) := (hk3.cell (p := ⟨b0, 0, none⟩) h0n).trans k6
        have m1 : W3.cell? ⟨b1, 0, none⟩ = some (.string s) := (hk3.cell (p := ⟨b1, 0, none⟩) h1n).trans k1
        have m2 : W3.cell? ⟨b2, 0, none⟩ = some (.int .i64 0) := (hk3.cell (p := ⟨b2, 0, none⟩) h2n).trans k7
        have m3 : W3.frozen? ⟨b1, 0, none⟩ = false := (hk3.frozen (p := ⟨b1, 0, none⟩) h1n).trans k8
        gi_wp2
        have hfr : Fr (· = b1) W3 (W3.setCell ⟨b1, 0, none⟩ (.string (s.extract (i + 1) s.size))) := .set _ _ _ rfl
        have c1 : (W3.setCell ⟨b1, 0, none⟩ (.string (s.extract (i + 1) s.size))).cell? ⟨b1, 0, none⟩ = some (.string (s.extract (i + 1) s.size)) := World.cell?_setCell_same' _ _ _ (by rw [m1]; rfl)
        have hsz : (s.extract (i + 1) s.size).size = s.size - (i + 1) := by simp
        refine ⟨⟨pre ++ [s.extract 0 i], s.extract (i + 1) s.size, g, c1, by omega, by omega, by rw [List.append_assoc]; exact k4, hJ _ _ _ hJ3 hfr, hfr.cell m0 h01, hfr.cell m2 h12, by rw [World.frozen?_setCell]; exact m3⟩, ?_⟩
        rw [c1, k1]
        simp only
        omega
      · gi_wp2
        refine bodyPost_ret (results_none rfl _ _ _) rfl ?_
        exact ⟨⟨_, rfl⟩, .inr ⟨_, hJx3⟩⟩
end Go.Proofs.YtfoeooddnmppnaaDoor
namespace Go.Proofs.YtfoeooddnmppnaaDoor
open Go Vc Go.Proofs Go.RowKit Go.Shelf

/-- How a round's body ends. -/
def RoundEnd (I Ix : List ByteArray → World → Prop) (B : Nat) (xs : List ByteArray) (W : World) : Exit → Act → World → Prop
  | .normal, _, W' => Fr (fun _ => False) W W' ∧ I xs W'
  | .ret, _, W' => Fr (fun k => k < B) W W' ∧ Ix xs W'
  | _, _, _ => False
theorem range_split {g : Operand} {p : Tmp} {assign body : Code} {Q : Exit → Act → World → Prop} {a : Act} {w : World} {B b0 b1 b2 : Nat} (hB0 : B ≤ b0) (hB1 : B ≤ b1) (hB2 : B ≤ b2) (h01 : b0 ≠ b1) (h12 : b2 ≠ b1)
    (hg : a.eval g = .func (.func 136) #[] #[.pointer (some ⟨b0, 0, none⟩), .pointer (some ⟨b1, 0, none⟩), .pointer (some ⟨b2, 0, none⟩)])
    (s0 : ByteArray) (hs : s0.size ≤ 140737488355328) (hc0 : w.cell? ⟨b0, 0, none⟩ = some (.string ⟨#[47]⟩)) (hc1 : w.cell? ⟨b1, 0, none⟩ = some (.string s0)) (hc2 : w.cell? ⟨b2, 0, none⟩ = some (.int .i64 0)) (hfz : w.frozen? ⟨b1, 0, none⟩ = false)
    (I Ix : List ByteArray → World → Prop) (hI : ∀ pre W W', I pre W → Fr (fun k => B ≤ k) W W' → I pre W') (hIx : ∀ pre W W', Ix pre W → Fr (fun k => B ≤ k) W W' → Ix pre W') (h0 : I [] w) (a₁ : ByteArray → Act)
    (hassign : ∀ (l : Nat) (x : ByteArray) (W : World) (K : Act → World → Prop), K (a₁ x) W →
      assign.wpIn (Fence.wide.inRound l) 1 Tryd.prog (Exit.then K (fun _ _ _ => False)) { tmps := ((#[p] : Array Tmp).zip #[Value.string x]).foldl (fun t (p, v) => t.setIfInBounds p v) a.tmps, defers := [] } W)
    (hbody : ∀ (l : Nat) (pre : List ByteArray) (x : ByteArray) (W : World), I pre W → (∃ r, pre ++ x :: r = partsF s0.size s0) → body.wpIn (Fence.wide.inRound l) 1 Tryd.prog (RoundEnd I Ix B (pre ++ [x]) W) (a₁ x) W)
    (hdone : ∀ (D : Nat) (W : World), w.heap.size ≤ D → I (partsF s0.size s0) W → W.heap[D]? = some (.deferred (some [])) → Q .normal { a with defers := { target := .collected D, args := #[] } :: a.defers } W)
    (hstop : ∀ (D : Nat) (pre : List ByteArray) (W : World), w.heap.size ≤ D → Ix pre W → W.heap[D]? = some (.deferred (some [])) → Q .ret { a with defers := { target := .collected D, args := #[] } :: a.defers } W) :
    (Code.rangeFunc g #[p] assign body).wpIn Fence.wide 3 Tryd.prog Q a w := by
  have hl0 := World.block_lt_of_cell? w _ hc0
  have hl1 := World.block_lt_of_cell? w _ hc1
  have hl2 := World.block_lt_of_cell? w _ hc2
  simp only at hl0 hl1 hl2
  have put : ∀ {W : World} {k : Nat} {o : Obj}, Fr (· = k) W (W.putObj k o) := fun {W k o} => (Fr.grown (grownBy_putObj' W k o)).mono fun q _ h => by cases h; rfl
  have hup : ∀ {q : Nat}, q = w.heap.size + 1 → B ≤ q := fun h => by omega
  have hge : ∀ {q : Nat}, q = w.heap.size + 1 → w.heap.size ≤ q := fun h => by omega
  refine wpIn_rangeFunc ?_
  intro fn hfn
  obtain ⟨rec, hrec⟩ : ∃ rec : LoopState → Option Code → Loop, rec = fun st pe => { state := st, pending := pe, fn, tmps := a.tmps, params := #[p], assign, body, defers := w.heap.size } := ⟨_, rfl⟩
  obtain ⟨W1, hW1⟩ : ∃ W1, (w.alloc (.deferred (some []))).alloc (.loop (rec .ready none)) = W1 := ⟨_, rfl⟩
  have hL1 : W1.heap[w.heap.size + 1]? = some (.loop (rec .ready none)) := by
    rw [← hW1]; have := World.alloc_heap_new (w.alloc (.deferred (some []))) (.loop (rec .ready none)); rwa [World.size_alloc] at this
  have hK1 : W1.heap[w.heap.size]? = some (.deferred (some [])) := by
    rw [← hW1]; exact (Below.heap_alloc _ _ _ (by simp)).trans (World.alloc_heap_new w _)
  have hf1 : Fr (fun _ => False) w W1 := by rw [← hW1]; exact (Fr.alloc _ _ _).trans' (.alloc _ _ _)
  refine ⟨w.heap.size + 1, [{ target := .collected w.heap.size, args := #[] }], W1, { target := .fn (.func 136) #[.pointer (some ⟨b0, 0, none⟩), .pointer (some ⟨b1, 0, none⟩), .pointer (some ⟨b2, 0, none⟩)], args := #[.func (.yield (w.heap.size + 1)) #[] #[]] }, W1, 136,
    #[.func (.yield (w.heap.size + 1)) #[] #[], .pointer (some ⟨b0, 0, none⟩), .pointer (some ⟨b1, 0, none⟩), .pointer (some ⟨b2, 0, none⟩)], W1, ?_, ?_, ?_, ?_, fun h => (by cases h), ?_⟩
  · rw [← hW1, hrec]; exact run_enterLoop_outer _ _ _ _ _
  · simp only [resolve, hg]
    simp [go_sem]
  · exact fun f' _ => trivial
  · have eg := enters_of (P := Tryd.prog) Tryd.func136 (by kernel_rfl) rfl
    first | (simp [invoke, go_sem]; done) | simp [invoke, go_sem, eg]
  · -- the rounds
    have hidx : ∀ {W W' : World} {X : Nat → Prop}, Fr X W W' → (∀ k, X k → k = b1) → (W.heap[w.heap.size + 1]? = some (.loop (rec .ready none)) ∧ W.heap[w.heap.size]? = some (.deferred (some []))) →
        (W'.heap[w.heap.size + 1]? = some (.loop (rec .ready none)) ∧ W'.heap[w.heap.size]? = some (.deferred (some []))) := fun hf hx h => ⟨hf.keep h.1 fun e => by have := hx _ e; omega, hf.keep h.2 fun e => by have := hx _ e; omega⟩
    refine (splitSeq_rounds 2 (by decide) (w.heap.size + 1) b0 b1 b2 w.heap.size hl0 hl1 hl2 h01 h12 s0 hs s0.size (Nat.le_refl _)
      (fun pre W => I pre W ∧ W.heap[w.heap.size + 1]? = some (.loop (rec .ready none)) ∧ W.heap[w.heap.size]? = some (.deferred (some [])))
      (fun pre W => Ix pre W ∧ W.heap[w.heap.size + 1]? = some (.loop (rec .done (some .ret))) ∧ W.heap[w.heap.size]? = some (.deferred (some [])))
      (fun pre W W' h hf => ⟨hI _ _ _ h.1 (hf.mono fun k _ e => by rw [e]; exact hB1), hidx hf (fun k e => e) h.2⟩)
      ?_ W1 (hf1.cell hc0 (by simp)) (hf1.cell hc1 (by simp)) (hf1.cell hc2 (by simp)) ?_ ⟨hI _ _ _ h0 (hf1.mono fun _ _ h => h.elim), hL1, hK1⟩).mono ?_
    · -- one round
      rintro pre x W ⟨hi, hl, hk⟩ hr
      have hlt : w.heap.size + 1 < W.heap.size := (Array.getElem?_eq_some_iff.1 hl).1
      have hy := run_yield (P := Tryd.prog) (args := #[.string x]) hl (by rw [hrec]; rfl)
      rw [hrec] at hy
      refine ⟨fn, _, assign, body, hy, roundIn_of_wpIn hfn ?_⟩
      refine hassign _ x W _ ⟨_, run_beginRound hl (by rw [hrec]), ?_⟩
      obtain ⟨W2, hW2⟩ : ∃ W2, W.putObj (w.heap.size + 1) (.loop { rec .ready none with state := .busy }) = W2 := ⟨_, rfl⟩
      rw [hW2]
      have hp2 : Fr (· = w.heap.size + 1) W W2 := by rw [← hW2]; exact put
      have hl2 : W2.heap[w.heap.size + 1]? = some (.loop { rec .ready none with state := .busy }) := by rw [← hW2]; exact World.putObj_heap_same hlt
      have hk2 : W2.heap[w.heap.size]? = some (.deferred (some [])) := hp2.keep hk (by omega)
      refine wpIn_mono (hbody _ pre x W2 (hI _ _ _ hi (hp2.mono fun k _ h => hup h)) hr) ?_
      have fin : ∀ (jump : Option Code) (W3 : World), W3.heap[w.heap.size + 1]? = some (.loop { rec .ready none with state := .busy }) → W3.heap[w.heap.size]? = some (.deferred (some [])) →
          (Instr.endRound (w.heap.size + 1) jump).run Tryd.prog W3 = .ok (.bool jump.isNone) (W3.putObj (w.heap.size + 1) (.loop (rec (if jump.isNone then .ready else .done) jump))) ∧
          (W3.putObj (w.heap.size + 1) (.loop (rec (if jump.isNone then .ready else .done) jump))).heap[w.heap.size + 1]? = some (.loop (rec (if jump.isNone then .ready else .done) jump)) ∧
          (W3.putObj (w.heap.size + 1) (.loop (rec (if jump.isNone then .ready else .done) jump))).heap[w.heap.size]? = some (.deferred (some [])) := fun jump W3 hl3 hk3 => by
        have := run_endRound (P := Tryd.prog) jump hl3
        refine ⟨?_, World.putObj_heap_same (Array.getElem?_eq_some_iff.1 hl3).1, (World.putObj_heap_other (by omega)).trans hk3⟩
        rw [hrec] at this ⊢
        exact this
      rintro e a3 W3 hp
      cases e with
      | normal =>
        obtain ⟨hf3, hi3⟩ := hp
        obtain ⟨hr3, hl4, hk4⟩ := fin none W3 (hf3.keep hl2 (by simp)) (hf3.keep hk2 (by simp))
        refine ⟨_, _, hr3, .inl ⟨rfl, ⟨hI _ _ _ hi3 (put.mono fun k _ h => hup h), hl4, hk4⟩, ?_⟩⟩
        exact Fr.below (((hp2.trans hf3 fun q _ h => h.elim).trans' put).mono fun k _ h => hge h) (by omega)
      | ret =>
        obtain ⟨hf3, hi3⟩ := hp
        obtain ⟨hr3, hl4, hk4⟩ := fin (some .ret) W3 (hf3.keep hl2 (fun h => Nat.not_lt.2 (Nat.le_of_lt (Nat.lt_of_le_of_lt hB0 (Nat.lt_succ_of_lt hl0))) h)) (hf3.keep hk2 (fun h => Nat.not_lt.2 (Nat.le_of_lt (Nat.lt_of_le_of_lt hB0 hl0)) h))
        exact ⟨_, _, hr3, .inr ⟨rfl, hIx _ _ _ hi3 (put.mono fun k _ h => hup h), hl4, hk4⟩⟩
      | exit id => exact hp.elim
      | goto t => exact hp.elim
      | panic ch => exact hp.elim
      | outgrown => exact hp.elim
    · rw [← hW1]
      exact (World.frozen?_of_block (by rw [hW1]; exact hf1.blk b1 hl1 (by simp))).trans hfz
    · -- behind the iterator
      rintro e W2 ⟨⟨v, rfl⟩, (⟨hi, hl, hk⟩ | ⟨pre, hi, hl, hk⟩)⟩
      · refine ⟨none, _, by have := run_endLoop (P := Tryd.prog) hl (by rw [hrec]; simp); rw [hrec] at this; exact this, hdone _ _ (Nat.le_refl _) (hI _ _ _ hi (put.mono fun k _ h => hup h)) ((World.putObj_heap_other (by omega)).trans hk)⟩
      · refine ⟨some .ret, _, by have := run_endLoop (P := Tryd.prog) hl (by rw [hrec]; simp); rw [hrec] at this; exact this, ?_⟩
        exact wpIn_ret (hstop w.heap.size pre _ (Nat.le_refl _) (hIx _ _ _ hi (put.mono fun k _ h => hup h)) ((World.putObj_heap_other (by omega)).trans hk))
end Go.Proofs.YtfoeooddnmppnaaDoor
namespace Go.Proofs.YtfoeooddnmppnaaDoor
open Go Vc Go.Proofs Go.RowKit Go.Shelf

/-- Every byte is a letter that is printed. -/
def printB (s : ByteArray) : Bool := decide (∀ k, k < s.size → 32 ≤ byt s k ∧ byt s k ≤ 126)
theorem clean1_spec (c : Int) (w : World) : Calls Tryd.prog F_snap_Clean_1 #[.int .i32 c] w fun e w' => e = .returned (.bool (decide (c < 32) || decide (c > 126))) ∧ w' = w := by
  refine vc_snap_Clean_1_ok (R := fun v w' => v = .bool (decide (c < 32) || decide (c > 126)) ∧ w' = w) ?_ (fun v w' h => ⟨by rw [h.1], h.2⟩)
  exact ⟨fun h => ⟨by rw [h]; rfl, rfl⟩, fun h => ⟨by rw [h]; rfl, rfl⟩⟩
theorem indexFunc_spec (s : ByteArray) (w : World) : Calls Tryd.prog F_strings_indexFunc #[.string s, .func (.func F_snap_Clean_1) #[] #[], .bool true] w fun e w' =>
    ∃ n : Int, e = .returned (.int .i64 n) ∧ decide (n ≥ 0) = !printB s ∧ Fr (fun _ => False) w w' := by
  refine vc_strings_indexFunc_clean_ok (R := fun v w' => ∃ n : Int, v = .int .i64 n ∧ decide (n ≥ 0) = !printB s ∧ Fr (fun _ => False) w w') ?_ (fun v w' ⟨n, h⟩ => ⟨n, by rw [h.1], h.2⟩)
  obtain ⟨w7, hr7, hi7, hf7⟩ := iter_new (P := Tryd.prog) (w := w) (t := 9) (s := s) (by kernel_rfl)
  refine ⟨w7, _, hr7, fun w' => ∃ p, IsIter w' w.heap.size s p ∧ p ≤ s.size ∧ Fr (fun _ => False) w w' ∧ ∀ k, k < p → 32 ≤ byt s k ∧ byt s k ≤ 126, itLeft w.heap.size, ⟨0, hi7, Nat.zero_le _, hf7, fun k hk => by omega⟩, ?_⟩
  rintro w11 ⟨p, hi, hp, hf, hn⟩
  by_cases hps : p < s.size
  · refine .inr ?_
    obtain ⟨w13, hr13, hi13, hf13⟩ := iter_next (P := Tryd.prog) hi hps 0
    have hfn : Fr (fun _ => False) w w13 := hf.trans hf13 fun k hk e => by omega
    refine ⟨w13, _, _, hr13, fun _ => (clean1_spec _ w13).mono ?_, fun h => (by cases h)⟩
    rintro e w15 ⟨rfl, hw⟩
    replace hw := hw.symm
    subst hw
    have bad : ∀ {k : Nat}, k < s.size → ¬ (32 ≤ byt s k ∧ byt s k ≤ 126) → printB s = false := fun hk h => by
      unfold printB
      exact decide_eq_false fun hall => h (hall _ hk)
    refine ⟨_, rfl, fun h => ⟨p, rfl, ?_, hfn⟩, fun h => ?_⟩
    · have hb : printB s = false := by
        refine bad hps fun hh => ?_
        rw [dec_low hps (by omega)] at h
        simp only [beq_iff_eq, Bool.or_eq_true, decide_eq_true_eq] at h
        omega
      rw [hb]
      exact decide_eq_true (by omega)
    · by_cases hb : byt s p < 128
      · rw [dec_low hps hb] at h hi13
        simp only [beq_eq_false_iff_ne, ne_eq, Bool.not_eq_true, Bool.or_eq_false_iff, decide_eq_false_iff_not] at h
        refine ⟨⟨p + 1, hi13, by omega, hfn, fun k hk => ?_⟩, by rw [hi13.left, hi.left]; omega⟩
        by_cases hkp : k = p
        · subst hkp; omega
        · exact hn k (by omega)
      · obtain ⟨d1, d2, d3, d4, d5⟩ := dec_high hps (by omega)
        exfalso
        have : decide (((Utf8.decode s p).1 : Int) > 126) = true := decide_eq_true (by omega)
        rw [this] at h
        simp at h
  · refine .inl ⟨w11, iter_end hi (by omega) 0, fun h => (by cases h), fun _ => ⟨-1, rfl, ?_, hf⟩⟩
    have : printB s = true := decide_eq_true fun k hk => hn k (by omega)
    rw [this]; rfl
theorem containsFunc_spec (s : ByteArray) (w : World) : Calls Tryd.prog F_strings_ContainsFunc #[.string s, .func (.func F_snap_Clean_1) #[] #[]] w fun e w' =>
    e = .returned (.bool (!printB s)) ∧ Fr (fun _ => False) w w' := by
  refine vc_strings_ContainsFunc_clean_ok (R := fun v w' => v = .bool (!printB s) ∧ Fr (fun _ => False) w w') ?_ (fun v w' h => ⟨by rw [h.1], h.2⟩)
  refine Calls.mono (R := fun e w' => ∃ n : Int, e = .returned (.int .i64 n) ∧ decide (n ≥ 0) = !printB s ∧ Fr (fun _ => False) w w') (vc_strings_IndexFunc_clean_ok (R := fun v w' => ∃ n : Int, v = .int .i64 n ∧ decide (n ≥ 0) = !printB s ∧ Fr (fun _ => False) w w') ?_ (fun v w' ⟨n, h⟩ => ⟨n, by rw [h.1], h.2⟩)) ?_
  · refine (indexFunc_spec s w).mono ?_
    rintro e w2 ⟨n, rfl, h⟩
    exact ⟨n, rfl, n, rfl, h⟩
  · rintro e w2 ⟨n, rfl, h, hf⟩
    exact ⟨n, rfl, by rw [h], hf⟩
/-- What SplitSeq hands back, and what it lays. -/
theorem splitSeq_spec (s : ByteArray) (w : World) : Calls Tryd.prog 90 #[.string s, .string ⟨#[47]⟩] w fun e w' =>
    e = .returned (.func (.func 136) #[] #[.pointer (some ⟨w.heap.size + 1, 0, none⟩), .pointer (some ⟨w.heap.size, 0, none⟩), .pointer (some ⟨w.heap.size + 2, 0, none⟩)]) ∧
    w' = ((w.alloc (.cells #[.string s] 9)).alloc (.cells #[.string ⟨#[47]⟩] 9)).alloc (.cells #[.int .i64 0] 3) := by
  have inner : Calls Tryd.prog 121 #[.string s, .string ⟨#[47]⟩, .int .i64 0] w fun e w' =>
    e = .returned (.func (.func 136) #[] #[.pointer (some ⟨w.heap.size + 1, 0, none⟩), .pointer (some ⟨w.heap.size, 0, none⟩), .pointer (some ⟨w.heap.size + 2, 0, none⟩)]) ∧
    w' = ((w.alloc (.cells #[.string s] 9)).alloc (.cells #[.string ⟨#[47]⟩] 9)).alloc (.cells #[.int .i64 0] 3) := by
    go_enter Tryd.func121, Tryd.ntmps121
    go_wp2
    go_ret
    exact ⟨by simp, rfl⟩
  go_enter Tryd.func90, Tryd.ntmps90
  go_wp2_with (refine inner.mono ?_; rintro e w' ⟨rfl, rfl⟩)
  go_ret
  exact ⟨rfl, rfl⟩
end Go.Proofs.YtfoeooddnmppnaaDoor
namespace Go.Proofs.YtfoeooddnmppnaaDoor
open Go Vc Go.Proofs Go.RowKit Go.Shelf
attribute [local go_sem] Oper.semAt_some

theorem toList_nil : (⟨#[]⟩ : ByteArray).toList = [] := by rw [ByteArray.toList_eq]
theorem toList_dot : (⟨#[46]⟩ : ByteArray).toList = [46] := by rw [ByteArray.toList_eq]
theorem toList_dots : (⟨#[46, 46]⟩ : ByteArray).toList = [46, 46] := by rw [ByteArray.toList_eq]
def partOK (p : ByteArray) : Bool := decide (p ≠ ⟨#[]⟩) && decide (p ≠ ⟨#[46]⟩) && decide (p ≠ ⟨#[46, 46]⟩)
def cleanB (s : ByteArray) : Bool := decide (s.size ≤ 200) && (partsF s.size s).all partOK && printB s
set_option maxRecDepth 100000 in
set_option maxHeartbeats 2000000 in
theorem clean_spec (s : ByteArray) (hs : s.size ≤ 140737488355328) (w : World) : Calls Tryd.prog 37 #[.string s] w fun e w' => e = .returned (.bool (cleanB s)) ∧ Fr (fun _ => False) w w' := by
  refine (callsIn_wide (n := 3)).1 ?_
  refine callsIn_of_wp_marks Tryd.func37 rfl trivial ?_ rfl
  simp only [Tryd.ntmps37, List.size_toArray, List.length_cons, List.length_nil, Nat.reduceAdd, Nat.reduceSub, Array.replicate_succ, Array.replicate_zero, List.push_toArray, List.append_toArray, List.nil_append, List.cons_append]
  have hcell0 : (w.alloc (.cells #[.bool false] 4)).cell? ⟨w.heap.size, 0, none⟩ = some (.bool false) := by rw [cell_blk (alloc_new w _)]; rfl
  by_cases hlen : s.size > 200
  · gi_wp2
    refine ⟨.bool false, ?_, ?_, .alloc _ _ _⟩
    · simp [results, Tryd.f37, go_sem, hcell0]
    · unfold cleanB
      rw [decide_eq_false (by omega)]; rfl
  · gi_wp2_with (refine ⟨trivial, ?_⟩; gi_at_call 90; refine (callsIn_wide.2 (splitSeq_spec s _)).mono ?_; rintro e w' ⟨rfl, rfl⟩)
    obtain ⟨w0, hw0⟩ : ∃ w0, w.alloc (.cells #[.bool false] 4) = w0 := ⟨_, rfl⟩
    have hsz : w0.heap.size = w.heap.size + 1 := by rw [← hw0]; simp
    have hb0 : w0.heap[w.heap.size]? = some (.cells #[.bool false] 4 (0, 0)) := by rw [← hw0]; exact alloc_new _ _
    have hf0 : Fr (fun _ => False) w w0 := by rw [← hw0]; exact .alloc _ _ _
    rw [hw0]
    obtain ⟨w1, hw1⟩ : ∃ w1, ((w0.alloc (.cells #[.string s] 9)).alloc (.cells #[.string ⟨#[47]⟩] 9)).alloc (.cells #[.int .i64 0] 3) = w1 := ⟨_, rfl⟩
    have hf1 : Fr (fun _ => False) w0 w1 := by rw [← hw1]; exact ((Fr.alloc _ _ _).trans' (.alloc _ _ _)).trans' (.alloc _ _ _)
    have n1 : (w0.alloc (.cells #[.string s] 9)).heap.size = w.heap.size + 1 + 1 := by simp [hsz]
    have n2 : ((w0.alloc (.cells #[.string s] 9)).alloc (.cells #[.string ⟨#[47]⟩] 9)).heap.size = w.heap.size + 1 + 2 := by simp [hsz]
    have hbs : w1.heap[w.heap.size + 1]? = some (.cells #[.string s] 9 (0, 0)) := by
      rw [← hw1, ← hsz]
      exact (Fr.alloc (fun _ => False) _ _).keep ((Fr.alloc (fun _ => False) _ _).keep (alloc_new w0 _) (by simp)) (by simp)
    have hbp : w1.heap[w.heap.size + 1 + 1]? = some (.cells #[.string ⟨#[47]⟩] 9 (0, 0)) := by
      rw [← hw1, ← n1]
      exact (Fr.alloc (fun _ => False) _ _).keep (alloc_new _ _) (by simp)
    have hbz : w1.heap[w.heap.size + 1 + 2]? = some (.cells #[.int .i64 0] 3 (0, 0)) := by
      rw [← hw1, ← n2]
      exact alloc_new _ _
    rw [hw1]
    clear hw1 n1 n2 hw0
    refine range_split (B := w.heap.size + 1) (b0 := w.heap.size + 1 + 1) (b1 := w.heap.size + 1) (b2 := w.heap.size + 1 + 2) (by omega) (by omega) (by omega) (by omega) (by omega) rfl s hs
      (by rw [cell_blk hbp]; rfl) (by rw [cell_blk hbs]; rfl) (by rw [cell_blk hbz]; rfl) (frozen_blk hbs 0)
      (fun pre W => (∀ p ∈ pre, partOK p = true) ∧ W.heap[w.heap.size]? = some (.cells #[.bool false] 4 (0, 0)) ∧ Fr (fun _ => False) w W)
      (fun pre W => (∃ p ∈ partsF s.size s, partOK p = false) ∧ W.cell? ⟨w.heap.size, 0, none⟩ = some (.bool false) ∧ Fr (fun _ => False) w W)
      (fun pre W W' ⟨h1, h2, h3⟩ hf => ⟨h1, hf.keep h2 (by omega), h3.trans hf fun q hq h => by omega⟩)
      (fun pre W W' ⟨h1, h2, h3⟩ hf => ⟨h1, hf.cell h2 (by simp only; omega), h3.trans hf fun q hq h => by omega⟩)
      ⟨by simp, hf1.keep hb0 (by simp), hf0.trans' hf1⟩
      (fun x => { tmps := #[.string s, undef, .pointer (some ⟨w.heap.size, 0, none⟩), .string x, .string s, .int .i64 s.size, .bool (decide (200 < (s.size : Int))), .string s, .func (.func 136) #[] #[.pointer (some ⟨w.heap.size + 1 + 1, 0, none⟩), .pointer (some ⟨w.heap.size + 1, 0, none⟩), .pointer (some ⟨w.heap.size + 1 + 2, 0, none⟩)], .string x, undef, undef, undef, undef, undef, undef, undef, undef, undef, undef, undef, undef, undef], defers := [] }) ?assign ?body ?done ?stop
    case assign =>
      intro l x W K hK
      gi_wp2
      exact hK
    case body =>
      rintro l pre x W ⟨hp, hcell, hf⟩ hr
      have hcc : W.cell? ⟨w.heap.size, 0, none⟩ = some (.bool false) := by rw [cell_blk hcell]; rfl
      have hcz : W.frozen? ⟨w.heap.size, 0, none⟩ = false := frozen_blk hcell 0
      have k1 : x.toList.isEmpty = decide (x = ⟨#[]⟩) := by
        rw [← bs_eq, toList_nil]
        cases x.toList <;> rfl
      have k2 : (x.toList == [46]) = decide (x = ⟨#[46]⟩) := by rw [← bs_eq, toList_dot]
      have k3 : (x.toList == [46, 46]) = decide (x = ⟨#[46, 46]⟩) := by rw [← bs_eq, toList_dots]
      have ret : partOK x = false → Fr (fun k => k < w.heap.size + 1) W (W.setCell ⟨w.heap.size, 0, none⟩ (.bool false)) ∧ (∃ p ∈ partsF s.size s, partOK p = false) ∧ (W.setCell ⟨w.heap.size, 0, none⟩ (.bool false)).cell? ⟨w.heap.size, 0, none⟩ = some (.bool false) ∧ Fr (fun _ => False) w (W.setCell ⟨w.heap.size, 0, none⟩ (.bool false)) := fun hx =>
        ⟨Fr.set _ _ _ (Nat.lt_succ_self _), ⟨x, by obtain ⟨r, hr⟩ := hr; rw [← hr]; simp, hx⟩, World.cell?_setCell_same' _ _ _ (by rw [hcc]; rfl), hf.trans (Fr.set (· = w.heap.size) _ _ rfl) fun q hq e => by omega⟩
      gi_wp2
      · rename_i hx
        exact ret (by unfold partOK; rw [hx]; rfl)
      · rename_i hx
        exact ret (by unfold partOK; rw [hx]; rfl)
      · rename_i hx
        exact ret (by unfold partOK; rw [hx]; rfl)
      · have h1 : ¬ x = ⟨#[]⟩ := by assumption
        have h2 : ¬ x = ⟨#[46]⟩ := by assumption
        have h3 : ¬ x = ⟨#[46, 46]⟩ := by assumption
        refine ⟨.refl _ _, fun p hpm => ?_, hcell, hf⟩
        rcases List.mem_append.1 hpm with hpm | hpm
        · exact hp p hpm
        · simp only [List.mem_cons, List.mem_nil_iff, or_false] at hpm
          subst hpm
          unfold partOK
          simp [h1, h2, h3]
    case done =>
      rintro D W hD ⟨hall, hcell, hf⟩ hK
      have hcc : W.cell? ⟨w.heap.size, 0, none⟩ = some (.bool false) := by rw [cell_blk hcell]; rfl
      have hcz : W.frozen? ⟨w.heap.size, 0, none⟩ = false := frozen_blk hcell 0
      gi_wp2_with (refine ⟨trivial, ?_⟩; gi_at_call 91; refine (callsIn_wide.2 (containsFunc_spec s _)).mono ?_; rintro e w' ⟨rfl, hf'⟩; have hcc' := hf'.cell hcc (by simp); have hcz' := frozen_blk (hf'.keep hcell (by simp)) 0)
      have hne : D ≠ w.heap.size := by have := hf1.size; omega
      have hst : Fr (· = w.heap.size) w' (w'.setCell ⟨w.heap.size, 0, none⟩ (.bool (printB s))) := .set _ _ _ rfl
      have hK' := hst.keep (hf'.keep hK (by simp)) hne
      refine ⟨by simp, .inl ⟨_, _, rfl, run_takeDeferred hK', ?_⟩⟩
      have hpt : Fr (· = D) (w'.setCell ⟨w.heap.size, 0, none⟩ (.bool (printB s))) ((w'.setCell ⟨w.heap.size, 0, none⟩ (.bool (printB s))).putObj D (.deferred none)) := (Fr.grown (grownBy_putObj' _ D _)).mono fun q _ h => by cases h; rfl
      have hc5 := hpt.cell (World.cell?_setCell_same' w' ⟨w.heap.size, 0, none⟩ (.bool (printB s)) (by rw [hcc']; rfl)) (fun h => hne h.symm)
      refine ⟨.bool (printB s), ?_, ?_, ?_⟩
      · simp [results, Tryd.f37, go_sem, hc5]
      · have : (partsF s.size s).all partOK = true := List.all_eq_true.2 hall
        unfold cleanB
        rw [this, decide_eq_true (by omega)]; rfl
      · have h1 := (hf.trans' hf').size
        have h2 := (hf0.trans' hf1).size
        exact ((hf.trans' hf').trans hst fun q hq e => by omega).trans hpt fun q hq e => by omega
    case stop =>
      rintro D pre W hD ⟨⟨p, hpm, hpb⟩, hcell, hf⟩ hK
      have hne : D ≠ w.heap.size := by have := hf1.size; omega
      gi_wp2
      refine ⟨by simp, .inl ⟨_, _, rfl, run_takeDeferred hK, ?_⟩⟩
      have hpt : Fr (· = D) W (W.putObj D (.deferred none)) := (Fr.grown (grownBy_putObj' _ D _)).mono fun q _ h => by cases h; rfl
      have hc5 := hpt.cell hcell (fun h => hne h.symm)
      refine ⟨.bool false, ?_, ?_, ?_⟩
      · simp [results, Tryd.f37, go_sem, hc5]
      · have : (partsF s.size s).all partOK = false := by
          rw [← Bool.not_eq_true, List.all_eq_true]
          intro h
          rw [h p hpm] at hpb; cases hpb
        unfold cleanB
        rw [this]; simp
      · have h2 := (hf0.trans' hf1).size
        exact hf.trans hpt fun q hq e => by omega
end Go.Proofs.YtfoeooddnmppnaaDoor

/- Formulas of 2 Go functions of this seat (written by a program of the author's, vcgen.py), and that each is enough for the call. No condition. -/
set_option linter.unusedVariables false
namespace Go.Proofs.YtfoeooddnmppnaaDoor
open Go Vc Go.Proofs
set_option maxRecDepth 100000
/-- cartularyref07.Parts -/
def vc_cartularyref07_Parts (x0 : ByteArray) (w : World) (R : Value → World → Prop) : Prop :=
  ∀ w1 : World,
  (w1 = World.alloc w (Obj.cells (Array.mk [Value.string (ByteArray.mk (Array.mk []))]) 9) →
    ∃ I2 : Sl → Int → World → Prop, ∃ I3 : Sl → Int → World → Nat, (I2 (Sl.mk (some (Addr.mk (Array.size (World.heap w)) 0 none)) 1 1) 0 w1 ∧
     ∀ l4 : Sl,
     ∀ n5 : Int,
     ∀ w6 : World,
     (I2 l4 n5 w6 →
       (((decide (n5 < (↑(ByteArray.size x0) : Int)) = true →
          ((0 ≤ n5 ∧
            n5 < (↑(ByteArray.size x0) : Int)) ∧
           ((((byteAt x0 n5 == 47) = true →
              ∀ w7 : World,
              (w7 = World.alloc w6 (Obj.cells (Array.mk [Value.string (ByteArray.mk (Array.mk []))]) 9) →
                ∃ w8 : World, ∃ l9 : Sl, (Sem.run Tryd.prog (Builtin.append_ (Array.mk [55, 55]) 55 (Array.mk [Value.slice l4.1 l4.2 l4.3, Value.slice (some (Addr.mk (Array.size (World.heap w6)) 0 none)) 1 1])) w7 = Result.ok (Value.slice l9.1 l9.2 l9.3) w8 ∧
                 (I2 (Sl.mk l9.1 l9.2 l9.3) (IntKind.wrap IntKind.i64 (n5 + 1)) w8 ∧
                  I3 (Sl.mk l9.1 l9.2 l9.3) (IntKind.wrap IntKind.i64 (n5 + 1)) w8 < I3 l4 n5 w6))))) ∧
            ((byteAt x0 n5 == 47) = false →
              ∀ w10 : World,
              (Drew w6 w10 →
                ((0 ≤ IntKind.wrap IntKind.i64 ((↑l4.2 : Int) - 1) ∧
                  IntKind.wrap IntKind.i64 ((↑l4.2 : Int) - 1) < (↑l4.2 : Int)) ∧
                 ∃ a11 : Addr, (l4.1 = some a11 ∧
                  ∃ s12 : ByteArray, (World.cell? w10 (Addr.add a11 (Int.toNat (IntKind.wrap IntKind.i64 ((↑l4.2 : Int) - 1)) * 1)) = some (Value.string s12) ∧
                   ((0 ≤ n5 ∧
                     (n5 ≤ IntKind.wrap IntKind.i64 (n5 + 1) ∧
                      IntKind.wrap IntKind.i64 (n5 + 1) ≤ (↑(ByteArray.size x0) : Int))) ∧
                    (ByteArray.size s12 + ByteArray.size (ByteArray.extract x0 (Int.toNat n5) (Int.toNat (IntKind.wrap IntKind.i64 (n5 + 1)))) ≤ 9223372036854775807 ∧
                     ((0 ≤ IntKind.wrap IntKind.i64 ((↑l4.2 : Int) - 1) ∧
                       IntKind.wrap IntKind.i64 ((↑l4.2 : Int) - 1) < (↑l4.2 : Int)) ∧
                      ∃ a13 : Addr, (l4.1 = some a13 ∧
                       (Wr w10 (Addr.add a13 (Int.toNat (IntKind.wrap IntKind.i64 ((↑l4.2 : Int) - 1)) * 1)) ∧
                        ∀ w14 : World,
                        (w14 = World.setCell w10 (Addr.add a13 (Int.toNat (IntKind.wrap IntKind.i64 ((↑l4.2 : Int) - 1)) * 1)) (Value.string (s12 ++ ByteArray.extract x0 (Int.toNat n5) (Int.toNat (IntKind.wrap IntKind.i64 (n5 + 1))))) →
                          (I2 (Sl.mk l4.1 l4.2 l4.3) (IntKind.wrap IntKind.i64 (n5 + 1)) w14 ∧
                           I3 (Sl.mk l4.1 l4.2 l4.3) (IntKind.wrap IntKind.i64 (n5 + 1)) w14 < I3 l4 n5 w6)))))))))))))))) ∧
        (decide (n5 < (↑(ByteArray.size x0) : Int)) = false →
          R (Value.slice l4.1 l4.2 l4.3) w6)))))
theorem vc_cartularyref07_Parts_ok {x0 : ByteArray} {w : World} {R : Value → World → Prop} {R' : Ending → World → Prop} (h : vc_cartularyref07_Parts x0 w R) (hR : ∀ v w', R v w' → R' (.returned v) w') :
    Calls Tryd.prog 89 #[.string x0] w R' :=
  calls_of_body (vs := [(.string x0, false)]) (ty := ty) (ann := ⟨[], [(3, [(3, .slice), (4, .int .i64)])], [(7, .tail 13)], []⟩) (c := Tryd.f89.body.getD .skip) (by kernel_rfl) Tryd.func89 (by kernel_rfl) (by kernel_rfl) (Eq.mp (by kernel_rfl) h) hR
/-- cartularyref07.Clean -/
def vc_cartularyref07_Clean (x0 : ByteArray) (w : World) (R : Value → World → Prop) : Prop :=
  (((decide ((↑(ByteArray.size x0) : Int) > 200) = true →
     R (Value.bool false) w)) ∧
   (decide ((↑(ByteArray.size x0) : Int) > 200) = false →
     ∃ I1 : Int → World → Prop, ∃ I2 : Int → World → Nat, (I1 0 w ∧
      ∀ n3 : Int,
      ∀ w4 : World,
      (I1 n3 w4 →
        (((decide (n3 < (↑(ByteArray.size x0) : Int)) = true →
           ((0 ≤ n3 ∧
             n3 < (↑(ByteArray.size x0) : Int)) ∧
            (((decide (byteAt x0 n3 < 32) = true →
               R (Value.bool false) w4)) ∧
             (decide (byteAt x0 n3 < 32) = false →
               ((0 ≤ n3 ∧
                 n3 < (↑(ByteArray.size x0) : Int)) ∧
                (((decide (byteAt x0 n3 > 126) = true →
                   R (Value.bool false) w4)) ∧
                 (decide (byteAt x0 n3 > 126) = false →
                   (I1 (IntKind.wrap IntKind.i64 (n3 + 1)) w4 ∧
                    I2 (IntKind.wrap IntKind.i64 (n3 + 1)) w4 < I2 n3 w4))))))))) ∧
         (decide (n3 < (↑(ByteArray.size x0) : Int)) = false →
           Calls Tryd.prog (89 : Nat) (Array.mk [Value.string x0]) (w4) (fun e5 w6 =>
             ∃ l7 : Sl, (e5 = Ending.returned (Value.slice l7.1 l7.2 l7.3) ∧
              ∃ I8 : Int → World → Prop, ∃ I9 : Int → World → Nat, (I8 0 w6 ∧
               ∀ n10 : Int,
               ∀ w11 : World,
               (I8 n10 w11 →
                 (((decide (n10 < (↑l7.2 : Int)) = true →
                    ((0 ≤ n10 ∧
                      n10 < (↑l7.2 : Int)) ∧
                     ∃ a12 : Addr, (l7.1 = some a12 ∧
                      ∃ s13 : ByteArray, (World.cell? w11 (Addr.add a12 (Int.toNat n10 * 1)) = some (Value.string s13) ∧
                       ((((ByteArray.toList s13 == ByteArray.toList (ByteArray.mk (Array.mk []))) = true →
                          R (Value.bool false) w11)) ∧
                        ((ByteArray.toList s13 == ByteArray.toList (ByteArray.mk (Array.mk []))) = false →
                          ((((ByteArray.toList s13 == ByteArray.toList (ByteArray.mk (Array.mk [46]))) = true →
                             R (Value.bool false) w11)) ∧
                           ((ByteArray.toList s13 == ByteArray.toList (ByteArray.mk (Array.mk [46]))) = false →
                             ((((ByteArray.toList s13 == ByteArray.toList (ByteArray.mk (Array.mk [46, 46]))) = true →
                                R (Value.bool false) w11)) ∧
                              ((ByteArray.toList s13 == ByteArray.toList (ByteArray.mk (Array.mk [46, 46]))) = false →
                                (I8 (IntKind.wrap IntKind.i64 (n10 + 1)) w11 ∧
                                 I9 (IntKind.wrap IntKind.i64 (n10 + 1)) w11 < I9 n10 w11)))))))))))) ∧
                  (decide (n10 < (↑l7.2 : Int)) = false →
                    R (Value.bool true) w11))))))))))))
theorem vc_cartularyref07_Clean_ok {x0 : ByteArray} {w : World} {R : Value → World → Prop} {R' : Ending → World → Prop} (h : vc_cartularyref07_Clean x0 w R) (hR : ∀ v w', R v w' → R' (.returned v) w') :
    Calls Tryd.prog 36 #[.string x0] w R' :=
  calls_of_body (vs := [(.string x0, false)]) (ty := ty) (ann := ⟨[], [(4, [(3, .int .i64)]), (9, [(28, .int .i64)])], [], []⟩) (c := Tryd.f36.body.getD .skip) (by kernel_rfl) Tryd.func36 (by kernel_rfl) (by kernel_rfl) (Eq.mp (by kernel_rfl) h) hR
end Go.Proofs.YtfoeooddnmppnaaDoor

/- Slices of bytes of this seat. No condition. -/
set_option linter.unusedVariables false
namespace Go.Proofs.YtfoeooddnmppnaaDoor
open Go Vc Go.Proofs

theorem elByte : El Tryd.prog T_S_uint8 T_uint8 (.int .u8 0) 1 := ⟨by kernel_rfl, by kernel_rfl, rfl⟩
theorem elByteH : El Tryd.prog T_S_uint8 T_uint8 (.int .u8 0) 1 := elByte
theorem own_empty (w : World) (e : TypeId) : Vc.Own (w.alloc (.cells #[] e)) w.heap.size e ⟨some ⟨w.heap.size, 0, none⟩, 0, 0⟩ [] :=
  ⟨rfl, .inr ⟨w.heap.size, #[], rfl, Nat.le_refl _, alloc_new _ _, Nat.le_refl _, Nat.zero_le _, rfl, rfl⟩⟩
theorem byteV_one (l : List UInt8) : ∀ u ∈ byteV l, u.oneCell' = true := fun u h => by
  obtain ⟨b, _, rfl⟩ := List.mem_map.1 h; rfl
end Go.Proofs.YtfoeooddnmppnaaDoor

/- Digits of bytes in plain; append of what is new. No condition. -/
set_option linter.unusedVariables false
namespace Vc
open Go
theorem append_new {P : Program} {t e : TypeId} {z : Value} {bytes : Nat} {w : World} {base : Nat} {l : Sl} {xs : List Value} (el : El P t e z bytes) (h : Own w base e l xs) {news : List Value} (h1 : ∀ u ∈ news, u.oneCell' = true)
    (hm : xs.length + news.length ≤ maxLen) (hb : (xs.length + news.length) * bytes ≤ 140737488355328) (hbase : base ≤ w.heap.size) {w2 : World} (hw2 : w2 = w.alloc (.cells news.toArray e)) {m : Nat} (hlen : news.length = m) :
    ∃ w' l', (Builtin.append_ #[t, t] t #[.slice l.a l.len l.cap, .slice (some ⟨w.heap.size, 0, none⟩) m m]).run P w2 = .ok (.slice l'.a l'.len l'.cap) w' ∧ Own w' base e l' (xs ++ news) ∧
      Fr (At l) w w' ∧ Since w l l' := by
  subst hw2
  have h2 : Own (w.alloc (.cells news.toArray e)) base e l xs := h.keep (.alloc (fun _ => False) _ _) (by simp)
  obtain ⟨w', l', hr, ho, hf, hs⟩ := append_all' el h2 (src := some ⟨w.heap.size, 0, none⟩) m (news := news) (fun i v hv => ⟨_, rfl, by rw [add_lit, Nat.zero_add, cell_blk (alloc_new w _)]; simpa using hv⟩) h1 hm hb (by simp; omega) hlen
  refine ⟨w', l', hr, ho, (Fr.alloc _ _ _).trans' hf, fun y hy => ?_⟩
  rcases hs y hy with hx | hn
  · exact .inl hx
  · simp only [World.alloc, Array.size_push] at hn
    exact .inr (by omega)
end Vc
namespace HexM
/-- A digit. -/
def hx (n : Nat) : Nat := if n < 10 then 48 + n else 87 + n
theorem hx_lt {n : Nat} (h : n < 16) : hx n < 256 := by unfold hx; split <;> omega
def hexL (l : List UInt8) : List UInt8 := l.flatMap fun c => [UInt8.ofNat (hx (c.toNat / 16)), UInt8.ofNat (hx (c.toNat % 16))]
theorem hexL_snoc (l : List UInt8) (c : UInt8) : hexL (l ++ [c]) = hexL l ++ [UInt8.ofNat (hx (c.toNat / 16)), UInt8.ofNat (hx (c.toNat % 16))] := by simp [hexL]
theorem hexL_length (l : List UInt8) : (hexL l).length = 2 * l.length := by
  induction l with
  | nil => rfl
  | cons c l ih => simp only [hexL, List.flatMap_cons, List.length_append, List.length_cons, List.length_nil] at ih ⊢; omega
/-- A digit's number. -/
def dg (c : Nat) : Option Nat := if 48 ≤ c ∧ c ≤ 57 then some (c - 48) else if 97 ≤ c ∧ c ≤ 102 then some (c - 87) else none
theorem dg_lt {c n : Nat} (h : dg c = some n) : n < 16 := by
  unfold dg at h
  split at h
  · cases h; omega
  · split at h
    · cases h; omega
    · cases h
theorem dg_hx {n : Nat} (h : n < 16) : dg (hx n) = some n := by
  unfold hx dg
  split
  · rw [if_pos (by omega)]; congr 1; omega
  · rw [if_neg (by omega), if_pos (by omega)]; congr 1; omega
theorem hx_dg {c n : Nat} (h : dg c = some n) : hx n = c := by
  unfold dg at h
  unfold hx
  split at h
  · cases h; rw [if_pos (by omega)]; omega
  · split at h
    · cases h; rw [if_neg (by omega)]; omega
    · cases h
def unhexL : List UInt8 → Option (List UInt8)
  | [] => some []
  | [_] => none
  | a :: b :: r => match dg a.toNat, dg b.toNat, unhexL r with
    | some x, some y, some l => some (UInt8.ofNat (16 * x + y) :: l)
    | _, _, _ => none
theorem unhexL_len : ∀ (l r : List UInt8), unhexL l = some r → l.length = 2 * r.length
  | [], r, h => by simp only [unhexL, Option.some.injEq] at h; subst h; rfl
  | [_], r, h => by simp [unhexL] at h
  | a :: b :: l, r, h => by
    simp only [unhexL] at h
    split at h
    · rename_i x y q h1 h2 h3
      cases h
      have := unhexL_len l q h3
      simp only [List.length_cons]; omega
    · cases h
theorem unhex_hex : ∀ l : List UInt8, unhexL (hexL l) = some l
  | [] => rfl
  | c :: l => by
    have hc := c.toNat_lt
    have h1 : (UInt8.ofNat (hx (c.toNat / 16))).toNat = hx (c.toNat / 16) := by have := hx_lt (n := c.toNat / 16) (by omega); simp; omega
    have h2 : (UInt8.ofNat (hx (c.toNat % 16))).toNat = hx (c.toNat % 16) := by have := hx_lt (n := c.toNat % 16) (by omega); simp; omega
    have : hexL (c :: l) = UInt8.ofNat (hx (c.toNat / 16)) :: UInt8.ofNat (hx (c.toNat % 16)) :: hexL l := rfl
    rw [this, unhexL, h1, h2, dg_hx (by omega), dg_hx (by omega), unhex_hex l]
    simp only [Option.some.injEq, List.cons.injEq, and_true]
    rw [show 16 * (c.toNat / 16) + c.toNat % 16 = c.toNat by omega, UInt8.ofNat_toNat]
theorem hex_unhex : ∀ (l r : List UInt8), unhexL l = some r → hexL r = l
  | [], r, h => by simp only [unhexL, Option.some.injEq] at h; subst h; rfl
  | [_], r, h => by simp [unhexL] at h
  | a :: b :: l, r, h => by
    simp only [unhexL] at h
    split at h
    · rename_i x y q h1 h2 h3
      cases h
      have hx1 := dg_lt h1
      have hy1 := dg_lt h2
      have e : (UInt8.ofNat (16 * x + y)).toNat = 16 * x + y := by simp; omega
      show UInt8.ofNat (hx ((UInt8.ofNat (16 * x + y)).toNat / 16)) :: UInt8.ofNat (hx ((UInt8.ofNat (16 * x + y)).toNat % 16)) :: hexL q = _
      rw [e, show (16 * x + y) / 16 = x by omega, show (16 * x + y) % 16 = y by omega, hx_dg h1, hx_dg h2, UInt8.ofNat_toNat, UInt8.ofNat_toNat, hex_unhex l q h3]
    · cases h
/-- All are digits. -/
def digits (l : List UInt8) : Bool := l.all fun c => (dg c.toNat).isSome
theorem unhexL_iff : ∀ l : List UInt8, (unhexL l).isSome = (digits l && l.length % 2 == 0)
  | [] => rfl
  | [a] => by simp [unhexL]
  | a :: b :: l => by
    have ih := unhexL_iff l
    have hl : (a :: b :: l).length % 2 = l.length % 2 := by simp only [List.length_cons]; omega
    rw [hl]
    simp only [unhexL, digits, List.all_cons] at ih ⊢
    cases h1 : dg a.toNat <;> cases h2 : dg b.toNat <;> simp
    cases h3 : unhexL l <;> rw [h3] at ih <;> simp at ih ⊢ <;> simpa using ih
/-- An object's name. -/
def isId (l : List UInt8) : Bool := (unhexL l).isSome && l.length == 40
theorem unhexL_take : ∀ (n : Nat) (l : List UInt8) (r : List UInt8), unhexL (l.take (2 * n)) = some r → 2 * n ≤ l.length → ∀ a b : UInt8, l[2 * n]? = some a → l[2 * n + 1]? = some b →
    unhexL (l.take (2 * (n + 1))) = (match dg a.toNat, dg b.toNat with | some x, some y => some (r ++ [UInt8.ofNat (16 * x + y)]) | _, _ => none)
  | 0, l, r, h, _, a, b, ha, hb => by
    match l, ha, hb with
    | a' :: b' :: l, ha, hb =>
      simp only [Nat.mul_zero, List.getElem?_cons_zero, Option.some.injEq] at ha
      simp only [Nat.mul_zero, Nat.zero_add, List.getElem?_cons_succ, List.getElem?_cons_zero, Option.some.injEq] at hb
      subst ha; subst hb
      simp only [Nat.mul_zero, List.take_zero, unhexL, Option.some.injEq] at h
      subst h
      show unhexL [a', b'] = _
      cases h1 : dg a'.toNat <;> cases h2 : dg b'.toNat <;> simp [unhexL, h1, h2]
    | [], ha, _ => simp at ha
    | [_], _, hb => simp at hb
  | n + 1, l, r, h, hl, a, b, ha, hb => by
    match l, hl with
    | a' :: b' :: l, hl =>
      have ha' : l[2 * n]? = some a := by simpa [show 2 * (n + 1) = 2 * n + 1 + 1 by omega] using ha
      have hb' : l[2 * n + 1]? = some b := by simpa [show 2 * (n + 1) + 1 = 2 * n + 1 + 1 + 1 by omega] using hb
      have ht : ∀ k, (a' :: b' :: l).take (2 * (k + 1)) = a' :: b' :: l.take (2 * k) := fun k => by rw [show 2 * (k + 1) = 2 * k + 1 + 1 by omega]; rfl
      rw [ht] at h ⊢
      simp only [unhexL] at h
      split at h
      · rename_i x y q h1 h2 h3
        cases h
        have ih := unhexL_take n l q h3 (by simp only [List.length_cons] at hl; omega) a b ha' hb'
        simp only [unhexL, h1, h2, ih]
        cases dg a.toNat <;> cases dg b.toNat <;> simp
      · cases h
    | [], hl => simp at hl
    | [_], hl => simp only [List.length_cons, List.length_nil] at hl; omega
theorem unhexL_bad : ∀ (n : Nat) (l : List UInt8) (a : UInt8), l[n]? = some a → dg a.toNat = none → unhexL l = none := fun n l a h hd => by
  have := unhexL_iff l
  cases hu : unhexL l with
  | none => rfl
  | some r =>
    exfalso
    rw [hu] at this
    simp only [Option.isSome_some, digits] at this
    have h2 := (Bool.and_eq_true _ _ ▸ this.symm).1
    rw [List.all_eq_true] at h2
    have := h2 a (List.mem_of_getElem? h)
    rw [hd] at this; cases this
end HexM

/- Slices of texts. No condition. -/
set_option linter.unusedVariables false
namespace Go.Proofs.YtfoeooddnmppnaaDoor
open Go Vc Go.Proofs

theorem elString : El Tryd.prog T_S_string T_string (.string ⟨#[]⟩) 16 := ⟨by kernel_rfl, by kernel_rfl, rfl⟩
def strV (l : List ByteArray) : List Value := l.map Value.string
theorem own_lit (w : World) (t : TypeId) : Vc.Own (w.alloc (.cells #[] t)) w.heap.size t ⟨some ⟨w.heap.size, 0, none⟩, 0, 0⟩ [] :=
  ⟨rfl, .inr ⟨w.heap.size, _, rfl, Nat.le_refl _, alloc_new w _, Nat.le_refl _, Nat.zero_le _, rfl, rfl⟩⟩
theorem grow_str {w0 w12 : World} {l : Sl} {out : List ByteArray} (x : ByteArray) (hs : out.length ≤ 1000003) (ho : Vc.Own w12 w0.heap.size T_string l (strV out)) (hf : Fr (fun _ => False) w0 w12) {w13 : World} (h13 : w13 = w12.alloc (.cells #[.string x] 9)) :
    ∃ (w14 : World) (l15 : Sl), (Builtin.append_ #[55, 55] 55 #[.slice l.a l.len l.cap, .slice (some ⟨w12.heap.size, 0, none⟩) 1 1]).run Tryd.prog w13 = .ok (.slice l15.a l15.len l15.cap) w14 ∧ Vc.Own w14 w0.heap.size T_string l15 (strV (out ++ [x])) ∧ Fr (fun _ => False) w0 w14 := by
  obtain ⟨w14, l15, hr14, ho14, hf14, _⟩ := append_one' elString ho (v := .string x) rfl (by simp only [strV, List.length_map, maxLen]; omega) (by simp only [strV, List.length_map]; omega) hf.size h13
  refine ⟨w14, l15, hr14, by simpa [strV] using ho14, hf.trans hf14 fun q hq ⟨z, hz, e⟩ => ?_⟩
  have := (ho.blk hz).1; omega
end Go.Proofs.YtfoeooddnmppnaaDoor

/- The reference's Parts and Clean: what they say, and that it is what snap.Clean says. Conditions: as named. -/
set_option linter.unusedVariables false
namespace Go.Proofs.YtfoeooddnmppnaaDoor
open Go Vc Go.Proofs

/-- The parts of bytes. -/
def partsL : List UInt8 → List (List UInt8)
  | [] => [[]]
  | b :: r => if b = 47 then [] :: partsL r else match partsL r with
    | h :: t => (b :: h) :: t
    | [] => [[b]]
def bsm (l : List (List UInt8)) : List ByteArray := l.map fun x => ⟨x.toArray⟩
theorem partsL_ne : ∀ l, partsL l ≠ []
  | [] => by simp [partsL]
  | b :: r => by
    rw [partsL]
    split
    · simp
    · split <;> simp
theorem partsL_slash : ∀ l, partsL (l ++ [47]) = partsL l ++ [[]]
  | [] => rfl
  | b :: r => by
    rw [List.cons_append, partsL, partsL, partsL_slash r]
    split
    · rfl
    · obtain ⟨h, t, e⟩ := List.exists_cons_of_ne_nil (partsL_ne r)
      rw [e]; rfl
theorem partsL_snoc {b : UInt8} (hb : b ≠ 47) : ∀ l, ∃ init last, partsL l = init ++ [last] ∧ partsL (l ++ [b]) = init ++ [last ++ [b]]
  | [] => ⟨[], [], rfl, by rw [List.nil_append, partsL, if_neg hb]; rfl⟩
  | c :: r => by
    obtain ⟨init, last, h1, h2⟩ := partsL_snoc hb r
    rw [List.cons_append, partsL, partsL, h1, h2]
    split
    · exact ⟨[] :: init, last, rfl, rfl⟩
    · cases init with
      | nil => exact ⟨[], c :: last, rfl, rfl⟩
      | cons h t => exact ⟨(c :: h) :: t, last, rfl, rfl⟩
theorem partsL_plain : ∀ l : List UInt8, (47 : UInt8) ∉ l → partsL l = [l]
  | [], _ => rfl
  | b :: r, h => by
    rw [partsL, if_neg (fun e => h (by simp [e])), partsL_plain r (fun e => h (by simp [e]))]
theorem partsL_cut : ∀ a b : List UInt8, (47 : UInt8) ∉ a → partsL (a ++ 47 :: b) = a :: partsL b
  | [], b, _ => by rw [List.nil_append, partsL, if_pos rfl]
  | c :: r, b, h => by
    rw [List.cons_append, partsL, if_neg (fun e => h (by simp [e])), partsL_cut r b (fun e => h (by simp [e]))]
theorem partsF_L : ∀ (g : Nat) (s : ByteArray), s.size ≤ g → partsF g s = bsm (partsL s.data.toList)
  | 0, s, h => by
    have : s.data.toList = [] := List.length_eq_zero_iff.1 (by rw [bs_len]; omega)
    rw [this]
    have e : s = ⟨[].toArray⟩ := bs_ext (by rw [this])
    rw [partsF, e]; rfl
  | g + 1, s, h => by
    rcases fnd_cases s 47 with ⟨hi, hno⟩ | ⟨i, hi, hlt, hb, hno⟩
    · rw [partsF_no hi, partsL_plain _ (fun hm => by
        obtain ⟨k, hk, he⟩ := List.getElem_of_mem hm
        obtain ⟨h1, h2⟩ := bs_get? (s := s) (i := k) (c := 47) (by rw [List.getElem?_eq_getElem hk, he])
        exact hno k h1 h2)]
      show [s] = [⟨s.data.toList.toArray⟩]
      rw [bs_self]
    · have hlt' : i < s.data.toList.length := by rw [bs_len]; exact hlt
      have hc : s.data.toList[i] = 47 := by
        have := bs_byt hlt
        rw [hb] at this
        exact (UInt8.toNat_inj.1 this).symm
      have hsp : s.data.toList = s.data.toList.take i ++ 47 :: s.data.toList.drop (i + 1) := by
        rw [← hc, ← List.drop_eq_getElem_cons hlt', List.take_append_drop]
      have hp : partsL s.data.toList = s.data.toList.take i :: partsL (s.data.toList.drop (i + 1)) := by
        conv => lhs; rw [hsp]
        exact partsL_cut _ _ fun hm => by
          obtain ⟨k, hk, he⟩ := List.getElem_of_mem hm
          rw [List.length_take] at hk
          rw [List.getElem_take] at he
          obtain ⟨h1, h2⟩ := bs_get? (s := s) (i := k) (c := 47) (by rw [List.getElem?_eq_getElem (by omega), he])
          exact hno k (by omega) h2
      rw [partsF_yes hi, partsF_L g _ (by simp; omega), hp, bs_tail]
      show s.extract 0 i :: _ = ⟨(s.data.toList.take i).toArray⟩ :: _
      congr 1
      refine bs_ext ?_
      rw [bs_head, bs_mk]
theorem partsL_len : ∀ l : List UInt8, (partsL l).length ≤ l.length + 1
  | [] => Nat.le_refl _
  | b :: r => by
    have := partsL_len r
    rw [partsL]
    split
    · simp; omega
    · split
      · rename_i h t e
        rw [e] at this
        simp at this ⊢; omega
      · simp
theorem partsL_size : ∀ l : List UInt8, ∀ p ∈ partsL l, p.length ≤ l.length
  | [], p, h => by simp [partsL] at h; simp [h]
  | b :: r, p, h => by
    have ih := partsL_size r
    rw [partsL] at h
    split at h
    · rcases List.mem_cons.1 h with h | h
      · simp [h]
      · have := ih p h; simp; omega
    · split at h
      · rename_i q t e
        rw [e] at ih
        rcases List.mem_cons.1 h with h | h
        · have := ih q (by simp); simp [h]; omega
        · have := ih p (by simp [h]); simp; omega
      · simp at h; simp [h]
/-- 'Parts'. -/
theorem rparts_spec (s : ByteArray) (hs : s.size ≤ 4000000) (w : World) : Calls Tryd.prog F_cartularyref07_Parts #[.string s] w fun e w' =>
    ∃ l, e = .returned (.slice l.a l.len l.cap) ∧ Vc.Own w' w.heap.size T_string l (strV (bsm (partsL s.data.toList))) ∧ Fr (fun _ => False) w w' := by
  refine vc_cartularyref07_Parts_ok (R := fun v w' => ∃ l : Sl, v = .slice l.a l.len l.cap ∧ Vc.Own w' w.heap.size T_string l (strV (bsm (partsL s.data.toList))) ∧ Fr (fun _ => False) w w') ?_ (fun v w' ⟨l, h⟩ => ⟨l, by rw [h.1], h.2⟩)
  intro w1 h1
  have hf1 : Fr (fun _ => False) w w1 := by rw [h1]; exact .alloc _ _ _
  have ho1 : Vc.Own w1 w.heap.size T_string ⟨some ⟨w.heap.size, 0, none⟩, 1, 1⟩ (strV (bsm (partsL (s.data.toList.take 0)))) :=
    ⟨rfl, .inr ⟨w.heap.size, _, rfl, Nat.le_refl _, by rw [h1]; exact alloc_new _ _, Nat.le_refl _, show 1 ≤ maxLen by decide, rfl, rfl⟩⟩
  refine ⟨fun l i w' => ∃ k : Nat, i = k ∧ k ≤ s.size ∧ Vc.Own w' w.heap.size T_string l (strV (bsm (partsL (s.data.toList.take k)))) ∧ Fr (fun _ => False) w w', fun _ i _ => s.size - i.toNat, ⟨0, rfl, Nat.zero_le _, ho1, hf1⟩, ?_⟩
  clear h1 ho1 hf1 w1
  rintro l i w6 ⟨k, rfl, hk, ho, hf⟩
  have e1 : IntKind.i64.wrap ((k : Int) + 1) = ((k + 1 : Nat) : Int) := by rw [wrap_i64 (by omega) (by omega)]; omega
  rw [e1]
  refine ⟨fun hlt => ?_, fun hge => ?_⟩
  · have hlt := of_decide_eq_true hlt
    have hks : k < s.size := by omega
    have htk := bs_take hks
    have hb0 := byt_lt s k
    have hlen : l.len = (partsL (s.data.toList.take k)).length := by rw [ho.len]; simp [strV, bsm]
    have hpl := partsL_len (s.data.toList.take k)
    rw [List.length_take, bs_len] at hpl
    rw [byteAt_nat]
    refine ⟨⟨by omega, by omega⟩, fun hb w7 h7 => ?_, fun hb w10 d10 => ?_⟩
    · have hb : byt s k = 47 := by have := eq_of_beq hb; omega
      rw [hb, show UInt8.ofNat 47 = 47 from rfl] at htk
      obtain ⟨w8, l9, hr8, ho8, hf8, _⟩ := append_one' elString ho (v := .string ⟨#[]⟩) rfl (by simp [strV, bsm, maxLen]; omega) (by simp [strV, bsm]; omega) hf.size h7
      refine ⟨w8, l9, hr8, ⟨k + 1, rfl, by omega, ?_, hf.trans hf8 fun q hq ⟨y, hy, e⟩ => by have := (ho.blk hy).1; omega⟩, by dsimp only; omega⟩
      rw [htk, partsL_slash]
      simpa [strV, bsm] using ho8
    · have hb : byt s k ≠ 47 := fun e => by rw [e] at hb; simp at hb
      obtain ⟨init, last, p1, p2⟩ := partsL_snoc (b := UInt8.ofNat (byt s k)) (fun e => hb (by have := congrArg UInt8.toNat e; rw [toNat_of _ hb0] at this; exact this)) (s.data.toList.take k)
      have ho10 := ho.drew d10
      rw [p1] at hlen ho10 hpl
      rw [List.length_append, List.length_singleton] at hpl
      have hli : l.len = init.length + 1 := by rw [hlen]; simp
      have hll : last.length ≤ s.size := by
        have := partsL_size (s.data.toList.take k) last (by rw [p1]; simp)
        rw [List.length_take, bs_len] at this; omega
      have e2 : IntKind.i64.wrap ((l.len : Int) - 1) = (init.length : Int) := by rw [hli, wrap_i64 (by omega) (by omega)]; omega
      rw [e2]
      obtain ⟨a, ha, hc, hw, hset⟩ := ho10.set (i := init.length) (by simp [strV, bsm])
      have hcv : (strV (bsm (init ++ [last])))[init.length]'(by simp [strV, bsm]) = .string ⟨last.toArray⟩ := by simp [strV, bsm]
      rw [hcv] at hc
      have hex : s.extract k (k + 1) = ⟨[UInt8.ofNat (byt s k)].toArray⟩ := bs_ext (by
        rw [bs_extract, bs_mk, Nat.add_sub_cancel_left]
        have hlt' : k < s.data.toList.length := by rw [bs_len]; exact hks
        rw [List.drop_eq_getElem_cons hlt']
        have := bs_get hks
        rw [List.getElem?_eq_getElem hlt'] at this
        rw [Option.some.inj this]; rfl)
      have hap : (⟨last.toArray⟩ : ByteArray) ++ s.extract k (k + 1) = ⟨(last ++ [UInt8.ofNat (byt s k)]).toArray⟩ := bs_ext (by rw [bs_app, hex, bs_mk, bs_mk, bs_mk])
      refine ⟨⟨by omega, by omega⟩, a, ha, ⟨last.toArray⟩, by rw [Int.toNat_natCast, Nat.mul_one]; exact hc, ⟨by omega, by omega, by omega⟩, ?_, ⟨by omega, by omega⟩, a, ha, by rw [Int.toNat_natCast, Nat.mul_one]; exact hw, fun w14 h14 => ?_⟩
      · rw [bs_mksize, Int.toNat_natCast, Int.toNat_natCast, hex, bs_mksize]; simp; omega
      · rw [Int.toNat_natCast, Int.toNat_natCast, Int.toNat_natCast, Nat.mul_one, hap] at h14
        obtain ⟨ho14, hf14⟩ := hset (.string ⟨(last ++ [UInt8.ofNat (byt s k)]).toArray⟩)
        rw [← h14] at ho14 hf14
        refine ⟨⟨k + 1, rfl, by omega, ?_, (hf.trans' (.drew _ d10)).trans hf14 fun q hq ⟨y, hy, e⟩ => by have := (ho10.blk hy).1; omega⟩, by dsimp only; omega⟩
        rw [htk, p2]
        have : (strV (bsm (init ++ [last]))).set init.length (.string ⟨(last ++ [UInt8.ofNat (byt s k)]).toArray⟩) = strV (bsm (init ++ [last ++ [UInt8.ofNat (byt s k)]])) := by
          simp [strV, bsm]
        rw [this] at ho14
        exact ho14
  · have hge := of_decide_eq_false hge
    have : k = s.size := by omega
    rw [this, bs_all] at ho
    exact ⟨l, rfl, ho, hf⟩
end Go.Proofs.YtfoeooddnmppnaaDoor

/- The reference's Clean. Conditions: as named. -/
set_option linter.unusedVariables false
namespace Go.Proofs.YtfoeooddnmppnaaDoor
open Go Vc Go.Proofs

theorem rclean_spec (s : ByteArray) (hs : s.size ≤ 140737488355328) (w : World) : Calls Tryd.prog F_cartularyref07_Clean #[.string s] w fun e w' => e = .returned (.bool (cleanB s)) ∧ Fr (fun _ => False) w w' := by
  refine vc_cartularyref07_Clean_ok (R := fun v w' => v = .bool (cleanB s) ∧ Fr (fun _ => False) w w') ?_ (fun v w' h => ⟨by rw [h.1], h.2⟩)
  refine ⟨fun h => ⟨?_, .refl _ _⟩, fun h => ?_⟩
  · have h := of_decide_eq_true h
    unfold cleanB
    rw [decide_eq_false (by omega)]; rfl
  have h := of_decide_eq_false h
  have noP : printB s = false → Value.bool false = .bool (cleanB s) := fun h => by
    unfold cleanB
    rw [h, Bool.and_false]
  have bad : ∀ {k : Nat}, k < s.size → ¬ (32 ≤ byt s k ∧ byt s k ≤ 126) → printB s = false := fun hk h => decide_eq_false fun hall => h (hall _ hk)
  refine ⟨fun i w' => w' = w ∧ ∃ k : Nat, i = k ∧ k ≤ s.size ∧ ∀ j, j < k → 32 ≤ byt s j ∧ byt s j ≤ 126, fun i _ => s.size - i.toNat, ⟨rfl, 0, rfl, Nat.zero_le _, fun j hj => by omega⟩, ?_⟩
  rintro i w4 ⟨hw, k, rfl, hk, hall⟩
  replace hw := hw.symm
  subst hw
  have e1 : IntKind.i64.wrap ((k : Int) + 1) = ((k + 1 : Nat) : Int) := by rw [wrap_i64 (by omega) (by omega)]; omega
  rw [e1]
  refine ⟨fun hlt => ?_, fun hge => ?_⟩
  · have hlt := of_decide_eq_true hlt
    have hks : k < s.size := by omega
    rw [byteAt_nat]
    refine ⟨⟨by omega, by omega⟩, fun hb => ⟨noP (bad hks (by have := of_decide_eq_true hb; omega)), .refl _ _⟩, fun hb => ⟨⟨by omega, by omega⟩, fun hb' => ⟨noP (bad hks (by have := of_decide_eq_true hb'; omega)), .refl _ _⟩, fun hb' => ⟨⟨rfl, k + 1, rfl, by omega, fun j hj => ?_⟩, by dsimp only; omega⟩⟩⟩
    have hb := of_decide_eq_false hb
    have hb' := of_decide_eq_false hb'
    by_cases hjk : j = k
    · subst hjk; omega
    · exact hall j (by omega)
  · have hge := of_decide_eq_false hge
    have hp : printB s = true := decide_eq_true fun j hj => hall j (by omega)
    refine (rparts_spec s (by omega) w).mono ?_
    rintro e w6 ⟨l, rfl, ho, hf⟩
    rw [← partsF_L s.size s (Nat.le_refl _)] at ho
    have hcb : cleanB s = (partsF s.size s).all partOK := by
      unfold cleanB
      rw [hp, decide_eq_true (by omega), Bool.and_true, Bool.true_and]
    have hps : (partsF s.size s).length ≤ 1000000000 := by
      rw [partsF_L s.size s (Nat.le_refl _)]
      have := partsL_len s.data.toList
      rw [bs_len] at this
      simp only [bsm, List.length_map]; omega
    generalize partsF s.size s = ps at ho hcb hps
    have hlen : l.len = ps.length := by rw [ho.len]; simp [strV]
    refine ⟨l, rfl, fun i w' => w' = w6 ∧ ∃ k : Nat, i = k ∧ k ≤ ps.length ∧ ∀ x ∈ ps.take k, partOK x = true, fun i _ => ps.length - i.toNat, ⟨rfl, 0, rfl, Nat.zero_le _, fun x hx => by simp at hx⟩, ?_⟩
    rintro i w11 ⟨hw, k, rfl, hk, hall⟩
    replace hw := hw.symm
    subst hw
    have e1 : IntKind.i64.wrap ((k : Int) + 1) = ((k + 1 : Nat) : Int) := by rw [wrap_i64 (by omega) (by omega)]; omega
    rw [e1]
    refine ⟨fun hlt => ?_, fun hge => ?_⟩
    · have hlt := of_decide_eq_true hlt
      have hkl : k < ps.length := by omega
      have hx : ps[k]? = some ps[k] := List.getElem?_eq_getElem hkl
      generalize ps[k] = x at hx
      obtain ⟨a, ha, hc⟩ := ho.reads k (.string x) (by simp [strV, hx])
      have no : partOK x = false → Value.bool false = .bool (cleanB s) := fun h => by
        rw [hcb]
        have : ps.all partOK = false := by
          rw [← Bool.not_eq_true, List.all_eq_true]
          intro hall
          rw [hall x (List.mem_of_getElem? hx)] at h; cases h
        rw [this]
      refine ⟨⟨by omega, by omega⟩, a, ha, x, by rw [Int.toNat_natCast, Nat.mul_one]; exact hc, fun h => ⟨no ?_, hf⟩, fun h1 => ⟨fun h => ⟨no ?_, hf⟩, fun h2 => ⟨fun h => ⟨no ?_, hf⟩, fun h3 => ⟨⟨rfl, k + 1, rfl, by omega, fun y hy => ?_⟩, by dsimp only; omega⟩⟩⟩⟩
      · rw [bs_eq] at h
        rw [of_decide_eq_true h]; rfl
      · rw [bs_eq] at h
        rw [of_decide_eq_true h]; rfl
      · rw [bs_eq] at h
        rw [of_decide_eq_true h]; rfl
      · rw [List.take_add_one, hx] at hy
        rcases List.mem_append.1 hy with hy | hy
        · exact hall y hy
        · simp only [Option.toList, List.mem_cons, List.mem_nil_iff, or_false] at hy
          subst hy
          rw [bs_eq] at h1 h2 h3
          unfold partOK
          rw [decide_eq_true (of_decide_eq_false h1), decide_eq_true (of_decide_eq_false h2), decide_eq_true (of_decide_eq_false h3)]; rfl
    · have hge := of_decide_eq_false hge
      have hk' : k = ps.length := by omega
      rw [hk', List.take_of_length_le (Nat.le_refl _)] at hall
      exact ⟨by rw [hcb, List.all_eq_true.2 hall], hf⟩
end Go.Proofs.YtfoeooddnmppnaaDoor

/- Numbers of 32 and 64 bits as bit vectors. No condition. -/
set_option linter.unusedVariables false
namespace Vc
open Go
section
theorem u_of (x : BitVec 32) : BitVec.ofInt 32 (x.toNat : Int) = x := by
  rw [BitVec.ofInt_natCast]; simp
theorem u_wrap (x : BitVec 32) : IntKind.u32.wrap (x.toNat : Int) = (x.toNat : Int) := by
  have := x.isLt
  exact wrap_u32 (by omega) (by omega)
theorem u_add (x y : BitVec 32) : IntKind.u32.wrap ((x.toNat : Int) + (y.toNat : Int)) = ((x + y).toNat : Int) := by
  rw [wrap_u32_mod, BitVec.toNat_add]; omega
theorem u_shl (x : BitVec 32) (k : Nat) (hk : k ≤ 32) : IntKind.u32.wrap ((x.toNat : Int) * 2 ^ (min k 32)) = ((x <<< k).toNat : Int) := by
  have hp : (2 : Int) ^ k = ((2 ^ k : Nat) : Int) := by push_cast; rfl
  rw [Nat.min_eq_left hk, wrap_u32_mod, BitVec.toNat_shiftLeft, Nat.shiftLeft_eq, hp, ← Int.natCast_mul]
  generalize x.toNat * 2 ^ k = z
  show (z : Int) % 4294967296 = ((z % 4294967296 : Nat) : Int)
  omega
theorem u_shr (x : BitVec 32) (k : Nat) (hk : k ≤ 32) : Int.fdiv (x.toNat : Int) (2 ^ (min k 32)) = ((x >>> k).toNat : Int) := by
  have hp : (2 : Int) ^ k = ((2 ^ k : Nat) : Int) := by push_cast; rfl
  rw [Nat.min_eq_left hk, hp, Int.fdiv_eq_ediv_of_nonneg _ (Int.natCast_nonneg _), ← Int.natCast_ediv, BitVec.toNat_ushiftRight, Nat.shiftRight_eq_div_pow]
end
end Vc

/- Formulas of 3 Go functions of this seat (written by a program of the author's, vcgen.py), and that each is enough for the call. No condition. -/
set_option linter.unusedVariables false
namespace Go.Proofs.YtfoeooddnmppnaaDoor
open Go Vc Go.Proofs
set_option maxRecDepth 100000
/-- (*sums.Crc).Write -/
def vc_sums_Crc_Write (x0 : Nat) (x1 : ByteArray) (w : World) (R : Value → World → Prop) : Prop :=
  ∃ n1 : Int, (World.cell? w (Addr.mk x0 0 none) = some (Value.int IntKind.u32 n1) ∧
   ∃ I2 : Int → Int → World → Prop, ∃ I3 : Int → Int → World → Nat, ((I2 (IntKind.wrap IntKind.u32 (↑(BitVec.toNat (BitVec.ofInt 32 (if IntKind.signed IntKind.u32 = true then -1 else Int.ofNat (2 ^ 32 - Nat.succ 0)) ^^^ BitVec.ofInt 32 n1)) : Int)) 0 w) ∧
    ∀ n4 : Int,
    ∀ n5 : Int,
    ∀ w6 : World,
    (I2 n4 n5 w6 →
      (((decide (n5 < (↑(ByteArray.size x1) : Int)) = true →
         ((0 ≤ n5 ∧
           n5 < (↑(ByteArray.size x1) : Int)) ∧
          ∃ I7 : Int → Int → World → Prop, ∃ I8 : Int → Int → World → Nat, (I7 (IntKind.wrap IntKind.u32 (↑(BitVec.toNat (BitVec.ofInt 32 n4 ^^^ BitVec.ofInt 32 (IntKind.wrap IntKind.u32 (byteAt x1 n5)))) : Int)) 0 w6 ∧
           ∀ n9 : Int,
           ∀ n10 : Int,
           ∀ w11 : World,
           (I7 n9 n10 w11 →
             (((decide (n10 < 8) = true →
                ((0 : Int) ≤ (1 : Int) ∧
                 (I7 (IntKind.wrap IntKind.u32 (↑(BitVec.toNat (BitVec.ofInt 32 (Int.fdiv n9 (2 ^ min (Int.toNat 1) 32)) ^^^ BitVec.ofInt 32 (IntKind.wrap IntKind.u32 (↑(BitVec.toNat (BitVec.ofInt 32 3988292384 &&& BitVec.ofInt 32 (IntKind.wrap IntKind.u32 (0 - IntKind.wrap IntKind.u32 (↑(BitVec.toNat (BitVec.ofInt 32 n9 &&& BitVec.ofInt 32 1)) : Int))))) : Int)))) : Int)) (IntKind.wrap IntKind.i64 (n10 + 1)) w11 ∧
                  I8 (IntKind.wrap IntKind.u32 (↑(BitVec.toNat (BitVec.ofInt 32 (Int.fdiv n9 (2 ^ min (Int.toNat 1) 32)) ^^^ BitVec.ofInt 32 (IntKind.wrap IntKind.u32 (↑(BitVec.toNat (BitVec.ofInt 32 3988292384 &&& BitVec.ofInt 32 (IntKind.wrap IntKind.u32 (0 - IntKind.wrap IntKind.u32 (↑(BitVec.toNat (BitVec.ofInt 32 n9 &&& BitVec.ofInt 32 1)) : Int))))) : Int)))) : Int)) (IntKind.wrap IntKind.i64 (n10 + 1)) w11 < I8 n9 n10 w11)))) ∧
              (decide (n10 < 8) = false →
                (I2 n9 (IntKind.wrap IntKind.i64 (n5 + 1)) w11 ∧
                 I3 n9 (IntKind.wrap IntKind.i64 (n5 + 1)) w11 < I3 n4 n5 w6)))))))) ∧
       (decide (n5 < (↑(ByteArray.size x1) : Int)) = false →
         (Wr w6 (Addr.mk x0 0 none) ∧
          ∀ w12 : World,
          ((w12 = World.setCell w6 (Addr.mk x0 0 none) (Value.int IntKind.u32 (IntKind.wrap IntKind.u32 (↑(BitVec.toNat (BitVec.ofInt 32 (if IntKind.signed IntKind.u32 = true then -1 else Int.ofNat (2 ^ 32 - Nat.succ 0)) ^^^ BitVec.ofInt 32 n4)) : Int)))) →
            R (Value.tuple (Array.mk [])) w12)))))))
theorem vc_sums_Crc_Write_ok {x0 : Nat} {x1 : ByteArray} {w : World} {R : Value → World → Prop} {R' : Ending → World → Prop} (h : vc_sums_Crc_Write x0 x1 w R) (hR : ∀ v w', R v w' → R' (.returned v) w') :
    Calls Tryd.prog 86 #[.pointer (some ⟨x0, 0, none⟩), .string x1] w R' :=
  calls_of_body (vs := [(.pointer (some ⟨x0, 0, none⟩), true), (.string x1, false)]) (ty := ty) (ann := ⟨[], [(2, [(4, .int .u32), (13, .int .i64)]), (6, [(4, .int .u32), (22, .int .i64)])], [], []⟩) (c := Tryd.f86.body.getD .skip) (by kernel_rfl) Tryd.func86 (by kernel_rfl) (by kernel_rfl) (Eq.mp (by kernel_rfl) h) hR
/-- (*sums.Crc).Sum -/
def vc_sums_Crc_Sum (x0 : Nat) (w : World) (R : Value → World → Prop) : Prop :=
  ∃ n1 : Int, (World.cell? w (Addr.mk x0 0 none) = some (Value.int IntKind.u32 n1) ∧
   R (Value.int IntKind.u32 n1) w)
theorem vc_sums_Crc_Sum_ok {x0 : Nat} {w : World} {R : Value → World → Prop} {R' : Ending → World → Prop} (h : vc_sums_Crc_Sum x0 w R) (hR : ∀ v w', R v w' → R' (.returned v) w') :
    Calls Tryd.prog 87 #[.pointer (some ⟨x0, 0, none⟩)] w R' :=
  calls_of_body (vs := [(.pointer (some ⟨x0, 0, none⟩), true)]) (ty := ty) (ann := ⟨[], [], [], []⟩) (c := Tryd.f87.body.getD .skip) (by kernel_rfl) Tryd.func87 (by kernel_rfl) (by kernel_rfl) (Eq.mp (by kernel_rfl) h) hR
/-- sums.Crc32 -/
def vc_sums_Crc32 (x0 : ByteArray) (w : World) (R : Value → World → Prop) : Prop :=
  ∀ w1 : World,
  (w1 = World.alloc w (Obj.cells (Array.mk [Value.int IntKind.u32 0]) 119) →
    Calls Tryd.prog (86 : Nat) (Array.mk [Value.pointer (some (Addr.mk (Array.size (World.heap w)) 0 none)), Value.string x0]) (w1) (fun e2 w3 =>
      (e2 = Ending.returned (Value.tuple (Array.mk [])) ∧
       Calls Tryd.prog (87 : Nat) (Array.mk [Value.pointer (some (Addr.mk (Array.size (World.heap w)) 0 none))]) (w3) (fun e4 w5 =>
         ∃ n6 : Int, (e4 = Ending.returned (Value.int IntKind.u32 n6) ∧
          R (Value.int IntKind.u32 n6) w5)))))
theorem vc_sums_Crc32_ok {x0 : ByteArray} {w : World} {R : Value → World → Prop} {R' : Ending → World → Prop} (h : vc_sums_Crc32 x0 w R) (hR : ∀ v w', R v w' → R' (.returned v) w') :
    Calls Tryd.prog 33 #[.string x0] w R' :=
  calls_of_body (vs := [(.string x0, false)]) (ty := ty) (ann := ⟨[], [], [], []⟩) (c := Tryd.f33.body.getD .skip) (by kernel_rfl) Tryd.func33 (by kernel_rfl) (by kernel_rfl) (Eq.mp (by kernel_rfl) h) hR
end Go.Proofs.YtfoeooddnmppnaaDoor

/- sums.Crc32, as a function on words. No condition. -/
set_option linter.unusedVariables false
namespace Go.Proofs.YtfoeooddnmppnaaDoor
open Go Vc Go.Proofs

def crcBit (c : BitVec 32) : BitVec 32 := (c >>> 1) ^^^ (3988292384#32 &&& (0 - (c &&& 1#32)))
def crcBits : Nat → BitVec 32 → BitVec 32
  | 0, c => c
  | n + 1, c => crcBit (crcBits n c)
def crcByte (c : BitVec 32) (b : UInt8) : BitVec 32 := crcBits 8 (c ^^^ BitVec.ofInt 32 ((b.toNat : Nat) : Int))
def crcRun (l : List UInt8) : BitVec 32 := l.foldl crcByte (BitVec.allOnes 32 ^^^ 0#32)
/-- The cyclic sum. -/
def crcW (l : List UInt8) : BitVec 32 := BitVec.allOnes 32 ^^^ crcRun l
theorem u_neg (x : BitVec 32) : IntKind.u32.wrap (0 - (x.toNat : Int)) = ((0 - x).toNat : Int) := by
  have := x.isLt
  rw [wrap_u32_mod, BitVec.toNat_sub]
  show (0 - (x.toNat : Int)) % 4294967296 = (((4294967296 - x.toNat + 0) % 4294967296 : Nat) : Int)
  omega
theorem crcBit_int (c : BitVec 32) : IntKind.u32.wrap (BitVec.toNat (BitVec.ofInt 32 (Int.fdiv (c.toNat : Int) (2 ^ min (Int.toNat 1) 32)) ^^^ BitVec.ofInt 32 (IntKind.u32.wrap (BitVec.toNat (BitVec.ofInt 32 3988292384 &&& BitVec.ofInt 32 (IntKind.u32.wrap (0 - IntKind.u32.wrap (BitVec.toNat (BitVec.ofInt 32 (c.toNat : Int) &&& BitVec.ofInt 32 1) : Int)))) : Int))) : Int) = ((crcBit c).toNat : Int) := by
  have h1 : Int.toNat 1 = 1 := rfl
  have e1 : BitVec.ofInt 32 1 = 1#32 := rfl
  have e2 : BitVec.ofInt 32 3988292384 = 3988292384#32 := rfl
  rw [h1, u_shr c 1 (by decide), u_of, u_of, e1, e2, u_wrap (c &&& 1#32), u_neg, u_of, u_wrap (3988292384#32 &&& (0 - (c &&& 1#32))), u_of, u_wrap]
  rfl
theorem ones_not : BitVec.ofInt 32 (if IntKind.signed IntKind.u32 = true then -1 else Int.ofNat (2 ^ 32 - Nat.succ 0)) = BitVec.allOnes 32 := by decide
theorem crcWrite_spec {w : World} {b : Nat} {T : TypeId} (hb : w.heap[b]? = some (.cells #[.int .u32 0] T (0, 0))) (s : ByteArray) (hs : s.size ≤ 140737488355328) : Calls Tryd.prog F_sums_Crc_Write #[.pointer (some ⟨b, 0, none⟩), .string s] w fun e w' =>
    e = .returned (.tuple #[]) ∧ w' = w.setCell ⟨b, 0, none⟩ (.int .u32 ((crcW s.data.toList).toNat : Int)) := by
  refine vc_sums_Crc_Write_ok (R := fun v w' => v = .tuple #[] ∧ w' = w.setCell ⟨b, 0, none⟩ (.int .u32 ((crcW s.data.toList).toNat : Int))) ?_ (fun v w' h => ⟨by rw [h.1], h.2⟩)
  obtain ⟨L, hL⟩ : ∃ L, s.data.toList = L := ⟨_, rfl⟩
  have hLl : L.length = s.size := by rw [← hL, bs_len]
  have e0 : BitVec.ofInt 32 0 = 0#32 := rfl
  refine ⟨0, by rw [cell_blk hb]; rfl, fun c i w' => ∃ k : Nat, i = k ∧ k ≤ L.length ∧ c = ((crcRun (L.take k)).toNat : Int) ∧ w' = w, fun _ i _ => L.length - i.toNat, ⟨0, rfl, Nat.zero_le _, by rw [ones_not, e0, u_wrap]; rfl, rfl⟩, ?_⟩
  rintro c i w6 ⟨k, rfl, hk, rfl, hw⟩
  subst hw
  refine ⟨fun hlt => ?_, fun hge => ?_⟩
  · have hlt := of_decide_eq_true hlt
    have hkl : k < L.length := by omega
    have htk : L.take (k + 1) = L.take k ++ [L[k]] := (List.take_append_getElem hkl).symm
    have hbk : byteAt s (k : Int) = (((L[k]).toNat : Nat) : Int) := by
      rw [byteAt_nat, bs_byt (by omega)]
      have : s.data.toList[k]? = some L[k] := by rw [hL]; exact List.getElem?_eq_getElem hkl
      rw [List.getElem?_eq_getElem (by rw [bs_len]; omega)] at this
      rw [Option.some.inj this]
    generalize L[k] = x at htk hbk
    have hx := UInt8.toNat_lt x
    have e1 : IntKind.i64.wrap ((k : Int) + 1) = ((k + 1 : Nat) : Int) := by rw [wrap_i64 (by omega) (by omega)]; omega
    rw [hbk, e1, wrap_u32 (x := ((x.toNat : Nat) : Int)) (by omega) (by omega), u_of, u_wrap]
    refine ⟨⟨by omega, by omega⟩, fun c j w' => ∃ q : Nat, j = q ∧ q ≤ 8 ∧ c = ((crcBits q (crcRun (L.take k) ^^^ BitVec.ofInt 32 ((x.toNat : Nat) : Int))).toNat : Int) ∧ w' = w6, fun _ j _ => 8 - j.toNat, ⟨0, rfl, by decide, rfl, rfl⟩, ?_⟩
    rintro c j w11 ⟨q, rfl, hq, rfl, hw⟩
    subst hw
    have e2 : IntKind.i64.wrap ((q : Int) + 1) = ((q + 1 : Nat) : Int) := by rw [wrap_i64 (by omega) (by omega)]; omega
    rw [crcBit_int, e2]
    refine ⟨fun hlt8 => ⟨by decide, ⟨q + 1, rfl, by have := of_decide_eq_true hlt8; omega, rfl, rfl⟩, by have := of_decide_eq_true hlt8; dsimp only; omega⟩, fun hge8 => ?_⟩
    have hq8 : q = 8 := by have := of_decide_eq_false hge8; omega
    subst hq8
    refine ⟨⟨k + 1, rfl, by omega, ?_, rfl⟩, by dsimp only; omega⟩
    rw [htk]
    unfold crcRun
    rw [List.foldl_append]
    rfl
  · have hge := of_decide_eq_false hge
    have hk' : k = L.length := by omega
    rw [hk', List.take_length]
    refine ⟨wr_blk hb (by simp), fun w12 h12 => ⟨rfl, ?_⟩⟩
    rw [ones_not, u_of, u_wrap] at h12
    rw [h12, hL]; rfl
theorem crc32_spec (s : ByteArray) (hs : s.size ≤ 140737488355328) (w : World) : Calls Tryd.prog F_sums_Crc32 #[.string s] w fun e w' => e = .returned (.int .u32 ((crcW s.data.toList).toNat : Int)) ∧ Fr (fun _ => False) w w' := by
  refine vc_sums_Crc32_ok (R := fun v w' => v = .int .u32 ((crcW s.data.toList).toNat : Int) ∧ Fr (fun _ => False) w w') ?_ (fun v w' h => ⟨by rw [h.1], h.2⟩)
  intro w1 h1
  have hf1 : Fr (fun _ => False) w w1 := by rw [h1]; exact .alloc _ _ _
  have hb1 : w1.heap[w.heap.size]? = some (.cells #[.int .u32 0] T_sums_Crc (0, 0)) := by rw [h1]; exact alloc_new _ _
  refine (crcWrite_spec hb1 s hs).mono ?_
  rintro e w3 ⟨rfl, rfl⟩
  refine ⟨rfl, ?_⟩
  have hb3 := set_blk hb1 0 (.int .u32 ((crcW s.data.toList).toNat : Int))
  have hf3 : Fr (fun _ => False) w (w1.setCell ⟨w.heap.size, 0, none⟩ (.int .u32 ((crcW s.data.toList).toNat : Int))) := hf1.trans (Fr.set (· = w.heap.size) _ _ rfl) fun q hq e => by omega
  refine Calls.mono (R := fun e w' => e = .returned (.int .u32 ((crcW s.data.toList).toNat : Int)) ∧ w' = w1.setCell ⟨w.heap.size, 0, none⟩ (.int .u32 ((crcW s.data.toList).toNat : Int))) (vc_sums_Crc_Sum_ok (R := fun v w' => v = .int .u32 ((crcW s.data.toList).toNat : Int) ∧ w' = w1.setCell ⟨w.heap.size, 0, none⟩ (.int .u32 ((crcW s.data.toList).toNat : Int))) ?_ (fun v w' h => ⟨by rw [h.1], h.2⟩)) ?_
  · exact ⟨_, by rw [cell_blk hb3]; rfl, rfl, rfl⟩
  · rintro e w5 ⟨rfl, rfl⟩
    exact ⟨_, rfl, rfl, hf3⟩
end Go.Proofs.YtfoeooddnmppnaaDoor

/- Formulas of 8 Go functions of this seat (written by a program of the author's, vcgen.py), and that each is enough for the call. No condition. -/
set_option linter.unusedVariables false
namespace Go.Proofs.YtfoeooddnmppnaaDoor
open Go Vc Go.Proofs
set_option maxRecDepth 100000
/-- cartularyref23.Same -/
def vc_cartularyref23_Same (x0a : Option Addr) (x0n : Nat) (x0c : Nat) (x1a : Option Addr) (x1n : Nat) (x1c : Nat) (w : World) (R : Value → World → Prop) : Prop :=
  (((((↑x0n : Int) != (↑x1n : Int)) = true →
     R (Value.bool false) w)) ∧
   (((↑x0n : Int) != (↑x1n : Int)) = false →
     ∃ I1 : Int → World → Prop, ∃ I2 : Int → World → Nat, (I1 0 w ∧
      ∀ n3 : Int,
      ∀ w4 : World,
      (I1 n3 w4 →
        (((decide (n3 < (↑x0n : Int)) = true →
           ∀ w5 : World,
           (Drew w4 w5 →
             ∃ I6 : World → Prop, (I6 w5 ∧
              ((0 ≤ n3 ∧
                n3 < (↑x0n : Int)) ∧
               ∃ a7 : Addr, (x0a = some a7 ∧
                ((0 ≤ n3 ∧
                  n3 < (↑x1n : Int)) ∧
                 ∃ a8 : Addr, (x1a = some a8 ∧
                  ∃ s9 : ByteArray, ∃ s10 : ByteArray, ((∀ w11 : World,
                   (I6 w11 →
                     Sem.run Tryd.prog (loadVar 37 (Addr.add a7 (Int.toNat n3 * 2))) w11 = Result.ok (Value.agg (Array.mk [Value.string s9, Value.string s10])) w11)) ∧
                   ∃ s12 : ByteArray, ∃ s13 : ByteArray, ((∀ w14 : World,
                    (I6 w14 →
                      Sem.run Tryd.prog (loadVar 37 (Addr.add a8 (Int.toNat n3 * 2))) w14 = Result.ok (Value.agg (Array.mk [Value.string s12, Value.string s13])) w14)) ∧
                    ((((!(ByteArray.toList s9 == ByteArray.toList s12 && ByteArray.toList s10 == ByteArray.toList s13)) = true →
                       R (Value.bool false) w5)) ∧
                     ((!(ByteArray.toList s9 == ByteArray.toList s12 && ByteArray.toList s10 == ByteArray.toList s13)) = false →
                       (I1 (IntKind.wrap IntKind.i64 (n3 + 1)) w5 ∧
                        I2 (IntKind.wrap IntKind.i64 (n3 + 1)) w5 < I2 n3 w4))))))))))))) ∧
         (decide (n3 < (↑x0n : Int)) = false →
           R (Value.bool true) w4))))))
theorem vc_cartularyref23_Same_ok {x0a : Option Addr} {x0n : Nat} {x0c : Nat} {x1a : Option Addr} {x1n : Nat} {x1c : Nat} {w : World} {R : Value → World → Prop} {R' : Ending → World → Prop} (h : vc_cartularyref23_Same x0a x0n x0c x1a x1n x1c w R) (hR : ∀ v w', R v w' → R' (.returned v) w') :
    Calls Tryd.prog 17 #[.slice x0a x0n x0c, .slice x1a x1n x1c] w R' :=
  calls_of_body (vs := [(.slice x0a x0n x0c, false), (.slice x1a x1n x1c, false)]) (ty := ty) (ann := ⟨[], [(4, [(13, .int .i64)])], [(6, .held [(0, true), (1, true), (2, true), (4, true), (5, true), (6, true), (3, true), (7, true), (8, true)])], []⟩) (c := Tryd.f17.body.getD .skip) (by kernel_rfl) Tryd.func17 (by kernel_rfl) (by kernel_rfl) (Eq.mp (by kernel_rfl) h) hR
/-- cartularyref23.Check -/
def vc_cartularyref23_Check (x0a : Option Addr) (x0n : Nat) (x0c : Nat) (w : World) (R : Value → World → Prop) : Prop :=
  ∃ I1 : Int → Int → World → Prop, ∃ I2 : Int → Int → World → Nat, (I1 0 0 w ∧
   ∀ n3 : Int,
   ∀ n4 : Int,
   ∀ w5 : World,
   (I1 n3 n4 w5 →
     (((decide (n4 < (↑x0n : Int)) = true →
        ((0 ≤ n4 ∧
          n4 < (↑x0n : Int)) ∧
         ∃ a6 : Addr, (x0a = some a6 ∧
          ∃ s7 : ByteArray, ∃ s8 : ByteArray, (Sem.run Tryd.prog (loadVar 37 (Addr.add a6 (Int.toNat n4 * 2))) w5 = Result.ok (Value.agg (Array.mk [Value.string s7, Value.string s8])) w5 ∧
           ∀ w9 : World,
           (w9 = World.alloc w5 (Obj.cells (Array.mk [Value.string (ByteArray.mk (Array.mk [])), Value.string (ByteArray.mk (Array.mk []))]) 37) →
             ∃ w10 : World, (Sem.run Tryd.prog (storeVar 37 (Addr.mk (Array.size (World.heap w5)) 0 none) (Value.agg (Array.mk [Value.string s7, Value.string s8]))) w9 = Result.ok PUnit.unit w10 ∧
              ∃ s11 : ByteArray, (World.cell? w10 (Addr.mk (Array.size (World.heap w5)) 1 none) = some (Value.string s11) ∧
               (I1 (IntKind.wrap IntKind.i64 (n3 + (↑(ByteArray.size s11) : Int))) (IntKind.wrap IntKind.i64 (n4 + 1)) w10 ∧
                I2 (IntKind.wrap IntKind.i64 (n3 + (↑(ByteArray.size s11) : Int))) (IntKind.wrap IntKind.i64 (n4 + 1)) w10 < I2 n3 n4 w5))))))))) ∧
      (decide (n4 < (↑x0n : Int)) = false →
        (((decide ((↑x0n : Int) > 600) = true →
           R (Value.int IntKind.i64 2) w5)) ∧
         (decide ((↑x0n : Int) > 600) = false →
           (((decide (n3 > 1048576) = true →
              R (Value.int IntKind.i64 2) w5)) ∧
            (decide (n3 > 1048576) = false →
              ∃ I12 : Int → World → Prop, ∃ I13 : Int → World → Nat, (I12 0 w5 ∧
               ∀ n14 : Int,
               ∀ w15 : World,
               (I12 n14 w15 →
                 (((decide (n14 < (↑x0n : Int)) = true →
                    ((0 ≤ n14 ∧
                      n14 < (↑x0n : Int)) ∧
                     ∃ a16 : Addr, (x0a = some a16 ∧
                      ∃ s17 : ByteArray, ∃ s18 : ByteArray, (Sem.run Tryd.prog (loadVar 37 (Addr.add a16 (Int.toNat n14 * 2))) w15 = Result.ok (Value.agg (Array.mk [Value.string s17, Value.string s18])) w15 ∧
                       ∀ w19 : World,
                       (w19 = World.alloc w15 (Obj.cells (Array.mk [Value.string (ByteArray.mk (Array.mk [])), Value.string (ByteArray.mk (Array.mk []))]) 37) →
                         ∃ w20 : World, (Sem.run Tryd.prog (storeVar 37 (Addr.mk (Array.size (World.heap w15)) 0 none) (Value.agg (Array.mk [Value.string s17, Value.string s18]))) w19 = Result.ok PUnit.unit w20 ∧
                          ∀ w21 : World,
                          (Drew w20 w21 →
                            ∃ I22 : World → Prop, (I22 w21 ∧
                             ∃ s23 : ByteArray, ((∀ w24 : World,
                              (I22 w24 →
                                World.cell? w24 (Addr.mk (Array.size (World.heap w15)) 0 none) = some (Value.string s23))) ∧
                              Calls Tryd.prog (36 : Nat) (Array.mk [Value.string s23]) (w21) (fun e25 w26 =>
                                ∃ b27 : Bool, (e25 = Ending.returned (Value.bool b27) ∧
                                 (I22 w26 ∧
                                  ((((!b27) = true →
                                     R (Value.int IntKind.i64 4) w26)) ∧
                                   ((!b27) = false →
                                     (((decide (n14 > 0) = true →
                                        ((0 ≤ IntKind.wrap IntKind.i64 (n14 - 1) ∧
                                          IntKind.wrap IntKind.i64 (n14 - 1) < (↑x0n : Int)) ∧
                                         ∃ a28 : Addr, (x0a = some a28 ∧
                                          ∃ s29 : ByteArray, ((∀ w30 : World,
                                           (I22 w30 →
                                             World.cell? w30 (Addr.add a28 (Int.toNat (IntKind.wrap IntKind.i64 (n14 - 1)) * 2)) = some (Value.string s29))) ∧
                                           ∃ s31 : ByteArray, ((∀ w32 : World,
                                            (I22 w32 →
                                              World.cell? w32 (Addr.mk (Array.size (World.heap w15)) 0 none) = some (Value.string s31))) ∧
                                            ((((!Op.bytesLess (ByteArray.toList s29) (ByteArray.toList s31)) = true →
                                               R (Value.int IntKind.i64 4) w26)) ∧
                                             ((!Op.bytesLess (ByteArray.toList s29) (ByteArray.toList s31)) = false →
                                               (I12 (IntKind.wrap IntKind.i64 (n14 + 1)) w26 ∧
                                                I13 (IntKind.wrap IntKind.i64 (n14 + 1)) w26 < I13 n14 w15))))))))) ∧
                                      (decide (n14 > 0) = false →
                                        (I12 (IntKind.wrap IntKind.i64 (n14 + 1)) w26 ∧
                                         I13 (IntKind.wrap IntKind.i64 (n14 + 1)) w26 < I13 n14 w15)))))))))))))))))) ∧
                  (decide (n14 < (↑x0n : Int)) = false →
                    R (Value.int IntKind.i64 0) w15))))))))))))
theorem vc_cartularyref23_Check_ok {x0a : Option Addr} {x0n : Nat} {x0c : Nat} {w : World} {R : Value → World → Prop} {R' : Ending → World → Prop} (h : vc_cartularyref23_Check x0a x0n x0c w R) (hR : ∀ v w', R v w' → R' (.returned v) w') :
    Calls Tryd.prog 14 #[.slice x0a x0n x0c] w R' :=
  calls_of_body (vs := [(.slice x0a x0n x0c, false)]) (ty := ty) (ann := ⟨[], [(3, [(3, .int .i64), (10, .int .i64)]), (10, [(29, .int .i64)])], [(12, .held [(0, true), (1, true), (2, false), (3, true), (4, true), (5, true), (6, true), (7, true), (8, true), (9, true), (10, true), (11, true), (12, true), (13, true), (14, true), (15, true), (16, true), (17, true), (18, true)])], []⟩) (c := Tryd.f14.body.getD .skip) (by kernel_rfl) Tryd.func14 (by kernel_rfl) (by kernel_rfl) (Eq.mp (by kernel_rfl) h) hR
/-- cartularyref23.little -/
def vc_cartularyref23_little (x0 : Int) (x1 : Int) (w : World) (R : Value → World → Prop) : Prop :=
  Calls Tryd.prog (119 : Nat) (Array.mk [Value.int IntKind.u64 (IntKind.wrap IntKind.u64 x0), Value.int IntKind.i64 x1]) (w) (fun e1 w2 =>
    ∃ s3 : ByteArray, (e1 = Ending.returned (Value.string s3) ∧
     R (Value.string s3) w2))
theorem vc_cartularyref23_little_ok {x0 : Int} {x1 : Int} {w : World} {R : Value → World → Prop} {R' : Ending → World → Prop} (h : vc_cartularyref23_little x0 x1 w R) (hR : ∀ v w', R v w' → R' (.returned v) w') :
    Calls Tryd.prog 85 #[.int .i64 x0, .int .i64 x1] w R' :=
  calls_of_body (vs := [(.int .i64 x0, false), (.int .i64 x1, false)]) (ty := ty) (ann := ⟨[], [], [], []⟩) (c := Tryd.f85.body.getD .skip) (by kernel_rfl) Tryd.func85 (by kernel_rfl) (by kernel_rfl) (Eq.mp (by kernel_rfl) h) hR
/-- cartularyref23.Facts -/
def vc_cartularyref23_Facts (x0 : Int) (x1_0 : ByteArray) (x1_1 : ByteArray) (x2 : Int) (w : World) (R : Value → World → Prop) : Prop :=
  ∀ w1 : World,
  (w1 = World.alloc w (Obj.cells (Array.mk [Value.string x1_0, Value.string x1_1]) 37) →
    ∀ w2 : World,
    (Drew w1 w2 →
      ∃ I3 : World → Prop, (I3 w2 ∧
       ∃ s4 : ByteArray, ((∀ w5 : World,
        (I3 w5 →
          World.cell? w5 (Addr.mk (Array.size (World.heap w)) 1 none) = some (Value.string s4))) ∧
        ∃ s6 : ByteArray, ((∀ w7 : World,
         (I3 w7 →
           World.cell? w7 (Addr.mk (Array.size (World.heap w)) 1 none) = some (Value.string s6))) ∧
         ∃ s8 : ByteArray, ((∀ w9 : World,
          (I3 w9 →
            World.cell? w9 (Addr.mk (Array.size (World.heap w)) 0 none) = some (Value.string s8))) ∧
          Calls Tryd.prog (85 : Nat) (Array.mk [Value.int IntKind.i64 (20 : Int), Value.int IntKind.i64 (2 : Int)]) (w2) (fun e10 w11 =>
            ∃ s12 : ByteArray, (e10 = Ending.returned (Value.string s12) ∧
             (I3 w11 ∧
              Calls Tryd.prog (85 : Nat) (Array.mk [Value.int IntKind.i64 (0 : Int), Value.int IntKind.i64 (2 : Int)]) (w11) (fun e13 w14 =>
                ∃ s15 : ByteArray, (e13 = Ending.returned (Value.string s15) ∧
                 (I3 w14 ∧
                  (ByteArray.size s12 + ByteArray.size s15 ≤ 9223372036854775807 ∧
                   Calls Tryd.prog (85 : Nat) (Array.mk [Value.int IntKind.i64 x0, Value.int IntKind.i64 2]) (w14) (fun e16 w17 =>
                     ∃ s18 : ByteArray, (e16 = Ending.returned (Value.string s18) ∧
                      (I3 w17 ∧
                       (ByteArray.size (s12 ++ s15) + ByteArray.size s18 ≤ 9223372036854775807 ∧
                        Calls Tryd.prog (85 : Nat) (Array.mk [Value.int IntKind.i64 (0 : Int), Value.int IntKind.i64 (4 : Int)]) (w17) (fun e19 w20 =>
                          ∃ s21 : ByteArray, (e19 = Ending.returned (Value.string s21) ∧
                           (I3 w20 ∧
                            (ByteArray.size (s12 ++ s15 ++ s18) + ByteArray.size s21 ≤ 9223372036854775807 ∧
                             Calls Tryd.prog (120 : Nat) (Array.mk [Value.string s4]) (w20) (fun e22 w23 =>
                               ∃ n24 : Int, (e22 = Ending.returned (Value.int IntKind.u32 n24) ∧
                                (I3 w23 ∧
                                 Calls Tryd.prog (119 : Nat) (Array.mk [Value.int IntKind.u64 (IntKind.wrap IntKind.u64 n24), Value.int IntKind.i64 4]) (w23) (fun e25 w26 =>
                                   ∃ s27 : ByteArray, (e25 = Ending.returned (Value.string s27) ∧
                                    (I3 w26 ∧
                                     (ByteArray.size (s12 ++ s15 ++ s18 ++ s21) + ByteArray.size s27 ≤ 9223372036854775807 ∧
                                      Calls Tryd.prog (85 : Nat) (Array.mk [Value.int IntKind.i64 x2, Value.int IntKind.i64 4]) (w26) (fun e28 w29 =>
                                        ∃ s30 : ByteArray, (e28 = Ending.returned (Value.string s30) ∧
                                         (I3 w29 ∧
                                          (ByteArray.size (s12 ++ s15 ++ s18 ++ s21 ++ s27) + ByteArray.size s30 ≤ 9223372036854775807 ∧
                                           Calls Tryd.prog (85 : Nat) (Array.mk [Value.int IntKind.i64 (↑(ByteArray.size s6) : Int), Value.int IntKind.i64 4]) (w29) (fun e31 w32 =>
                                             ∃ s33 : ByteArray, (e31 = Ending.returned (Value.string s33) ∧
                                              (I3 w32 ∧
                                               (ByteArray.size (s12 ++ s15 ++ s18 ++ s21 ++ s27 ++ s30) + ByteArray.size s33 ≤ 9223372036854775807 ∧
                                                Calls Tryd.prog (85 : Nat) (Array.mk [Value.int IntKind.i64 (↑(ByteArray.size s8) : Int), Value.int IntKind.i64 2]) (w32) (fun e34 w35 =>
                                                  ∃ s36 : ByteArray, (e34 = Ending.returned (Value.string s36) ∧
                                                   (I3 w35 ∧
                                                    (ByteArray.size (s12 ++ s15 ++ s18 ++ s21 ++ s27 ++ s30 ++ s33) + ByteArray.size s36 ≤ 9223372036854775807 ∧
                                                     Calls Tryd.prog (85 : Nat) (Array.mk [Value.int IntKind.i64 (0 : Int), Value.int IntKind.i64 (2 : Int)]) (w35) (fun e37 w38 =>
                                                       ∃ s39 : ByteArray, (e37 = Ending.returned (Value.string s39) ∧
                                                        (I3 w38 ∧
                                                         (ByteArray.size (s12 ++ s15 ++ s18 ++ s21 ++ s27 ++ s30 ++ s33 ++ s36) + ByteArray.size s39 ≤ 9223372036854775807 ∧
                                                          R (Value.string (s12 ++ s15 ++ s18 ++ s21 ++ s27 ++ s30 ++ s33 ++ s36 ++ s39)) w38))))))))))))))))))))))))))))))))))))))))))))
theorem vc_cartularyref23_Facts_ok {x0 : Int} {x1_0 : ByteArray} {x1_1 : ByteArray} {x2 : Int} {w : World} {R : Value → World → Prop} {R' : Ending → World → Prop} (h : vc_cartularyref23_Facts x0 x1_0 x1_1 x2 w R) (hR : ∀ v w', R v w' → R' (.returned v) w') :
    Calls Tryd.prog 84 #[.int .i64 x0, .agg #[.string x1_0, .string x1_1], .int .i64 x2] w R' :=
  calls_of_body (vs := [(.int .i64 x0, false), (.agg #[.string x1_0, .string x1_1], false), (.int .i64 x2, false)]) (ty := ty) (ann := ⟨[], [], [(1, .held [(3, true), (8, true), (9, true), (14, true), (17, true), (18, true), (19, true), (22, true), (23, true), (24, true), (0, false), (1, false), (2, true), (4, false), (5, true), (6, false), (7, true), (10, false), (11, true), (12, false), (13, true), (15, false), (16, true), (20, false), (21, true), (25, false), (26, true), (27, false), (28, true), (29, true)])], []⟩) (c := Tryd.f84.body.getD .skip) (by kernel_rfl) Tryd.func84 (by kernel_rfl) (by kernel_rfl) (Eq.mp (by kernel_rfl) h) hR
/-- cartularyref23.Archive -/
def vc_cartularyref23_Archive (x0a : Option Addr) (x0n : Nat) (x0c : Nat) (x1a : Option Addr) (x1n : Nat) (x1c : Nat) (x2a : Option Addr) (x2n : Nat) (x2c : Nat) (w : World) (R : Value → World → Prop) : Prop :=
  ∃ I1 : ByteArray → ByteArray → Int → World → Prop, ∃ I2 : ByteArray → ByteArray → Int → World → Nat, (I1 (ByteArray.mk (Array.mk [])) (ByteArray.mk (Array.mk [])) 0 w ∧
   ∀ s3 : ByteArray,
   ∀ s4 : ByteArray,
   ∀ n5 : Int,
   ∀ w6 : World,
   (I1 s3 s4 n5 w6 →
     (((decide (n5 < (↑x0n : Int)) = true →
        ((0 ≤ n5 ∧
          n5 < (↑x0n : Int)) ∧
         ∃ a7 : Addr, (x0a = some a7 ∧
          ∃ s8 : ByteArray, ∃ s9 : ByteArray, (Sem.run Tryd.prog (loadVar 37 (Addr.add a7 (Int.toNat n5 * 2))) w6 = Result.ok (Value.agg (Array.mk [Value.string s8, Value.string s9])) w6 ∧
           ∀ w10 : World,
           (w10 = World.alloc w6 (Obj.cells (Array.mk [Value.string (ByteArray.mk (Array.mk [])), Value.string (ByteArray.mk (Array.mk []))]) 37) →
             ∃ w11 : World, (Sem.run Tryd.prog (storeVar 37 (Addr.mk (Array.size (World.heap w6)) 0 none) (Value.agg (Array.mk [Value.string s8, Value.string s9]))) w10 = Result.ok PUnit.unit w11 ∧
              ∀ w12 : World,
              (Drew w11 w12 →
                ∃ I13 : World → Prop, (I13 w12 ∧
                 ((0 ≤ n5 ∧
                   n5 < (↑x2n : Int)) ∧
                  ∃ a14 : Addr, (x2a = some a14 ∧
                   ∃ n15 : Int, ((∀ w16 : World,
                    (I13 w16 →
                      World.cell? w16 (Addr.add a14 (Int.toNat n5 * 1)) = some (Value.int IntKind.i64 n15))) ∧
                    ((0 ≤ n5 ∧
                      n5 < (↑x1n : Int)) ∧
                     ∃ a17 : Addr, (x1a = some a17 ∧
                      ∃ s18 : ByteArray, ((∀ w19 : World,
                       (I13 w19 →
                         World.cell? w19 (Addr.add a17 (Int.toNat n5 * 1)) = some (Value.string s18))) ∧
                       ∃ s20 : ByteArray, ∃ s21 : ByteArray, ((∀ w22 : World,
                        (I13 w22 →
                          Sem.run Tryd.prog (loadVar 37 (Addr.mk (Array.size (World.heap w6)) 0 none)) w22 = Result.ok (Value.agg (Array.mk [Value.string s20, Value.string s21])) w22)) ∧
                        Calls Tryd.prog (84 : Nat) (Array.mk [Value.int IntKind.i64 n15, Value.agg (Array.mk [Value.string s20, Value.string s21]), Value.int IntKind.i64 (↑(ByteArray.size s18) : Int)]) (w12) (fun e23 w24 =>
                          ∃ s25 : ByteArray, (e23 = Ending.returned (Value.string s25) ∧
                           (I13 w24 ∧
                            ∀ w26 : World,
                            (Drew w24 w26 →
                              ∃ I27 : World → Prop, (I27 w26 ∧
                               ∃ s28 : ByteArray, ((∀ w29 : World,
                                (I27 w29 →
                                  World.cell? w29 (Addr.mk (Array.size (World.heap w6)) 0 none) = some (Value.string s28))) ∧
                                Calls Tryd.prog (85 : Nat) (Array.mk [Value.int IntKind.i64 (20 : Int), Value.int IntKind.i64 (2 : Int)]) (w26) (fun e30 w31 =>
                                  ∃ s32 : ByteArray, (e30 = Ending.returned (Value.string s32) ∧
                                   (I27 w31 ∧
                                    (ByteArray.size (ByteArray.mk (Array.mk [80, 75, 1, 2])) + ByteArray.size s32 ≤ 9223372036854775807 ∧
                                     (ByteArray.size (ByteArray.mk (Array.mk [80, 75, 1, 2]) ++ s32) + ByteArray.size s25 ≤ 9223372036854775807 ∧
                                      Calls Tryd.prog (85 : Nat) (Array.mk [Value.int IntKind.i64 (0 : Int), Value.int IntKind.i64 (10 : Int)]) (w31) (fun e33 w34 =>
                                        ∃ s35 : ByteArray, (e33 = Ending.returned (Value.string s35) ∧
                                         (I27 w34 ∧
                                          (ByteArray.size (ByteArray.mk (Array.mk [80, 75, 1, 2]) ++ s32 ++ s25) + ByteArray.size s35 ≤ 9223372036854775807 ∧
                                           Calls Tryd.prog (85 : Nat) (Array.mk [Value.int IntKind.i64 (↑(ByteArray.size s3) : Int), Value.int IntKind.i64 4]) (w34) (fun e36 w37 =>
                                             ∃ s38 : ByteArray, (e36 = Ending.returned (Value.string s38) ∧
                                              (I27 w37 ∧
                                               (ByteArray.size (ByteArray.mk (Array.mk [80, 75, 1, 2]) ++ s32 ++ s25 ++ s35) + ByteArray.size s38 ≤ 9223372036854775807 ∧
                                                (ByteArray.size (ByteArray.mk (Array.mk [80, 75, 1, 2]) ++ s32 ++ s25 ++ s35 ++ s38) + ByteArray.size s28 ≤ 9223372036854775807 ∧
                                                 (ByteArray.size s4 + ByteArray.size (ByteArray.mk (Array.mk [80, 75, 1, 2]) ++ s32 ++ s25 ++ s35 ++ s38 ++ s28) ≤ 9223372036854775807 ∧
                                                  (ByteArray.size (ByteArray.mk (Array.mk [80, 75, 3, 4])) + ByteArray.size s25 ≤ 9223372036854775807 ∧
                                                   ∃ s39 : ByteArray, (World.cell? w37 (Addr.mk (Array.size (World.heap w6)) 0 none) = some (Value.string s39) ∧
                                                    (ByteArray.size (ByteArray.mk (Array.mk [80, 75, 3, 4]) ++ s25) + ByteArray.size s39 ≤ 9223372036854775807 ∧
                                                     ((0 ≤ n5 ∧
                                                       n5 < (↑x1n : Int)) ∧
                                                      ∃ a40 : Addr, (x1a = some a40 ∧
                                                       ∃ s41 : ByteArray, (World.cell? w37 (Addr.add a40 (Int.toNat n5 * 1)) = some (Value.string s41) ∧
                                                        (ByteArray.size (ByteArray.mk (Array.mk [80, 75, 3, 4]) ++ s25 ++ s39) + ByteArray.size s41 ≤ 9223372036854775807 ∧
                                                         (ByteArray.size s3 + ByteArray.size (ByteArray.mk (Array.mk [80, 75, 3, 4]) ++ s25 ++ s39 ++ s41) ≤ 9223372036854775807 ∧
                                                          ∀ w42 : World,
                                                          (Drew w37 w42 →
                                                            (I1 (s3 ++ (ByteArray.mk (Array.mk [80, 75, 3, 4]) ++ s25 ++ s39 ++ s41)) (s4 ++ (ByteArray.mk (Array.mk [80, 75, 1, 2]) ++ s32 ++ s25 ++ s35 ++ s38 ++ s28)) (IntKind.wrap IntKind.i64 (n5 + 1)) w42 ∧
                                                             I2 (s3 ++ (ByteArray.mk (Array.mk [80, 75, 3, 4]) ++ s25 ++ s39 ++ s41)) (s4 ++ (ByteArray.mk (Array.mk [80, 75, 1, 2]) ++ s32 ++ s25 ++ s35 ++ s38 ++ s28)) (IntKind.wrap IntKind.i64 (n5 + 1)) w42 < I2 s3 s4 n5 w6))))))))))))))))))))))))))))))))))))))))))))))) ∧
      (decide (n5 < (↑x0n : Int)) = false →
        Calls Tryd.prog (85 : Nat) (Array.mk [Value.int IntKind.i64 (↑x0n : Int), Value.int IntKind.i64 2]) (w6) (fun e43 w44 =>
          ∃ s45 : ByteArray, (e43 = Ending.returned (Value.string s45) ∧
           (ByteArray.size s3 + ByteArray.size s4 ≤ 9223372036854775807 ∧
            (ByteArray.size (s3 ++ s4) + ByteArray.size (ByteArray.mk (Array.mk [80, 75, 5, 6])) ≤ 9223372036854775807 ∧
             Calls Tryd.prog (85 : Nat) (Array.mk [Value.int IntKind.i64 (0 : Int), Value.int IntKind.i64 (4 : Int)]) (w44) (fun e46 w47 =>
               ∃ s48 : ByteArray, (e46 = Ending.returned (Value.string s48) ∧
                (ByteArray.size (s3 ++ s4 ++ ByteArray.mk (Array.mk [80, 75, 5, 6])) + ByteArray.size s48 ≤ 9223372036854775807 ∧
                 (ByteArray.size (s3 ++ s4 ++ ByteArray.mk (Array.mk [80, 75, 5, 6]) ++ s48) + ByteArray.size s45 ≤ 9223372036854775807 ∧
                  (ByteArray.size (s3 ++ s4 ++ ByteArray.mk (Array.mk [80, 75, 5, 6]) ++ s48 ++ s45) + ByteArray.size s45 ≤ 9223372036854775807 ∧
                   Calls Tryd.prog (85 : Nat) (Array.mk [Value.int IntKind.i64 (↑(ByteArray.size s4) : Int), Value.int IntKind.i64 4]) (w47) (fun e49 w50 =>
                     ∃ s51 : ByteArray, (e49 = Ending.returned (Value.string s51) ∧
                      (ByteArray.size (s3 ++ s4 ++ ByteArray.mk (Array.mk [80, 75, 5, 6]) ++ s48 ++ s45 ++ s45) + ByteArray.size s51 ≤ 9223372036854775807 ∧
                       Calls Tryd.prog (85 : Nat) (Array.mk [Value.int IntKind.i64 (↑(ByteArray.size s3) : Int), Value.int IntKind.i64 4]) (w50) (fun e52 w53 =>
                         ∃ s54 : ByteArray, (e52 = Ending.returned (Value.string s54) ∧
                          (ByteArray.size (s3 ++ s4 ++ ByteArray.mk (Array.mk [80, 75, 5, 6]) ++ s48 ++ s45 ++ s45 ++ s51) + ByteArray.size s54 ≤ 9223372036854775807 ∧
                           Calls Tryd.prog (85 : Nat) (Array.mk [Value.int IntKind.i64 (0 : Int), Value.int IntKind.i64 (2 : Int)]) (w53) (fun e55 w56 =>
                             ∃ s57 : ByteArray, (e55 = Ending.returned (Value.string s57) ∧
                              (ByteArray.size (s3 ++ s4 ++ ByteArray.mk (Array.mk [80, 75, 5, 6]) ++ s48 ++ s45 ++ s45 ++ s51 ++ s54) + ByteArray.size s57 ≤ 9223372036854775807 ∧
                               R (Value.string (s3 ++ s4 ++ ByteArray.mk (Array.mk [80, 75, 5, 6]) ++ s48 ++ s45 ++ s45 ++ s51 ++ s54 ++ s57)) w56))))))))))))))))))))))
theorem vc_cartularyref23_Archive_ok {x0a : Option Addr} {x0n : Nat} {x0c : Nat} {x1a : Option Addr} {x1n : Nat} {x1c : Nat} {x2a : Option Addr} {x2n : Nat} {x2c : Nat} {w : World} {R : Value → World → Prop} {R' : Ending → World → Prop} (h : vc_cartularyref23_Archive x0a x0n x0c x1a x1n x1c x2a x2n x2c w R) (hR : ∀ v w', R v w' → R' (.returned v) w') :
    Calls Tryd.prog 29 #[.slice x0a x0n x0c, .slice x1a x1n x1c, .slice x2a x2n x2c] w R' :=
  calls_of_body (vs := [(.slice x0a x0n x0c, false), (.slice x1a x1n x1c, false), (.slice x2a x2n x2c, false)]) (ty := ty) (ann := ⟨[], [(3, [(7, .str), (8, .str), (15, .int .i64)])], [(5, .held [(0, true), (1, true), (2, true), (3, true), (5, true), (6, true), (7, true), (8, true), (9, true), (4, true), (10, false), (11, true)]), (6, .held [(0, true), (3, true), (7, true), (8, true), (11, true), (12, true), (1, false), (2, true), (4, true), (5, false), (6, true), (9, false), (10, true), (13, true), (14, true), (15, true)]), (7, .quiet)], []⟩) (c := Tryd.f29.body.getD .skip) (by kernel_rfl) Tryd.func29 (by kernel_rfl) (by kernel_rfl) (Eq.mp (by kernel_rfl) h) hR
/-- cartularyref23.Text -/
def vc_cartularyref23_Text (x0a : Option Addr) (x0n : Nat) (x0c : Nat) (w : World) (R : Value → World → Prop) : Prop :=
  ∀ w1 : World,
  (w1 = World.alloc w (Obj.cells (Array.mk []) 9) →
    ∀ w2 : World,
    (w2 = World.alloc w1 (Obj.cells (Array.mk []) 3) →
      ∃ I3 : Sl → Sl → Int → World → Prop, ∃ I4 : Sl → Sl → Int → World → Nat, (I3 (Sl.mk (some (Addr.mk (Array.size (World.heap w)) 0 none)) 0 0) (Sl.mk (some (Addr.mk (Array.size (World.heap w1)) 0 none)) 0 0) 0 w2 ∧
       ∀ l5 : Sl,
       ∀ l6 : Sl,
       ∀ n7 : Int,
       ∀ w8 : World,
       (I3 l5 l6 n7 w8 →
         (((decide (n7 < (↑x0n : Int)) = true →
            ((0 ≤ n7 ∧
              n7 < (↑x0n : Int)) ∧
             ∃ a9 : Addr, (x0a = some a9 ∧
              ∃ s10 : ByteArray, ∃ s11 : ByteArray, (Sem.run Tryd.prog (loadVar 37 (Addr.add a9 (Int.toNat n7 * 2))) w8 = Result.ok (Value.agg (Array.mk [Value.string s10, Value.string s11])) w8 ∧
               ∀ w12 : World,
               (w12 = World.alloc w8 (Obj.cells (Array.mk [Value.string (ByteArray.mk (Array.mk [])), Value.string (ByteArray.mk (Array.mk []))]) 37) →
                 ∃ w13 : World, (Sem.run Tryd.prog (storeVar 37 (Addr.mk (Array.size (World.heap w8)) 0 none) (Value.agg (Array.mk [Value.string s10, Value.string s11]))) w12 = Result.ok PUnit.unit w13 ∧
                  ∃ s14 : ByteArray, (World.cell? w13 (Addr.mk (Array.size (World.heap w8)) 1 none) = some (Value.string s14) ∧
                   ∀ w15 : World,
                   (w15 = World.alloc w13 (Obj.cells (Array.mk [Value.string s14]) 9) →
                     ∃ w16 : World, ∃ l17 : Sl, (Sem.run Tryd.prog (Builtin.append_ (Array.mk [55, 55]) 55 (Array.mk [Value.slice l5.1 l5.2 l5.3, Value.slice (some (Addr.mk (Array.size (World.heap w13)) 0 none)) 1 1])) w15 = Result.ok (Value.slice l17.1 l17.2 l17.3) w16 ∧
                      ∀ w18 : World,
                      (w18 = World.alloc w16 (Obj.cells (Array.mk [Value.int IntKind.i64 0]) 3) →
                        ∃ w19 : World, ∃ l20 : Sl, (Sem.run Tryd.prog (Builtin.append_ (Array.mk [56, 56]) 56 (Array.mk [Value.slice l6.1 l6.2 l6.3, Value.slice (some (Addr.mk (Array.size (World.heap w16)) 0 none)) 1 1])) w18 = Result.ok (Value.slice l20.1 l20.2 l20.3) w19 ∧
                         (I3 (Sl.mk l17.1 l17.2 l17.3) (Sl.mk l20.1 l20.2 l20.3) (IntKind.wrap IntKind.i64 (n7 + 1)) w19 ∧
                          I4 (Sl.mk l17.1 l17.2 l17.3) (Sl.mk l20.1 l20.2 l20.3) (IntKind.wrap IntKind.i64 (n7 + 1)) w19 < I4 l5 l6 n7 w8))))))))))))) ∧
          (decide (n7 < (↑x0n : Int)) = false →
            Calls Tryd.prog (29 : Nat) (Array.mk [Value.slice x0a x0n x0c, Value.slice l5.1 l5.2 l5.3, Value.slice l6.1 l6.2 l6.3]) (w8) (fun e21 w22 =>
              ∃ s23 : ByteArray, (e21 = Ending.returned (Value.string s23) ∧
               R (Value.string s23) w22))))))))
theorem vc_cartularyref23_Text_ok {x0a : Option Addr} {x0n : Nat} {x0c : Nat} {w : World} {R : Value → World → Prop} {R' : Ending → World → Prop} (h : vc_cartularyref23_Text x0a x0n x0c w R) (hR : ∀ v w', R v w' → R' (.returned v) w') :
    Calls Tryd.prog 19 #[.slice x0a x0n x0c] w R' :=
  calls_of_body (vs := [(.slice x0a x0n x0c, false)]) (ty := ty) (ann := ⟨[], [(3, [(3, .slice), (4, .slice), (11, .int .i64)])], [], []⟩) (c := Tryd.f19.body.getD .skip) (by kernel_rfl) Tryd.func19 (by kernel_rfl) (by kernel_rfl) (Eq.mp (by kernel_rfl) h) hR
/-- cartularyref01.Little -/
def vc_cartularyref01_Little (x0 : Int) (x1 : Int) (w : World) (R : Value → World → Prop) : Prop :=
  ∀ w1 : World,
  (w1 = World.alloc w (Obj.cells (Array.mk []) 5) →
    ∃ I2 : Int → Sl → Int → World → Prop, ∃ I3 : Int → Sl → Int → World → Nat, (I2 x0 (Sl.mk (some (Addr.mk (Array.size (World.heap w)) 0 none)) 0 0) 0 w1 ∧
     ∀ n4 : Int,
     ∀ l5 : Sl,
     ∀ n6 : Int,
     ∀ w7 : World,
     (I2 n4 l5 n6 w7 →
       (((decide (n6 < x1) = true →
          ((256 : Int) ≠ (0 : Int) ∧
           ∀ w8 : World,
           (w8 = World.alloc w7 (Obj.cells (Array.mk [Value.int IntKind.u8 (IntKind.wrap IntKind.u8 (Int.tmod n4 256))]) 5) →
             ∃ w9 : World, ∃ l10 : Sl, (Sem.run Tryd.prog (Builtin.append_ (Array.mk [35, 35]) 35 (Array.mk [Value.slice l5.1 l5.2 l5.3, Value.slice (some (Addr.mk (Array.size (World.heap w7)) 0 none)) 1 1])) w8 = Result.ok (Value.slice l10.1 l10.2 l10.3) w9 ∧
              ((256 : Int) ≠ (0 : Int) ∧
               (I2 (IntKind.wrap IntKind.u64 (Int.tdiv n4 256)) (Sl.mk l10.1 l10.2 l10.3) (IntKind.wrap IntKind.i64 (n6 + 1)) w9 ∧
                I3 (IntKind.wrap IntKind.u64 (Int.tdiv n4 256)) (Sl.mk l10.1 l10.2 l10.3) (IntKind.wrap IntKind.i64 (n6 + 1)) w9 < I3 n4 l5 n6 w7))))))) ∧
        (decide (n6 < x1) = false →
          ∃ w11 : World, ∃ s12 : ByteArray, (Sem.run Tryd.prog (convert 35 9 (Value.slice l5.1 l5.2 l5.3)) w7 = Result.ok (Value.string s12) w11 ∧
           R (Value.string s12) w11))))))
theorem vc_cartularyref01_Little_ok {x0 : Int} {x1 : Int} {w : World} {R : Value → World → Prop} {R' : Ending → World → Prop} (h : vc_cartularyref01_Little x0 x1 w R) (hR : ∀ v w', R v w' → R' (.returned v) w') :
    Calls Tryd.prog 119 #[.int .u64 x0, .int .i64 x1] w R' :=
  calls_of_body (vs := [(.int .u64 x0, false), (.int .i64 x1, false)]) (ty := ty) (ann := ⟨[], [(3, [(0, .int .u64), (5, .slice), (6, .int .i64)])], [], []⟩) (c := Tryd.f119.body.getD .skip) (by kernel_rfl) Tryd.func119 (by kernel_rfl) (by kernel_rfl) (Eq.mp (by kernel_rfl) h) hR
/-- cartularyref01.Crc32 -/
def vc_cartularyref01_Crc32 (x0 : ByteArray) (w : World) (R : Value → World → Prop) : Prop :=
  ∃ I1 : Int → Int → World → Prop, ∃ I2 : Int → Int → World → Nat, (I1 4294967295 0 w ∧
   ∀ n3 : Int,
   ∀ n4 : Int,
   ∀ w5 : World,
   (I1 n3 n4 w5 →
     (((decide (n4 < (↑(ByteArray.size x0) : Int)) = true →
        ∃ I6 : Int → Int → World → Prop, ∃ I7 : Int → Int → World → Nat, (I6 n3 0 w5 ∧
         ∀ n8 : Int,
         ∀ n9 : Int,
         ∀ w10 : World,
         (I6 n8 n9 w10 →
           (((decide (n9 < 8) = true →
              ((0 ≤ n4 ∧
                n4 < (↑(ByteArray.size x0) : Int)) ∧
               (0 ≤ n9 ∧
                ((0 : Int) ≤ (1 : Int) ∧
                 ((((IntKind.wrap IntKind.u32 (↑(BitVec.toNat (BitVec.ofInt 32 (IntKind.wrap IntKind.u32 (↑(BitVec.toNat (BitVec.ofInt 32 n8 ^^^ BitVec.ofInt 32 (IntKind.wrap IntKind.u32 (Int.fdiv (byteAt x0 n4) (2 ^ min (Int.toNat n9) 8))))) : Int)) &&& BitVec.ofInt 32 1)) : Int) == 1) = true →
                    (I6 (IntKind.wrap IntKind.u32 (↑(BitVec.toNat (BitVec.ofInt 32 (Int.fdiv n8 (2 ^ min (Int.toNat 1) 32)) ^^^ BitVec.ofInt 32 3988292384)) : Int)) (IntKind.wrap IntKind.i64 (n9 + 1)) w10 ∧
                     I7 (IntKind.wrap IntKind.u32 (↑(BitVec.toNat (BitVec.ofInt 32 (Int.fdiv n8 (2 ^ min (Int.toNat 1) 32)) ^^^ BitVec.ofInt 32 3988292384)) : Int)) (IntKind.wrap IntKind.i64 (n9 + 1)) w10 < I7 n8 n9 w10))) ∧
                  ((IntKind.wrap IntKind.u32 (↑(BitVec.toNat (BitVec.ofInt 32 (IntKind.wrap IntKind.u32 (↑(BitVec.toNat (BitVec.ofInt 32 n8 ^^^ BitVec.ofInt 32 (IntKind.wrap IntKind.u32 (Int.fdiv (byteAt x0 n4) (2 ^ min (Int.toNat n9) 8))))) : Int)) &&& BitVec.ofInt 32 1)) : Int) == 1) = false →
                    (I6 (Int.fdiv n8 (2 ^ min (Int.toNat 1) 32)) (IntKind.wrap IntKind.i64 (n9 + 1)) w10 ∧
                     I7 (Int.fdiv n8 (2 ^ min (Int.toNat 1) 32)) (IntKind.wrap IntKind.i64 (n9 + 1)) w10 < I7 n8 n9 w10)))))))) ∧
            (decide (n9 < 8) = false →
              (I1 n8 (IntKind.wrap IntKind.i64 (n4 + 1)) w10 ∧
               I2 n8 (IntKind.wrap IntKind.i64 (n4 + 1)) w10 < I2 n3 n4 w5))))))) ∧
      (decide (n4 < (↑(ByteArray.size x0) : Int)) = false →
        R (Value.int IntKind.u32 (IntKind.wrap IntKind.u32 (↑(BitVec.toNat (BitVec.ofInt 32 n3 ^^^ BitVec.ofInt 32 4294967295)) : Int))) w5))))
theorem vc_cartularyref01_Crc32_ok {x0 : ByteArray} {w : World} {R : Value → World → Prop} {R' : Ending → World → Prop} (h : vc_cartularyref01_Crc32 x0 w R) (hR : ∀ v w', R v w' → R' (.returned v) w') :
    Calls Tryd.prog 120 #[.string x0] w R' :=
  calls_of_body (vs := [(.string x0, false)]) (ty := ty) (ann := ⟨[], [(3, [(3, .int .u32), (4, .int .i64)]), (6, [(3, .int .u32), (5, .int .i64)])], [], []⟩) (c := Tryd.f120.body.getD .skip) (by kernel_rfl) Tryd.func120 (by kernel_rfl) (by kernel_rfl) (Eq.mp (by kernel_rfl) h) hR
end Go.Proofs.YtfoeooddnmppnaaDoor

/- The reference's Crc32, bit by bit. Condition: the text is no longer than memory. -/
set_option linter.unusedVariables false
namespace Go.Proofs.YtfoeooddnmppnaaDoor
open Go Vc Go.Proofs

theorem and_one_cases (s : BitVec 32) : s &&& 1#32 = 1#32 ∨ s &&& 1#32 = 0#32 := by
  have h : (s &&& 1#32).toNat = s.toNat % 2 := by
    rw [BitVec.toNat_and]; exact Nat.and_one_is_mod _
  rcases Nat.mod_two_eq_zero_or_one s.toNat with h0 | h0
  · right; apply BitVec.eq_of_toNat_eq; rw [h, h0]; rfl
  · left; apply BitVec.eq_of_toNat_eq; rw [h, h0]; rfl
theorem crcBit_alt (s y : BitVec 32) : crcBit s ^^^ (y >>> 1) = if s &&& 1#32 = 1#32 then ((s ^^^ y) >>> 1) ^^^ 3988292384#32 else (s ^^^ y) >>> 1 := by
  unfold crcBit
  rcases and_one_cases s with h | h
  · rw [if_pos h, h, BitVec.ushiftRight_xor_distrib, show (0 : BitVec 32) - 1#32 = BitVec.allOnes 32 by decide, BitVec.and_allOnes, BitVec.xor_assoc, BitVec.xor_assoc, BitVec.xor_comm (3988292384#32)]
  · rw [if_neg (by rw [h]; decide), h, BitVec.ushiftRight_xor_distrib, show (0 : BitVec 32) - 0#32 = 0#32 by decide, BitVec.and_zero, BitVec.xor_zero]
theorem byte_hi (x : UInt8) : BitVec.ofInt 32 ((x.toNat : Nat) : Int) >>> 8 = 0#32 := by
  apply BitVec.eq_of_toNat_eq
  rw [BitVec.toNat_ushiftRight, bv_nat 32 _ (by have := x.toNat_lt; omega), Nat.shiftRight_eq_div_pow]
  have := x.toNat_lt
  show x.toNat / 256 = 0
  omega
theorem rcrc_spec (s : ByteArray) (hs : s.size ≤ 140737488355328) (w : World) : Calls Tryd.prog F_cartularyref01_Crc32 #[.string s] w fun e w' => e = .returned (.int .u32 ((crcW s.data.toList).toNat : Int)) ∧ w' = w := by
  refine vc_cartularyref01_Crc32_ok (R := fun v w' => v = .int .u32 ((crcW s.data.toList).toNat : Int) ∧ w' = w) ?_ (fun v w' h => ⟨by rw [h.1], h.2⟩)
  obtain ⟨L, hL⟩ : ∃ L, s.data.toList = L := ⟨_, rfl⟩
  have hLl : L.length = s.size := by rw [← hL, bs_len]
  refine ⟨fun c i w' => ∃ k : Nat, i = k ∧ k ≤ L.length ∧ c = ((crcRun (L.take k)).toNat : Int) ∧ w' = w, fun _ i _ => L.length - i.toNat, ⟨0, rfl, Nat.zero_le _, rfl, rfl⟩, ?_⟩
  rintro c i w5 ⟨k, rfl, hk, rfl, hw⟩
  subst hw
  refine ⟨fun hlt => ?_, fun hge => ?_⟩
  · have hlt := of_decide_eq_true hlt
    have hkl : k < L.length := by omega
    have htk : L.take (k + 1) = L.take k ++ [L[k]] := (List.take_append_getElem hkl).symm
    have hbk : byteAt s (k : Int) = (((L[k]).toNat : Nat) : Int) := by
      rw [byteAt_nat, bs_byt (by omega)]
      have : s.data.toList[k]? = some L[k] := by rw [hL]; exact List.getElem?_eq_getElem hkl
      rw [List.getElem?_eq_getElem (by rw [bs_len]; omega)] at this
      rw [Option.some.inj this]
    generalize L[k] = x at htk hbk
    have hx := UInt8.toNat_lt x
    have e1 : IntKind.i64.wrap ((k : Int) + 1) = ((k + 1 : Nat) : Int) := by rw [wrap_i64 (by omega) (by omega)]; omega
    rw [hbk, e1]
    obtain ⟨X, hX⟩ : ∃ X : BitVec 32, BitVec.ofInt 32 ((x.toNat : Nat) : Int) = X := ⟨_, rfl⟩
    have hXn : ((x.toNat : Nat) : Int) = (X.toNat : Int) := by rw [← hX, bv_nat 32 _ (by omega)]
    refine ⟨fun c j w' => ∃ q : Nat, j = q ∧ q ≤ 8 ∧ c = ((crcBits q (crcRun (L.take k) ^^^ X) ^^^ (X >>> q)).toNat : Int) ∧ w' = w5, fun _ j _ => 8 - j.toNat, ⟨0, rfl, by decide, by
      show _ = (((crcRun (L.take k) ^^^ X) ^^^ (X >>> 0)).toNat : Int)
      rw [BitVec.ushiftRight_zero, BitVec.xor_assoc, BitVec.xor_self, BitVec.xor_zero], rfl⟩, ?_⟩
    rintro c j w10 ⟨q, rfl, hq, rfl, hw⟩
    subst hw
    have e2 : IntKind.i64.wrap ((q : Int) + 1) = ((q + 1 : Nat) : Int) := by rw [wrap_i64 (by omega) (by omega)]; omega
    rw [e2]
    refine ⟨fun hlt8 => ?_, fun hge8 => ?_⟩
    · have hq8 := of_decide_eq_true hlt8
      have hsh : Int.fdiv ((x.toNat : Nat) : Int) (2 ^ min (Int.toNat (q : Int)) 8) = ((X >>> q).toNat : Int) := by
        have := u_shr X q (by omega)
        rw [hXn, Int.toNat_natCast, Nat.min_eq_left (by omega)]
        rw [Nat.min_eq_left (by omega)] at this
        exact this
      have h1 : Int.toNat 1 = 1 := rfl
      have o1 : BitVec.ofInt 32 1 = 1#32 := rfl
      have o2 : BitVec.ofInt 32 3988292384 = 3988292384#32 := rfl
      have hnext : crcBits (q + 1) (crcRun (L.take k) ^^^ X) ^^^ (X >>> (q + 1)) = if crcBits q (crcRun (L.take k) ^^^ X) &&& 1#32 = 1#32 then ((crcBits q (crcRun (L.take k) ^^^ X) ^^^ (X >>> q)) >>> 1) ^^^ 3988292384#32 else (crcBits q (crcRun (L.take k) ^^^ X) ^^^ (X >>> q)) >>> 1 := by
        rw [crcBits, BitVec.shiftRight_add]; exact crcBit_alt _ _
      generalize crcBits q (crcRun (L.take k) ^^^ X) = t at hnext ⊢
      have hmeas : 8 - (((q + 1 : Nat) : Int)).toNat < 8 - ((q : Int)).toNat := by omega
      rw [hsh, h1, u_shr _ 1 (by decide)]
      simp only [u_wrap, u_of, o1, o2]
      rw [BitVec.xor_assoc t, BitVec.xor_self, BitVec.xor_zero]
      refine ⟨⟨by omega, by omega⟩, by omega, by decide, fun hb => ⟨⟨q + 1, rfl, by omega, ?_, trivial⟩, hmeas⟩, fun hb => ⟨⟨q + 1, rfl, by omega, ?_, trivial⟩, hmeas⟩⟩
      · have hb : ((t &&& 1#32).toNat : Int) = 1 := by simpa using hb
        rw [hnext, if_pos (BitVec.eq_of_toNat_eq (by show _ = 1; omega))]
      · have hb : ¬ ((t &&& 1#32).toNat : Int) = 1 := by simpa using hb
        rw [hnext, if_neg (fun h => hb (by rw [h]; rfl))]
    · have hq8 : q = 8 := by have := of_decide_eq_false hge8; omega
      subst hq8
      refine ⟨⟨k + 1, rfl, by omega, ?_, rfl⟩, by dsimp only; omega⟩
      rw [← hX, byte_hi, BitVec.xor_zero, htk]
      unfold crcRun
      rw [List.foldl_append]
      rfl
  · have hge := of_decide_eq_false hge
    have hk' : k = L.length := by omega
    rw [hk', List.take_length]
    have o1 : BitVec.ofInt 32 4294967295 = BitVec.allOnes 32 := by decide
    refine ⟨?_, rfl⟩
    rw [o1, u_of, u_wrap, hL, BitVec.xor_comm]; rfl
end Go.Proofs.YtfoeooddnmppnaaDoor

/- Files in memory: a row of structs of two texts. No condition. -/
set_option linter.unusedVariables false
namespace Go.Proofs.YtfoeooddnmppnaaDoor
open Go Vc Go.Proofs

structure FileE where
  path : ByteArray
  data : ByteArray
instance : Inhabited FileE := ⟨⟨⟨#[]⟩, ⟨#[]⟩⟩⟩
def encF (f : FileE) : List Value := [.string f.path, .string f.data]
theorem elF : ElK encF 2 Tryd.prog T_S_api_File T_api_File (.agg #[.string ⟨#[]⟩, .string ⟨#[]⟩]) 32 :=
  ⟨by kernel_rfl, by kernel_rfl, rfl, by decide, by kernel_rfl, fun _ => rfl, fun x u hu => by
    simp only [encF, List.mem_cons, List.mem_nil_iff, or_false] at hu
    rcases hu with rfl | rfl <;> rfl⟩
theorem boxF_run (w : World) (x : FileE) : (storeVar T_api_File ⟨w.heap.size, 0, none⟩ (.agg #[.string x.path, .string x.data])).run Tryd.prog (w.alloc (.cells #[.string ⟨#[]⟩, .string ⟨#[]⟩] T_api_File)) = .ok () (w.alloc (.cells (encF x).toArray T_api_File)) :=
  run_storeVar_new w T_api_File _ _ (by kernel_rfl) rfl (by simp [Value.oneCell'])
theorem boxF_cell (w : World) (x : FileE) {w' : World} {X : Nat → Prop} (hf : Fr X (w.alloc (.cells (encF x).toArray T_api_File)) w') (hx : ¬ X w.heap.size) {j : Nat} {v : Value} (hv : (encF x)[j]? = some v) : w'.cell? ⟨w.heap.size, j, none⟩ = some v :=
  hf.cell (by rw [cell_blk (alloc_new w _)]; simpa using hv) hx
def totalF (xs : List FileE) : Nat := (xs.map fun x => x.data.size).sum
theorem totalF_take {xs : List FileE} {k : Nat} {x : FileE} (h : xs[k]? = some x) : totalF (xs.take (k + 1)) = totalF (xs.take k) + x.data.size := by
  unfold totalF
  rw [List.take_add_one, h, List.map_append, List.sum_append]; simp
theorem totalF_le (xs : List FileE) (k : Nat) : totalF (xs.take k) ≤ totalF xs := by
  have : totalF xs = totalF (xs.take k) + totalF (xs.drop k) := by
    unfold totalF
    rw [← List.sum_append, ← List.map_append, List.take_append_drop]
  omega
end Go.Proofs.YtfoeooddnmppnaaDoor

/- Numbers as bytes, Adler's sum: in plain. No condition. -/
set_option linter.unusedVariables false
namespace SumM
/-- One byte more. -/
def adl1 (x : Nat × Nat) (c : UInt8) : Nat × Nat := ((x.1 + c.toNat) % 65521, (x.2 + (x.1 + c.toNat) % 65521) % 65521)
def adl (l : List UInt8) : Nat × Nat := l.foldl adl1 (1, 0)
/-- Adler's sum. -/
def adler (l : List UInt8) : Nat := 65536 * (adl l).2 + (adl l).1
theorem adl_snoc (l : List UInt8) (c : UInt8) : adl (l ++ [c]) = adl1 (adl l) c := by
  unfold adl; rw [List.foldl_append]; rfl
theorem adl_lt (l : List UInt8) : (adl l).1 < 65521 ∧ (adl l).2 < 65521 := by
  rcases List.eq_nil_or_concat l with rfl | ⟨r, c, rfl⟩
  · decide
  · rw [List.concat_eq_append, adl_snoc]
    exact ⟨Nat.mod_lt _ (by decide), Nat.mod_lt _ (by decide)⟩
theorem adler_lt (l : List UInt8) : adler l < 4294967296 := by
  have := adl_lt l
  unfold adler; omega
/-- The highest first, of n bytes. -/
def bigB (n x : Nat) : List UInt8 := (List.range n).map fun i => UInt8.ofNat (x / 256 ^ (n - 1 - i))
/-- The lowest first. -/
def littleB (n x : Nat) : List UInt8 := (List.range n).map fun i => UInt8.ofNat (x / 256 ^ i)
theorem bigB_length (n x : Nat) : (bigB n x).length = n := by simp [bigB]
theorem littleB_length (n x : Nat) : (littleB n x).length = n := by simp [littleB]
theorem littleB_succ (n x : Nat) : littleB (n + 1) x = littleB n x ++ [UInt8.ofNat (x / 256 ^ n)] := by
  unfold littleB; rw [List.range_succ, List.map_append]; rfl
theorem big_little (n x : Nat) : (littleB n x).reverse = bigB n x := by
  refine List.ext_getElem (by simp [bigB, littleB]) fun k h1 h2 => ?_
  rw [bigB_length] at h2
  simp only [List.getElem_reverse, littleB, bigB, List.getElem_map, List.getElem_range, List.length_map, List.length_range]
/-- The number of bytes, the highest first. -/
def num8 (l : List UInt8) : Nat := l.foldl (fun x c => 256 * x + c.toNat) 0
theorem num8_snoc (l : List UInt8) (c : UInt8) : num8 (l ++ [c]) = 256 * num8 l + c.toNat := by
  unfold num8; rw [List.foldl_append]; rfl
theorem num8_lt : ∀ (n : Nat) (l : List UInt8), l.length = n → num8 l < 256 ^ n
  | 0, l, h => by
    have : l = [] := List.length_eq_zero_iff.1 h
    subst this; decide
  | n + 1, l, h => by
    rcases List.eq_nil_or_concat l with rfl | ⟨r, c, rfl⟩
    · cases h
    · rw [List.concat_eq_append] at h ⊢
      rw [List.length_append, List.length_singleton] at h
      have h1 := num8_lt n r (by omega)
      have h2 := c.toNat_lt
      rw [num8_snoc, Nat.pow_succ]
      omega
theorem ofNat_eq {x y : Nat} (h : x % 256 = y % 256) : UInt8.ofNat x = UInt8.ofNat y := by
  rw [← UInt8.toNat_inj]; simpa using h
theorem bigB_succ (n x : Nat) : bigB (n + 1) x = bigB n (x / 256) ++ [UInt8.ofNat x] := by
  unfold bigB
  rw [List.range_succ, List.map_append]
  congr 1
  · refine List.map_congr_left fun i hi => ?_
    have hi := List.mem_range.1 hi
    rw [Nat.div_div_eq_div_mul, show n + 1 - 1 - i = (n - 1 - i) + 1 by omega, Nat.pow_succ, Nat.mul_comm]
  · simp
/-- A number of so many bytes says these bytes. -/
theorem bigB_num8 : ∀ (n : Nat) (l : List UInt8), l.length = n → bigB n (num8 l) = l
  | 0, l, h => by
    have : l = [] := List.length_eq_zero_iff.1 h
    subst this; rfl
  | n + 1, l, h => by
    rcases List.eq_nil_or_concat l with rfl | ⟨r, c, rfl⟩
    · cases h
    · rw [List.concat_eq_append] at h ⊢
      rw [List.length_append, List.length_singleton] at h
      have h2 := c.toNat_lt
      rw [num8_snoc, bigB_succ, show (256 * num8 r + c.toNat) / 256 = num8 r by omega, bigB_num8 n r (by omega)]
      congr 2
      rw [← UInt8.toNat_inj]
      simp
theorem num8_bigB : ∀ (n x : Nat), x < 256 ^ n → num8 (bigB n x) = x
  | 0, x, h => by have : x = 0 := by simpa using h
                  subst this; rfl
  | n + 1, x, h => by
    rw [Nat.pow_succ] at h
    rw [bigB_succ, num8_snoc, num8_bigB n (x / 256) (by omega)]
    simp; omega
end SumM
namespace Go.Proofs.YtfoeooddnmppnaaDoor
open Go Vc SumM Go.Proofs

theorem take_byt (s : ByteArray) {n : Nat} (h : n < s.size) : s.data.toList.take (n + 1) = s.data.toList.take n ++ [UInt8.ofNat (byt s n)] := by
  have hlt : n < s.data.toList.length := by simp only [Array.length_toList]; exact h
  have hb : byt s n = (s.data.toList[n]).toNat := by unfold byt; rw [List.getElem?_eq_getElem hlt]; rfl
  rw [List.take_succ_eq_append_getElem hlt, hb, UInt8.ofNat_toNat]
theorem take_size (s : ByteArray) : s.data.toList.take s.size = s.data.toList := List.take_of_length_le (by simp)
theorem toNat_byt (s : ByteArray) (n : Nat) : (UInt8.ofNat (byt s n)).toNat = byt s n := by
  have := byt_lt s n
  simp; omega
theorem byteV_wrap (l : List UInt8) (z : Int) (hz : 0 ≤ z) : byteV l ++ [.int .u8 (IntKind.u8.wrap z)] = byteV (l ++ [UInt8.ofNat z.toNat]) := by
  obtain ⟨x, rfl⟩ := Int.eq_ofNat_of_zero_le hz
  rw [wrap_u8_mod, show ((x : Int) % 256) = ((x % 256 : Nat) : Int) by omega, byteV_snoc l (x % 256) (Nat.mod_lt _ (by decide)), Int.toNat_natCast, ofNat_eq (Nat.mod_mod _ _)]
theorem shift_byte (x k : Nat) : Int.fdiv (x : Int) (2 ^ min (((8 * k : Nat) : Int)).toNat 64) = (if k ≤ 8 then ((x / 256 ^ k : Nat) : Int) else ((x / 2 ^ 64 : Nat) : Int)) := by
  have hc : ∀ j : Nat, (2 : Int) ^ j = ((2 ^ j : Nat) : Int) := fun j => by push_cast; rfl
  split
  · rw [show min (((8 * k : Nat) : Int)).toNat 64 = 8 * k by omega, hc, Int.fdiv_eq_ediv_of_nonneg _ (Int.natCast_nonneg _), ← Int.natCast_ediv, Nat.pow_mul]
  · rw [show min (((8 * k : Nat) : Int)).toNat 64 = 64 by omega, hc, Int.fdiv_eq_ediv_of_nonneg _ (Int.natCast_nonneg _), ← Int.natCast_ediv]
theorem bigB_get {n x i : Nat} (h : i < n) : (bigB n x).take (i + 1) = (bigB n x).take i ++ [UInt8.ofNat (x / 256 ^ (n - 1 - i))] := by
  rw [List.take_succ_eq_append_getElem (by rw [bigB_length]; exact h)]
  simp [bigB]
theorem pow_big {x k : Nat} (hx : x < 18446744073709551616) (h : 8 ≤ k) : x / 256 ^ k = 0 := by
  refine Nat.div_eq_of_lt ?_
  have : 256 ^ 8 ≤ 256 ^ k := Nat.pow_le_pow_right (by decide) h
  omega
theorem littleB_get {n x i : Nat} (h : i < n) : (littleB n x).take (i + 1) = (littleB n x).take i ++ [UInt8.ofNat (x / 256 ^ i)] := by
  rw [List.take_succ_eq_append_getElem (by rw [littleB_length]; exact h)]
  simp [littleB]
end Go.Proofs.YtfoeooddnmppnaaDoor

/- An archive of stored files, in plain. No condition. -/
set_option linter.unusedVariables false
namespace Go.Proofs.YtfoeooddnmppnaaDoor
open Go Vc SumM Go.Proofs

/-- Is a file right behind the one ahead of it? -/
def okZ (ys : List FileE) (i : Nat) : Bool := match ys[i]? with
  | some y => cleanB y.path && (decide (i = 0) || match ys[i - 1]? with
    | some x => decide (x.path.data.toList < y.path.data.toList)
    | none => true)
  | none => true
def zchk (ys : List FileE) : Int := if 600 < ys.length ∨ 1048576 < totalF ys then 2 else if (List.range ys.length).all (okZ ys) = true then 0 else 4
/-- What local and central head say alike. -/
def factsL (method crc packed size name : Nat) : List UInt8 := littleB 2 20 ++ (littleB 2 0 ++ (littleB 2 method ++ (littleB 2 0 ++ (littleB 2 0 ++ (littleB 4 crc ++ (littleB 4 packed ++ (littleB 4 size ++ (littleB 2 name ++ littleB 2 0))))))))
theorem factsL_len (a b c d e : Nat) : (factsL a b c d e).length = 26 := by
  unfold factsL
  simp only [List.length_append, littleB_length]
def factF (f : FileE) : List UInt8 := factsL 0 (crcW f.data.data.toList).toNat f.data.size f.data.size f.path.size
def locL (f : FileE) : List UInt8 := [80, 75, 3, 4] ++ (factF f ++ (f.path.data.toList ++ f.data.data.toList))
def cenL (f : FileE) (off : Nat) : List UInt8 := [80, 75, 1, 2] ++ (littleB 2 20 ++ (factF f ++ (littleB 2 0 ++ (littleB 2 0 ++ (littleB 2 0 ++ (littleB 4 0 ++ (littleB 4 off ++ f.path.data.toList)))))))
def outL (ys : List FileE) : List UInt8 := ys.flatMap locL
def idxL : Nat → List FileE → List UInt8
  | _, [] => []
  | off, f :: r => cenL f off ++ idxL (off + (locL f).length) r
def endL (n ni no : Nat) : List UInt8 := [80, 75, 5, 6] ++ (littleB 2 0 ++ (littleB 2 0 ++ (littleB 2 n ++ (littleB 2 n ++ (littleB 4 ni ++ (littleB 4 no ++ littleB 2 0))))))
def zipL (ys : List FileE) : List UInt8 := outL ys ++ (idxL 0 ys ++ endL ys.length (idxL 0 ys).length (outL ys).length)
theorem locL_len (f : FileE) : (locL f).length = 30 + f.path.size + f.data.size := by
  unfold locL factF
  simp only [List.length_append, factsL_len, bs_len, List.length_cons, List.length_nil]; omega
theorem cenL_len (f : FileE) (off : Nat) : (cenL f off).length = 46 + f.path.size := by
  unfold cenL factF
  simp only [List.length_append, factsL_len, littleB_length, bs_len, List.length_cons, List.length_nil]; omega
theorem outL_snoc (ys : List FileE) (f : FileE) : outL (ys ++ [f]) = outL ys ++ locL f := by unfold outL; rw [List.flatMap_append]; simp
theorem idxL_snoc (f : FileE) : ∀ (off : Nat) (ys : List FileE), idxL off (ys ++ [f]) = idxL off ys ++ cenL f (off + (outL ys).length)
  | off, [] => by simp [idxL, outL]
  | off, y :: r => by
    rw [List.cons_append, idxL, idxL, idxL_snoc f _ r]
    unfold outL
    rw [List.flatMap_cons, List.length_append, ← List.append_assoc, Nat.add_assoc]
theorem outL_len {B : Nat} : ∀ ys : List FileE, (∀ y ∈ ys, y.path.size ≤ B) → (outL ys).length ≤ ys.length * (30 + B) + totalF ys
  | [], _ => Nat.zero_le _
  | y :: r, h => by
    have ih := outL_len r fun z hz => h z (List.mem_cons_of_mem _ hz)
    have h1 := h y List.mem_cons_self
    unfold outL totalF at *
    rw [List.flatMap_cons, List.length_append, locL_len, List.length_cons, Nat.succ_mul, List.map_cons, List.sum_cons]; omega
theorem idxL_len {B : Nat} : ∀ (off : Nat) (ys : List FileE), (∀ y ∈ ys, y.path.size ≤ B) → (idxL off ys).length ≤ ys.length * (46 + B)
  | _, [], _ => Nat.zero_le _
  | off, y :: r, h => by
    have ih := idxL_len (off + (locL y).length) r fun z hz => h z (List.mem_cons_of_mem _ hz)
    have h1 := h y List.mem_cons_self
    rw [idxL, List.length_append, cenL_len, List.length_cons, Nat.succ_mul]; omega
theorem zchk_ok {ys : List FileE} (h : zchk ys = 0) : ys.length ≤ 600 ∧ totalF ys ≤ 1048576 ∧ (∀ y ∈ ys, cleanB y.path = true) := by
  unfold zchk at h
  split at h
  · cases h
  · next h1 =>
    split at h
    · next h2 =>
      refine ⟨by omega, by omega, fun y hy => ?_⟩
      obtain ⟨i, hi, e⟩ := List.getElem_of_mem hy
      have := List.all_eq_true.1 h2 i (List.mem_range.2 hi)
      unfold okZ at this
      rw [List.getElem?_eq_getElem hi, e] at this
      simp only [Bool.and_eq_true] at this
      exact this.1
    · cases h
end Go.Proofs.YtfoeooddnmppnaaDoor

/- Archives of files that are stored or deflated, in plain. No condition. -/
set_option linter.unusedVariables false
namespace Go.Proofs.YtfoeooddnmppnaaDoor
open Go Vc SumM Go.Proofs

/-- A file of an archive: how it is kept, its path, its bytes, what is kept of them. -/
structure EntZ where
  method : Nat
  path : ByteArray
  data : ByteArray
  packed : ByteArray
def factZ (x : EntZ) : List UInt8 := factsL x.method (crcW x.data.data.toList).toNat x.packed.size x.data.size x.path.size
def locZ (x : EntZ) : List UInt8 := [80, 75, 3, 4] ++ (factZ x ++ (x.path.data.toList ++ x.packed.data.toList))
def cenZ (x : EntZ) (off : Nat) : List UInt8 := [80, 75, 1, 2] ++ (littleB 2 20 ++ (factZ x ++ (littleB 2 0 ++ (littleB 2 0 ++ (littleB 2 0 ++ (littleB 4 0 ++ (littleB 4 off ++ x.path.data.toList)))))))
def outZ (es : List EntZ) : List UInt8 := es.flatMap locZ
def idxZ : Nat → List EntZ → List UInt8
  | _, [] => []
  | off, x :: r => cenZ x off ++ idxZ (off + (locZ x).length) r
def arcZ (es : List EntZ) : List UInt8 := outZ es ++ (idxZ 0 es ++ endL es.length (idxZ 0 es).length (outZ es).length)
def entsZ : Nat → List EntZ → List (EntZ × Nat)
  | _, [] => []
  | off, x :: r => (x, off) :: entsZ (off + (locZ x).length) r
def filZ (x : EntZ) : FileE := ⟨x.path, x.data⟩
def stoZ (f : FileE) : EntZ := ⟨0, f.path, f.data, f.data⟩
theorem outZ_sto (ys : List FileE) : outZ (ys.map stoZ) = outL ys := by
  unfold outZ outL
  rw [List.flatMap_map]; rfl
theorem idxZ_sto : ∀ (off : Nat) (ys : List FileE), idxZ off (ys.map stoZ) = idxL off ys
  | _, [] => rfl
  | off, y :: r => by
    rw [List.map_cons, idxZ, idxL, ← idxZ_sto (off + (locL y).length) r]; rfl
theorem arcZ_sto (ys : List FileE) : arcZ (ys.map stoZ) = zipL ys := by
  unfold arcZ zipL
  rw [outZ_sto, idxZ_sto, List.length_map]
theorem fil_sto (ys : List FileE) : (ys.map stoZ).map filZ = ys := by
  rw [List.map_map]; exact List.map_id' _
theorem endL_len (n a b : Nat) : (endL n a b).length = 22 := by
  unfold endL
  simp only [List.length_append, littleB_length, List.length_cons, List.length_nil]
theorem locZ_len (x : EntZ) : (locZ x).length = 30 + x.path.size + x.packed.size := by
  unfold locZ factZ
  simp only [List.length_append, factsL_len, bs_len, List.length_cons, List.length_nil]; omega
theorem entsZ_length : ∀ (off : Nat) (es : List EntZ), (entsZ off es).length = es.length
  | _, [] => rfl
  | off, x :: r => by rw [entsZ, List.length_cons, List.length_cons, entsZ_length]
theorem outZ_cons (x : EntZ) (r : List EntZ) : outZ (x :: r) = locZ x ++ outZ r := by unfold outZ; rw [List.flatMap_cons]
theorem entsZ_get : ∀ (off : Nat) (es : List EntZ) (k : Nat) (x : EntZ), es[k]? = some x → (entsZ off es)[k]? = some (x, off + (outZ (es.take k)).length)
  | _, [], k, x, h => by simp at h
  | off, y :: r, 0, x, h => by
    simp only [List.getElem?_cons_zero, Option.some.injEq] at h
    subst h
    simp [entsZ, outZ]
  | off, y :: r, k + 1, x, h => by
    rw [List.getElem?_cons_succ] at h
    rw [entsZ, List.getElem?_cons_succ, entsZ_get _ r k x h, List.take_succ_cons, outZ_cons, List.length_append, Nat.add_assoc]
theorem outZ_drop (es : List EntZ) (k : Nat) : outZ es = outZ (es.take k) ++ outZ (es.drop k) := by
  unfold outZ; rw [← List.flatMap_append, List.take_append_drop]
theorem outZ_len_take {es : List EntZ} {k : Nat} {x : EntZ} (h : es[k]? = some x) : (outZ (es.take (k + 1))).length = (outZ (es.take k)).length + (locZ x).length := by
  rw [List.take_add_one, h]
  unfold outZ
  rw [List.flatMap_append, List.length_append]
  simp
theorem drop_get {es : List EntZ} {k : Nat} {x : EntZ} (h : es[k]? = some x) : es.drop k = x :: es.drop (k + 1) := by
  obtain ⟨hk, e⟩ := List.getElem?_eq_some_iff.1 h
  rw [List.drop_eq_getElem_cons hk, e]
/-- What of the index is still to be read. -/
theorem idxZ_drop {es : List EntZ} {k : Nat} {x : EntZ} (h : es[k]? = some x) : idxZ (outZ (es.take k)).length (es.drop k) = cenZ x (outZ (es.take k)).length ++ idxZ (outZ (es.take (k + 1))).length (es.drop (k + 1)) := by
  rw [drop_get h, idxZ, outZ_len_take h]
theorem outZ_at {es : List EntZ} {k : Nat} {x : EntZ} (h : es[k]? = some x) : outZ (es.drop k) = locZ x ++ outZ (es.drop (k + 1)) := by
  rw [drop_get h, outZ_cons]
theorem num8_go : ∀ (l : List UInt8) (a : Nat), l.foldl (fun x c => 256 * x + c.toNat) a = a * 256 ^ l.length + num8 l
  | [], a => by simp [num8]
  | c :: l, a => by
    have h1 := num8_go l (256 * a + c.toNat)
    have h2 := num8_go l c.toNat
    rw [List.foldl_cons, h1, List.length_cons, Nat.pow_succ]
    unfold num8 at *
    rw [List.foldl_cons, Nat.mul_zero, Nat.zero_add, h2, Nat.add_mul, ← Nat.mul_assoc, Nat.mul_comm (a * _) 256, ← Nat.mul_assoc, Nat.add_assoc]
theorem num8_cons (c : UInt8) (l : List UInt8) : num8 (c :: l) = c.toNat * 256 ^ l.length + num8 l := by
  have := num8_go l c.toNat
  unfold num8 at *
  rw [List.foldl_cons, Nat.mul_zero, Nat.zero_add, this]
/-- The number of bytes, the lowest first. -/
def numL (l : List UInt8) : Nat := num8 l.reverse
theorem numL_snoc (l : List UInt8) (c : UInt8) : numL (l ++ [c]) = c.toNat * 256 ^ l.length + numL l := by
  unfold numL; rw [List.reverse_append, List.reverse_singleton, List.singleton_append, num8_cons, List.length_reverse]
theorem numL_little (n x : Nat) (h : x < 256 ^ n) : numL (littleB n x) = x := by
  unfold numL; rw [big_little, num8_bigB n x h]
theorem numL_lt (l : List UInt8) : numL l < 256 ^ l.length := num8_lt _ _ (by simp)
theorem factZ_len (x : EntZ) : (factZ x).length = 26 := factsL_len _ _ _ _ _
end Go.Proofs.YtfoeooddnmppnaaDoor

/- Stable merging in plain: how a merge of two rows falls apart at a cut, and how it may be had of one element and a row. No condition. -/
set_option linter.unusedVariables false
namespace StabM
variable {α : Type}
/-- The merge of two rows, the first ahead where neither is less. -/
def mrg (lt : α → α → Bool) : List α → List α → List α
  | [], B => B
  | a :: A, [] => a :: A
  | a :: A, b :: B => if lt b a then b :: mrg lt (a :: A) B else a :: mrg lt A (b :: B)
termination_by A B => A.length + B.length
theorem mrg_nil (lt : α → α → Bool) (B : List α) : mrg lt [] B = B := by rw [mrg]
theorem mrg_nil' (lt : α → α → Bool) : ∀ A : List α, mrg lt A [] = A
  | [] => by rw [mrg]
  | a :: A => by rw [mrg]
theorem mrg_cons (lt : α → α → Bool) (a b : α) (A B : List α) : mrg lt (a :: A) (b :: B) = if lt b a then b :: mrg lt (a :: A) B else a :: mrg lt A (b :: B) := by rw [mrg]
/-- A merge falls apart where the first parts stand ahead of the second ones. -/
theorem mrg_split {lt : α → α → Bool} : ∀ (n : Nat) (A1 A2 B1 B2 : List α), A1.length + B1.length ≤ n → (∀ x ∈ A1, ∀ y ∈ B2, lt y x = false) → (∀ x ∈ A2, ∀ y ∈ B1, lt y x = true) →
    mrg lt (A1 ++ A2) (B1 ++ B2) = mrg lt A1 B1 ++ mrg lt A2 B2
  | n, [], A2, [], B2, _, _, _ => by rw [mrg_nil]; rfl
  | 0, x :: A1, A2, B1, B2, hn, _, _ => by simp at hn
  | 0, [], A2, y :: B1, B2, hn, _, _ => by simp at hn
  | n + 1, x :: A1, A2, [], B2, hn, h1, h2 => by
    have ih := mrg_split n A1 A2 [] B2 (by simp at hn ⊢; omega) (fun a ha => h1 a (List.mem_cons_of_mem _ ha)) h2
    rw [List.nil_append, mrg_nil'] at ih
    rw [List.nil_append, mrg_nil', List.cons_append, List.cons_append]
    cases B2 with
    | nil => rw [mrg_nil', mrg_nil']
    | cons y B2 => rw [mrg_cons, h1 x (by simp) y (by simp), if_neg (by decide), ih]
  | n + 1, [], A2, y :: B1, B2, hn, h1, h2 => by
    have ih := mrg_split n [] A2 B1 B2 (by simp at hn ⊢; omega) h1 (fun a ha b hb => h2 a ha b (List.mem_cons_of_mem _ hb))
    rw [List.nil_append, mrg_nil] at ih
    rw [List.nil_append, mrg_nil, List.cons_append, List.cons_append]
    cases A2 with
    | nil => rw [mrg_nil, mrg_nil]
    | cons x A2 => rw [mrg_cons, h2 x (by simp) y (by simp), if_pos rfl, ih]
  | n + 1, x :: A1, A2, y :: B1, B2, hn, h1, h2 => by
    simp only [List.length_cons] at hn
    have ih1 := mrg_split n (x :: A1) A2 B1 B2 (by simp only [List.length_cons]; omega) h1 (fun a ha b hb => h2 a ha b (List.mem_cons_of_mem _ hb))
    have ih2 := mrg_split n A1 A2 (y :: B1) B2 (by simp only [List.length_cons]; omega) (fun a ha => h1 a (List.mem_cons_of_mem _ ha)) h2
    rw [List.cons_append] at ih1
    rw [List.cons_append] at ih2
    rw [List.cons_append, List.cons_append, mrg_cons, mrg_cons]
    cases lt y x with
    | true => rw [if_pos rfl, if_pos rfl, ih1]; rfl
    | false => rw [if_neg (by decide), if_neg (by decide), ih2]; rfl
theorem mrg_perm (lt : α → α → Bool) : ∀ (n : Nat) (A B : List α), A.length + B.length ≤ n → (mrg lt A B).Perm (A ++ B)
  | n, [], B, _ => by rw [mrg_nil]; exact .refl _
  | n, a :: A, [], _ => by rw [mrg_nil', List.append_nil]
  | 0, a :: A, b :: B, hn => by simp at hn
  | n + 1, a :: A, b :: B, hn => by
    simp only [List.length_cons] at hn
    rw [mrg_cons]
    cases lt b a with
    | true =>
      rw [if_pos rfl]
      refine ((mrg_perm lt n (a :: A) B (by simp only [List.length_cons]; omega)).cons b).trans ?_
      exact List.perm_middle.symm
    | false =>
      rw [if_neg (by decide)]
      exact (mrg_perm lt n A (b :: B) (by simp only [List.length_cons]; omega)).cons a
/-- Sorted rows merge into a sorted one. -/
theorem mrg_sorted {lt : α → α → Bool} (tr : ∀ a b c, lt b a = false → lt c b = false → lt c a = false) (ay : ∀ a b, lt a b = true → lt b a = false) : ∀ (n : Nat) (A B : List α), A.length + B.length ≤ n →
    A.Pairwise (fun x y => lt y x = false) → B.Pairwise (fun x y => lt y x = false) → (mrg lt A B).Pairwise fun x y => lt y x = false
  | n, [], B, _, _, hB => by rw [mrg_nil]; exact hB
  | n, a :: A, [], _, hA, _ => by rw [mrg_nil']; exact hA
  | 0, a :: A, b :: B, hn, _, _ => by simp at hn
  | n + 1, a :: A, b :: B, hn, hA, hB => by
    simp only [List.length_cons] at hn
    obtain ⟨ha1, ha2⟩ := List.pairwise_cons.1 hA
    obtain ⟨hb1, hb2⟩ := List.pairwise_cons.1 hB
    rw [mrg_cons]
    cases hl : lt b a with
    | true =>
      rw [if_pos rfl]
      have hab := ay b a hl
      refine List.pairwise_cons.2 ⟨fun y hy => ?_, mrg_sorted tr ay n (a :: A) B (by simp only [List.length_cons]; omega) hA hb2⟩
      have := (mrg_perm lt n (a :: A) B (by simp only [List.length_cons]; omega)).subset hy
      rcases List.mem_append.1 this with h | h
      · rcases List.mem_cons.1 h with rfl | h
        · exact hab
        · exact tr b a y hab (ha1 y h)
      · exact hb1 y h
    | false =>
      rw [if_neg (by decide)]
      refine List.pairwise_cons.2 ⟨fun y hy => ?_, mrg_sorted tr ay n A (b :: B) (by simp only [List.length_cons]; omega) ha2 hB⟩
      have := (mrg_perm lt n A (b :: B) (by simp only [List.length_cons]; omega)).subset hy
      rcases List.mem_append.1 this with h | h
      · exact ha1 y h
      · rcases List.mem_cons.1 h with rfl | h
        · exact hl
        · exact tr a b y hl (hb1 y h)
end StabM

/- A stable sort by blocks in plain: an element put into a sorted row, blocks that are sorted, and what merging does to them. No condition. -/
set_option linter.unusedVariables false
namespace StabM
variable {α : Type} (lt : α → α → Bool)
/-- Behind all that are not greater. -/
def put (x : α) : List α → List α
  | [] => [x]
  | y :: r => if lt x y then x :: y :: r else y :: put x r
def isort (l : List α) : List α := l.foldl (fun s x => put lt x s) []
def Srt (l : List α) : Prop := l.Pairwise fun x y => lt y x = false
variable {lt}
theorem put_at {x : α} : ∀ {L R : List α}, (∀ y ∈ L, lt x y = false) → (∀ y, R.head? = some y → lt x y = true) → put lt x (L ++ R) = L ++ x :: R
  | [], [], _, _ => rfl
  | [], y :: R, _, h => by rw [List.nil_append, put, if_pos (h y rfl)]; rfl
  | y :: L, R, h1, h2 => by
    rw [List.cons_append, put, if_neg (by rw [h1 y (by simp)]; decide), put_at (fun z hz => h1 z (List.mem_cons_of_mem _ hz)) h2]
    rfl
theorem put_perm (x : α) : ∀ l : List α, (put lt x l).Perm (x :: l)
  | [] => .refl _
  | y :: r => by
    rw [put]
    split
    · exact .refl _
    · exact ((put_perm x r).cons y).trans (.swap x y r)
theorem put_sorted (tr : ∀ a b c, lt b a = false → lt c b = false → lt c a = false) (ay : ∀ a b, lt a b = true → lt b a = false) (x : α) : ∀ {l : List α}, Srt lt l → Srt lt (put lt x l)
  | [], _ => List.pairwise_singleton _ _
  | y :: r, h => by
    obtain ⟨h1, h2⟩ := List.pairwise_cons.1 h
    rw [put]
    split
    · next hl =>
      refine List.pairwise_cons.2 ⟨fun z hz => ?_, h⟩
      rcases List.mem_cons.1 hz with rfl | hz
      · exact ay _ _ hl
      · exact tr x y z (ay _ _ hl) (h1 z hz)
    · next hl =>
      refine List.pairwise_cons.2 ⟨fun z hz => ?_, put_sorted tr ay x h2⟩
      rcases List.mem_cons.1 ((put_perm x r).subset hz) with rfl | hz
      · simpa using hl
      · exact h1 z hz
theorem isort_snoc (l : List α) (x : α) : isort lt (l ++ [x]) = put lt x (isort lt l) := by rw [isort, List.foldl_append]; rfl
theorem isort_all (tr : ∀ a b c, lt b a = false → lt c b = false → lt c a = false) (ay : ∀ a b, lt a b = true → lt b a = false) : ∀ (n : Nat) (l : List α), l.length = n → Srt lt (isort lt l) ∧ (isort lt l).Perm l
  | 0, l, h => by rw [List.eq_nil_of_length_eq_zero h]; exact ⟨List.Pairwise.nil, .refl _⟩
  | n + 1, l, h => by
    have hne : l ≠ [] := fun e => by subst e; simp at h
    have he := List.dropLast_concat_getLast hne
    obtain ⟨h1, h2⟩ := isort_all tr ay n l.dropLast (by rw [List.length_dropLast]; omega)
    generalize l.getLast hne = x at he
    rw [← he, isort_snoc]
    refine ⟨put_sorted tr ay x h1, (put_perm x _).trans ((h2.cons x).trans ?_)⟩
    exact (List.perm_append_singleton x _).symm
theorem srt_one (x : α) : Srt lt [x] := List.pairwise_singleton _ _
theorem srt_short {l : List α} (h : l.length ≤ 1) : Srt lt l := by
  cases l with
  | nil => exact List.Pairwise.nil
  | cons x r =>
    cases r with
    | nil => exact srt_one x
    | cons y r => simp at h
/-- Whole blocks, and blocks of which the last may be short. -/
inductive Fl (lt : α → α → Bool) (sz : Nat) : List α → Prop
  | nil : Fl lt sz []
  | snoc (P l : List α) : Fl lt sz P → l.length = sz → Srt lt l → Fl lt sz (P ++ l)
inductive Bl (lt : α → α → Bool) (sz : Nat) : List α → Prop
  | last (l : List α) : l.length ≤ sz → Srt lt l → Bl lt sz l
  | cons (l r : List α) : l.length = sz → Srt lt l → Bl lt sz r → Bl lt sz (l ++ r)
theorem Fl.bl {sz : Nat} {P : List α} (h : Fl lt sz P) : ∀ {Q : List α}, Bl lt sz Q → Bl lt sz (P ++ Q) := by
  induction h with
  | nil => intro Q hQ; exact hQ
  | snoc P l _ hl hs ih => intro Q hQ; rw [List.append_assoc]; exact ih (.cons l Q hl hs hQ)
theorem Bl.short {sz : Nat} {Q : List α} (h : Bl lt sz Q) (hl : Q.length ≤ sz) : Srt lt Q := by
  cases h with
  | last _ _ hs => exact hs
  | cons l r h1 hs hr =>
    rw [List.length_append] at hl
    have : r = [] := List.eq_nil_of_length_eq_zero (by omega)
    rw [this, List.append_nil]; exact hs
theorem Bl.cut {sz : Nat} {Q : List α} (h : Bl lt sz Q) (hl : sz ≤ Q.length) : ∃ A R, Q = A ++ R ∧ A.length = sz ∧ Srt lt A ∧ Bl lt sz R := by
  cases h with
  | last _ h1 hs => exact ⟨Q, [], by simp, by omega, hs, .last [] (by simp) List.Pairwise.nil⟩
  | cons l r h1 hs hr => exact ⟨l, r, rfl, h1, hs, hr⟩
/-- A merge of one element: where it stands. -/
theorem mrg_one {x : α} {B1 B2 : List α} (h1 : ∀ y ∈ B1, lt y x = true) (h2 : ∀ y, B2.head? = some y → lt y x = false) : mrg lt [x] (B1 ++ B2) = B1 ++ x :: B2 := by
  have := mrg_split (lt := lt) (([] : List α).length + B1.length) [] [x] B1 B2 (Nat.le_refl _) (by simp) (by simpa using h1)
  rw [List.nil_append] at this
  rw [this, mrg_nil]
  congr 1
  cases B2 with
  | nil => rw [mrg_nil']
  | cons y B2 => rw [mrg_cons, h2 y rfl, if_neg (by decide), mrg_nil]
theorem mrg_last {x : α} {A1 A2 : List α} (h1 : ∀ y ∈ A1, lt x y = false) (h2 : ∀ y ∈ A2, lt x y = true) : mrg lt (A1 ++ A2) [x] = A1 ++ x :: A2 := by
  have := mrg_split (lt := lt) (A1.length + [x].length) A1 A2 [] [x] (by simp) (by simpa using h1) (by simp)
  rw [List.nil_append] at this
  rw [this, mrg_nil']
  congr 1
  cases A2 with
  | nil => rw [mrg_nil]
  | cons y A2 => rw [mrg_cons, h2 y (by simp), if_pos rfl, mrg_nil']
/-- Two elements change places. -/
theorem swp (P M S : List α) (x y : α) : ((P ++ x :: (M ++ y :: S)).set P.length y).set (P.length + 1 + M.length) x = P ++ y :: (M ++ x :: S) := by
  rw [List.set_append_right _ _ (Nat.le_refl _), Nat.sub_self, List.set_cons_zero, List.set_append_right _ _ (by omega), show P.length + 1 + M.length - P.length = M.length + 1 by omega, List.set_cons_succ, List.set_append_right _ _ (Nat.le_refl _), Nat.sub_self, List.set_cons_zero]
theorem gets (P S : List α) (x : α) : (P ++ x :: S)[P.length]? = some x := by simp
/-- What an order keeps. -/
structure Ord (lt : α → α → Bool) : Prop where
  ir : ∀ a, lt a a = false
  tr : ∀ a b c, lt b a = false → lt c b = false → lt c a = false
  asy : ∀ a b, lt a b = true → lt b a = false
theorem srt_idx (o : Ord lt) {l : List α} (h : Srt lt l) {i j : Nat} (hij : i ≤ j) {x y : α} (hi : l[i]? = some x) (hj : l[j]? = some y) : lt y x = false := by
  by_cases he : i = j
  · subst he; rw [hi] at hj; cases hj; exact o.ir x
  · obtain ⟨h1, rfl⟩ := List.getElem?_eq_some_iff.1 hi
    obtain ⟨h2, rfl⟩ := List.getElem?_eq_some_iff.1 hj
    exact List.pairwise_iff_getElem.1 h i j h1 h2 (by omega)
theorem srt_lt (o : Ord lt) {l : List α} (h : Srt lt l) {i j : Nat} (hij : i ≤ j) {x y z : α} (hi : l[i]? = some x) (hj : l[j]? = some y) (hz : lt y z = true) : lt x z = true := by
  cases hx : lt x z with
  | true => rfl
  | false => rw [o.tr z x y hx (srt_idx o h hij hi hj)] at hz; cases hz
theorem srt_gt (o : Ord lt) {l : List α} (h : Srt lt l) {i j : Nat} (hij : i ≤ j) {x y z : α} (hi : l[i]? = some x) (hj : l[j]? = some y) (hz : lt z x = true) : lt z y = true := by
  cases hx : lt z y with
  | true => rfl
  | false => rw [o.tr x y z (srt_idx o h hij hi hj) hx] at hz; cases hz
/-- z is not less than y, so than none ahead of it. -/
theorem srt_nl (o : Ord lt) {l : List α} (h : Srt lt l) {i j : Nat} (hij : i ≤ j) {x y z : α} (hi : l[i]? = some x) (hj : l[j]? = some y) (hz : lt z y = false) : lt z x = false := o.tr x y z (srt_idx o h hij hi hj) hz
/-- y is less than no z, so none behind it is. -/
theorem srt_ng (o : Ord lt) {l : List α} (h : Srt lt l) {i j : Nat} (hij : i ≤ j) {x y z : α} (hi : l[i]? = some x) (hj : l[j]? = some y) (hz : lt x z = false) : lt y z = false := o.tr z x y hz (srt_idx o h hij hi hj)
theorem mem_idx {l : List α} {x : α} (h : x ∈ l) : ∃ i, i < l.length ∧ l[i]? = some x := by
  obtain ⟨i, hi, e⟩ := List.getElem_of_mem h
  exact ⟨i, hi, by rw [List.getElem?_eq_getElem hi, e]⟩
theorem mem_take_idx {l : List α} {x : α} {n : Nat} (h : x ∈ l.take n) : ∃ i, i < n ∧ i < l.length ∧ l[i]? = some x := by
  obtain ⟨i, hi, e⟩ := mem_idx h
  rw [List.length_take] at hi
  rw [List.getElem?_take_of_lt (by omega)] at e
  exact ⟨i, by omega, by omega, e⟩
theorem mem_drop_idx {l : List α} {x : α} {n : Nat} (h : x ∈ l.drop n) : ∃ i, n ≤ i ∧ i < l.length ∧ l[i]? = some x := by
  obtain ⟨i, hi, e⟩ := mem_idx h
  rw [List.length_drop] at hi
  rw [List.getElem?_drop] at e
  exact ⟨n + i, by omega, by omega, e⟩
theorem Srt.take {l : List α} (h : Srt lt l) (n : Nat) : Srt lt (l.take n) := List.Pairwise.sublist (List.take_sublist _ _) h
theorem Srt.drop {l : List α} (h : Srt lt l) (n : Nat) : Srt lt (l.drop n) := List.Pairwise.sublist (List.drop_sublist _ _) h
theorem mrg_cut (o : Ord lt) {A B : List α} (hA : Srt lt A) (hB : Srt lt B) (s t : Nat)
    (h1 : s = 0 ∨ t = B.length ∨ ∃ x y, A[s - 1]? = some x ∧ B[t]? = some y ∧ lt y x = false)
    (h2 : s = A.length ∨ t = 0 ∨ ∃ x y, A[s]? = some x ∧ B[t - 1]? = some y ∧ lt y x = true) :
    mrg lt A B = mrg lt (A.take s) (B.take t) ++ mrg lt (A.drop s) (B.drop t) := by
  have := mrg_split (lt := lt) _ (A.take s) (A.drop s) (B.take t) (B.drop t) (Nat.le_refl _) (fun x hx y hy => ?_) (fun x hx y hy => ?_)
  · rwa [List.take_append_drop, List.take_append_drop] at this
  · obtain ⟨i, hi, hi2, hx⟩ := mem_take_idx hx
    obtain ⟨j, hj, hj2, hy⟩ := mem_drop_idx hy
    rcases h1 with rfl | rfl | ⟨x', y', hx', hy', hl⟩
    · omega
    · omega
    · exact srt_nl o hA (by omega : i ≤ s - 1) hx hx' (srt_ng o hB hj hy' hy hl)
  · obtain ⟨i, hi, hi2, hx⟩ := mem_drop_idx hx
    obtain ⟨j, hj, hj2, hy⟩ := mem_take_idx hy
    rcases h2 with rfl | rfl | ⟨x', y', hx', hy', hl⟩
    · omega
    · omega
    · exact srt_lt o hB (by omega : j ≤ t - 1) hy hy' (srt_gt o hA hi hx' hx hl)
theorem get_A {P A R : List α} {i : Nat} (hi : i < A.length) : (P ++ (A ++ R))[P.length + i]? = A[i]? := by
  rw [List.getElem?_append_right (by omega), show P.length + i - P.length = i by omega, List.getElem?_append_left hi]
theorem get_B {P A B R : List α} {i : Nat} (hi : i < B.length) : (P ++ (A ++ (B ++ R)))[P.length + A.length + i]? = B[i]? := by
  rw [List.getElem?_append_right (by omega), List.getElem?_append_right (by omega), show P.length + A.length + i - P.length - A.length = i by omega, List.getElem?_append_left hi]
end StabM

/- The order of texts in plain. No condition. -/
set_option linter.unusedVariables false
namespace Go.Proofs.YtfoeooddnmppnaaDoor
open Go Vc Go.Proofs Go.Lib

theorem cmp_lt : ∀ a b : List UInt8, Lib.compareBytes a b < 0 ↔ a < b
  | [], [] => by simp [Lib.compareBytes]
  | [], _ :: _ => by simp [Lib.compareBytes]
  | _ :: _, [] => by simp [Lib.compareBytes]
  | a :: ra, b :: rb => by
    rw [Lib.compareBytes, List.cons_lt_cons_iff]
    by_cases h1 : a < b
    · rw [if_pos h1]; exact ⟨fun _ => .inl h1, fun _ => by decide⟩
    · rw [if_neg h1]
      by_cases h2 : b < a
      · rw [if_pos h2]
        refine ⟨fun h => absurd h (by decide), fun h => ?_⟩
        rcases h with h | ⟨h, _⟩
        · exact absurd h h1
        · rw [h] at h2; exact absurd h2 (by rw [UInt8.lt_iff_toNat_lt]; omega)
      · rw [if_neg h2, cmp_lt ra rb]
        have : a = b := UInt8.toNat_inj.1 (by rw [UInt8.lt_iff_toNat_lt] at h1 h2; omega)
        exact ⟨fun h => .inr ⟨this, h⟩, fun h => h.resolve_left h1 |>.2⟩
theorem cmp_zero : ∀ a b : List UInt8, Lib.compareBytes a b = 0 ↔ a = b
  | [], [] => by simp [Lib.compareBytes]
  | [], _ :: _ => by simp [Lib.compareBytes]
  | _ :: _, [] => by simp [Lib.compareBytes]
  | a :: ra, b :: rb => by
    rw [Lib.compareBytes]
    by_cases h1 : a < b
    · rw [if_pos h1]
      refine ⟨fun h => absurd h (by decide), fun h => ?_⟩
      cases h; exact absurd h1 (by rw [UInt8.lt_iff_toNat_lt]; omega)
    · rw [if_neg h1]
      by_cases h2 : b < a
      · rw [if_pos h2]
        refine ⟨fun h => absurd h (by decide), fun h => ?_⟩
        cases h; exact absurd h2 (by rw [UInt8.lt_iff_toNat_lt]; omega)
      · rw [if_neg h2, cmp_zero ra rb]
        have : a = b := UInt8.toNat_inj.1 (by rw [UInt8.lt_iff_toNat_lt] at h1 h2; omega)
        subst this
        simp
theorem lt_tri (a b : List UInt8) : a < b ∨ a = b ∨ b < a := by
  rcases Decidable.em (a < b) with h | h
  · exact .inl h
  · rcases Decidable.em (a = b) with h' | h'
    · exact .inr (.inl h')
    · exact .inr (.inr (Std.lt_of_le_of_ne (Std.not_lt.1 h) fun e => h' e.symm))
end Go.Proofs.YtfoeooddnmppnaaDoor

/- Structures of the kit over its shelf, at this seat (written by a program of the author's, laysn.py). No condition. -/
namespace Go.Proofs.YtfoeooddnmppnaaDoor
open Go Go.Shelf Go.Proofs
def lays106_ren : Go.Shelf.Ren := ⟨fun | 106 => 49 | 213 => 97 | 265 => 128 | n => n, fun | 3 => 3 | 9 => 9 | n => n, fun  | n => n⟩
theorem lays106 : Go.Proofs.Lays.n106 Tryd.prog lays106_ren := {
  mixed := by kernel_rfl,
  f106 := Tryd.func49.trans (congrArg some (by kernel_rfl)),
  f213 := Tryd.func97.trans (congrArg some (by kernel_rfl)),
  f265 := Tryd.func128.trans (congrArg some (by kernel_rfl)),
  t3 := Tryd.underlying3,
  a3 := Tryd.isAgg3,
  z3 := Tryd.sizeOf3,
  v3 := Tryd.zeroValue3,
  t9 := Tryd.underlying9,
  a9 := Tryd.isAgg9,
  z9 := Tryd.sizeOf9,
  v9 := Tryd.zeroValue9 }
end Go.Proofs.YtfoeooddnmppnaaDoor

/- strings.Compare. No condition. -/
set_option linter.unusedVariables false
namespace Go.Proofs.YtfoeooddnmppnaaDoor
open Go Vc Go.Proofs Go.Lib

theorem compare_spec (a b : ByteArray) (w : World) : Calls Tryd.prog F_strings_Compare #[.string a, .string b] w fun e w' => e = .returned (.int .i64 (Lib.compareBytes a.data.toList b.data.toList)) ∧ w' = w := Any.strings_Compare lays106 a b w
end Go.Proofs.YtfoeooddnmppnaaDoor

/- Formulas of 3 Go functions of this seat (written by a program of the author's, vcgen.py), and that each is enough for the call. No condition. -/
set_option linter.unusedVariables false
namespace Go.Proofs.YtfoeooddnmppnaaDoor
open Go Vc Go.Proofs
set_option maxRecDepth 100000
/-- strings.Compare -/
def vc_strings_Compare (x0 : ByteArray) (x1 : ByteArray) (w : World) (R : Value → World → Prop) : Prop :=
  Calls Tryd.prog (97 : Nat) (Array.mk [Value.string x0, Value.string x1]) (w) (fun e1 w2 =>
    ∃ n3 : Int, (e1 = Ending.returned (Value.int IntKind.i64 n3) ∧
     R (Value.int IntKind.i64 n3) w2))
theorem vc_strings_Compare_ok {x0 : ByteArray} {x1 : ByteArray} {w : World} {R : Value → World → Prop} {R' : Ending → World → Prop} (h : vc_strings_Compare x0 x1 w R) (hR : ∀ v w', R v w' → R' (.returned v) w') :
    Calls Tryd.prog 49 #[.string x0, .string x1] w R' :=
  calls_of_body (vs := [(.string x0, false), (.string x1, false)]) (ty := ty) (ann := ⟨[], [], [], []⟩) (c := Tryd.f49.body.getD .skip) (by kernel_rfl) Tryd.func49 (by kernel_rfl) (by kernel_rfl) (Eq.mp (by kernel_rfl) h) hR
/-- modzip.Hash$1 -/
def vc_modzip_Hash_1 (x0_0 : ByteArray) (x0_1 : ByteArray) (x1_0 : ByteArray) (x1_1 : ByteArray) (w : World) (R : Value → World → Prop) : Prop :=
  ∀ w1 : World,
  (w1 = World.alloc w (Obj.cells (Array.mk [Value.string x0_0, Value.string x0_1]) 37) →
    ∀ w2 : World,
    (w2 = World.alloc w1 (Obj.cells (Array.mk [Value.string x1_0, Value.string x1_1]) 37) →
      ∃ s3 : ByteArray, (World.cell? w2 (Addr.mk (Array.size (World.heap w)) 0 none) = some (Value.string s3) ∧
       ∃ s4 : ByteArray, (World.cell? w2 (Addr.mk (Array.size (World.heap w1)) 0 none) = some (Value.string s4) ∧
        Calls Tryd.prog (49 : Nat) (Array.mk [Value.string s3, Value.string s4]) (w2) (fun e5 w6 =>
          ∃ n7 : Int, (e5 = Ending.returned (Value.int IntKind.i64 n7) ∧
           R (Value.int IntKind.i64 n7) w6))))))
theorem vc_modzip_Hash_1_ok {x0_0 : ByteArray} {x0_1 : ByteArray} {x1_0 : ByteArray} {x1_1 : ByteArray} {w : World} {R : Value → World → Prop} {R' : Ending → World → Prop} (h : vc_modzip_Hash_1 x0_0 x0_1 x1_0 x1_1 w R) (hR : ∀ v w', R v w' → R' (.returned v) w') :
    Calls Tryd.prog 48 #[.agg #[.string x0_0, .string x0_1], .agg #[.string x1_0, .string x1_1]] w R' :=
  calls_of_body (vs := [(.agg #[.string x0_0, .string x0_1], false), (.agg #[.string x1_0, .string x1_1], false)]) (ty := ty) (ann := ⟨[], [], [], []⟩) (c := Tryd.f48.body.getD .skip) (by kernel_rfl) Tryd.func48 (by kernel_rfl) (by kernel_rfl) (Eq.mp (by kernel_rfl) h) hR
/-- modzip.Select$3 -/
def vc_modzip_Select_3 (x0_0 : ByteArray) (x0_1 : ByteArray) (x1_0 : ByteArray) (x1_1 : ByteArray) (w : World) (R : Value → World → Prop) : Prop :=
  ∀ w1 : World,
  (w1 = World.alloc w (Obj.cells (Array.mk [Value.string x0_0, Value.string x0_1]) 37) →
    ∀ w2 : World,
    (w2 = World.alloc w1 (Obj.cells (Array.mk [Value.string x1_0, Value.string x1_1]) 37) →
      ∃ s3 : ByteArray, (World.cell? w2 (Addr.mk (Array.size (World.heap w)) 0 none) = some (Value.string s3) ∧
       ∃ s4 : ByteArray, (World.cell? w2 (Addr.mk (Array.size (World.heap w1)) 0 none) = some (Value.string s4) ∧
        Calls Tryd.prog (49 : Nat) (Array.mk [Value.string s3, Value.string s4]) (w2) (fun e5 w6 =>
          ∃ n7 : Int, (e5 = Ending.returned (Value.int IntKind.i64 n7) ∧
           R (Value.int IntKind.i64 n7) w6))))))
theorem vc_modzip_Select_3_ok {x0_0 : ByteArray} {x0_1 : ByteArray} {x1_0 : ByteArray} {x1_1 : ByteArray} {w : World} {R : Value → World → Prop} {R' : Ending → World → Prop} (h : vc_modzip_Select_3 x0_0 x0_1 x1_0 x1_1 w R) (hR : ∀ v w', R v w' → R' (.returned v) w') :
    Calls Tryd.prog 73 #[.agg #[.string x0_0, .string x0_1], .agg #[.string x1_0, .string x1_1]] w R' :=
  calls_of_body (vs := [(.agg #[.string x0_0, .string x0_1], false), (.agg #[.string x1_0, .string x1_1], false)]) (ty := ty) (ann := ⟨[], [], [], []⟩) (c := Tryd.f73.body.getD .skip) (by kernel_rfl) Tryd.func73 (by kernel_rfl) (by kernel_rfl) (Eq.mp (by kernel_rfl) h) hR
end Go.Proofs.YtfoeooddnmppnaaDoor

/- Files in memory held against one another by their paths, read and swapped. No condition. -/
set_option linter.unusedVariables false
namespace Go.Proofs.YtfoeooddnmppnaaDoor
open Go Vc Go.Proofs StabM

def ltP (x y : FileE) : Bool := decide (x.path.data.toList < y.path.data.toList)
theorem ordP : StabM.Ord ltP where
  ir a := decide_eq_false (List.lt_irrefl _)
  tr a b c h1 h2 := by
    unfold ltP at *
    rw [decide_eq_false_iff_not] at *
    exact List.not_lt.2 (List.le_trans (List.not_lt.1 h1) (List.not_lt.1 h2))
  asy a b h := by
    unfold ltP at *
    rw [decide_eq_true_eq] at h
    exact decide_eq_false (List.lt_asymm h)
/-- What comes of two files held against one another. -/
def CmpR (x y : FileE) (w : World) (e : Ending) (w' : World) : Prop := ∃ z : Int, e = .returned (.int .i64 z) ∧ decide (z < 0) = ltP x y ∧ Fr (fun _ => False) w w'
theorem cmpR_of (x y : FileE) (w : World) {w1 w2 : World} (h1 : w1 = w.alloc (.cells #[.string x.path, .string x.data] T_api_File)) (h2 : w2 = w1.alloc (.cells #[.string y.path, .string y.data] T_api_File)) {R : Value → World → Prop}
    (hR : ∀ z : Int, decide (z < 0) = ltP x y → ∀ w', Fr (fun _ => False) w w' → R (.int .i64 z) w') : ∃ s3 : ByteArray, w2.cell? ⟨w.heap.size, 0, none⟩ = some (.string s3) ∧ ∃ s4 : ByteArray, w2.cell? ⟨w1.heap.size, 0, none⟩ = some (.string s4) ∧
      Calls Tryd.prog F_strings_Compare #[.string s3, .string s4] w2 fun e5 w6 => ∃ n7 : Int, e5 = .returned (.int .i64 n7) ∧ R (.int .i64 n7) w6 := by
  have hb1 : w1.heap[w.heap.size]? = some (.cells (encF x).toArray T_api_File (0, 0)) := by rw [h1]; exact alloc_new _ _
  have hb2 : w2.heap[w1.heap.size]? = some (.cells (encF y).toArray T_api_File (0, 0)) := by rw [h2]; exact alloc_new _ _
  have hf1 : Fr (fun _ => False) w w1 := by rw [h1]; exact .alloc _ _ _
  have hf2 : Fr (fun _ => False) w1 w2 := by rw [h2]; exact .alloc _ _ _
  refine ⟨x.path, by rw [cell_blk (hf2.keep hb1 (by simp))]; rfl, y.path, by rw [cell_blk hb2]; rfl, (compare_spec _ _ w2).mono ?_⟩
  rintro e w6 ⟨rfl, rfl⟩
  exact ⟨_, rfl, hR _ (decide_eq_decide.2 (cmp_lt _ _)) _ (hf1.trans' hf2)⟩
theorem sel3_spec (x y : FileE) (w : World) : Calls Tryd.prog F_modzip_Select_3 #[.agg (encF x).toArray, .agg (encF y).toArray] w (CmpR x y w) := by
  refine vc_modzip_Select_3_ok (R := fun v w' => ∃ z : Int, v = .int .i64 z ∧ decide (z < 0) = ltP x y ∧ Fr (fun _ => False) w w') ?_ (fun v w' ⟨z, h1, h2, h3⟩ => ⟨z, by rw [h1], h2, h3⟩)
  exact fun w1 h1 w2 h2 => cmpR_of x y w h1 h2 (R := fun v w' => ∃ z : Int, v = .int .i64 z ∧ decide (z < 0) = ltP x y ∧ Fr (fun _ => False) w w') fun z hz w' hf => ⟨z, rfl, hz, hf⟩
theorem hash1_spec (x y : FileE) (w : World) : Calls Tryd.prog F_modzip_Hash_1 #[.agg (encF x).toArray, .agg (encF y).toArray] w (CmpR x y w) := by
  refine vc_modzip_Hash_1_ok (R := fun v w' => ∃ z : Int, v = .int .i64 z ∧ decide (z < 0) = ltP x y ∧ Fr (fun _ => False) w w') ?_ (fun v w' ⟨z, h1, h2, h3⟩ => ⟨z, by rw [h1], h2, h3⟩)
  exact fun w1 h1 w2 h2 => cmpR_of x y w h1 h2 (R := fun v w' => ∃ z : Int, v = .int .i64 z ∧ decide (z < 0) = ltP x y ∧ Fr (fun _ => False) w w') fun z hz w' hf => ⟨z, rfl, hz, hf⟩
section
variable {w : World} {base : Nat} {l : Sl} {xs : List FileE}
theorem load_at (ho : OwnK encF 2 w base T_api_File l xs) {i : Nat} {x : FileE} (hx : xs[i]? = some x) : ∃ ad, l.a = some ad ∧ ∀ w', Fr (fun _ => False) w w' → (loadVar T_api_File (ad.add (i * 2))).run Tryd.prog w' = .ok (.agg #[.string x.path, .string x.data]) w' := by
  obtain ⟨ad, had, _⟩ := (ho.reads fun _ => rfl).load elF hx
  refine ⟨ad, had, fun w' hf => ?_⟩
  obtain ⟨ad', had', hl⟩ := ((ho.keep hf (by simp)).reads fun _ => rfl).load elF hx
  rw [had] at had'
  cases had'
  exact hl
/-- Two elements change places in memory. -/
theorem swap_at (ho : OwnK encF 2 w base T_api_File l xs) {i j : Nat} {x y : FileE} (hx : xs[i]? = some x) (hy : xs[j]? = some y) : ∃ ad, l.a = some ad ∧ (loadVar T_api_File (ad.add (i * 2))).run Tryd.prog w = .ok (.agg #[.string x.path, .string x.data]) w ∧
    (loadVar T_api_File (ad.add (j * 2))).run Tryd.prog w = .ok (.agg #[.string y.path, .string y.data]) w ∧
    ∃ w1, (storeVar T_api_File (ad.add (i * 2)) (.agg #[.string y.path, .string y.data])).run Tryd.prog w = .ok () w1 ∧
    ∃ w2, (storeVar T_api_File (ad.add (j * 2)) (.agg #[.string x.path, .string x.data])).run Tryd.prog w1 = .ok () w2 ∧ OwnK encF 2 w2 base T_api_File l ((xs.set i y).set j x) ∧ Fr (At l) w w2 := by
  obtain ⟨ad, had, h1⟩ := load_at ho hx
  obtain ⟨ad2, had2, h2⟩ := load_at ho hy
  have e : ad2 = ad := by rw [had] at had2; exact (Option.some.inj had2).symm
  subst e
  obtain ⟨ad3, had3, w1, hr1, ho1, hf1⟩ := ho.setAt elF (List.getElem?_eq_some_iff.1 hx).1 y
  have e : ad3 = ad2 := by rw [had] at had3; exact (Option.some.inj had3).symm
  subst e
  obtain ⟨ad4, had4, w2, hr2, ho2, hf2⟩ := ho1.setAt elF (by rw [List.length_set]; exact (List.getElem?_eq_some_iff.1 hy).1) x
  have e : ad4 = ad3 := by rw [had] at had4; exact (Option.some.inj had4).symm
  subst e
  exact ⟨ad4, had, h1 w (.refl _ _), h2 w (.refl _ _), w1, hr1, w2, hr2, ho2, hf1.trans hf2 fun q _ h => h⟩
end
end Go.Proofs.YtfoeooddnmppnaaDoor

/- Formulas of 1 Go functions of this seat (written by a program of the author's, vcgen.py), and that each is enough for the call. No condition. -/
set_option linter.unusedVariables false
namespace Go.Proofs.YtfoeooddnmppnaaDoor
open Go Vc Go.Proofs
set_option maxRecDepth 100000
/-- sums.Little -/
def vc_sums_Little (x0 : Int) (x1 : Int) (w : World) (R : Value → World → Prop) : Prop :=
  ∃ I1 : Sl → Int → World → Prop, ∃ I2 : Sl → Int → World → Nat, (I1 (Sl.mk none 0 0) 0 w ∧
   ∀ l3 : Sl,
   ∀ n4 : Int,
   ∀ w5 : World,
   (I1 l3 n4 w5 →
     ((((decide (n4 < if 0 > x1 then 0 else x1) = true) →
        (((decide (n4 ≥ 8) = true →
           ∀ w6 : World,
           (w6 = World.alloc w5 (Obj.cells (Array.mk [Value.int IntKind.u8 0]) 5) →
             ∃ w7 : World, ∃ l8 : Sl, (Sem.run Tryd.prog (Builtin.append_ (Array.mk [35, 35]) 35 (Array.mk [Value.slice l3.1 l3.2 l3.3, Value.slice (some (Addr.mk (Array.size (World.heap w5)) 0 none)) 1 1])) w6 = Result.ok (Value.slice l8.1 l8.2 l8.3) w7 ∧
              (I1 (Sl.mk l8.1 l8.2 l8.3) (IntKind.wrap IntKind.i64 (n4 + 1)) w7 ∧
               I2 (Sl.mk l8.1 l8.2 l8.3) (IntKind.wrap IntKind.i64 (n4 + 1)) w7 < I2 l3 n4 w5))))) ∧
         (decide (n4 ≥ 8) = false →
           (0 ≤ IntKind.wrap IntKind.i64 (8 * n4) ∧
            ∀ w9 : World,
            (w9 = World.alloc w5 (Obj.cells (Array.mk [Value.int IntKind.u8 (IntKind.wrap IntKind.u8 (Int.fdiv x0 (2 ^ min (Int.toNat (IntKind.wrap IntKind.i64 (8 * n4))) 64)))]) 5) →
              ∃ w10 : World, ∃ l11 : Sl, (Sem.run Tryd.prog (Builtin.append_ (Array.mk [35, 35]) 35 (Array.mk [Value.slice l3.1 l3.2 l3.3, Value.slice (some (Addr.mk (Array.size (World.heap w5)) 0 none)) 1 1])) w9 = Result.ok (Value.slice l11.1 l11.2 l11.3) w10 ∧
               (I1 (Sl.mk l11.1 l11.2 l11.3) (IntKind.wrap IntKind.i64 (n4 + 1)) w10 ∧
                I2 (Sl.mk l11.1 l11.2 l11.3) (IntKind.wrap IntKind.i64 (n4 + 1)) w10 < I2 l3 n4 w5)))))))) ∧
      ((decide (n4 < if 0 > x1 then 0 else x1) = false) →
        ∃ w12 : World, ∃ s13 : ByteArray, (Sem.run Tryd.prog (convert 35 9 (Value.slice l3.1 l3.2 l3.3)) w5 = Result.ok (Value.string s13) w12 ∧
         R (Value.string s13) w12)))))
theorem vc_sums_Little_ok {x0 : Int} {x1 : Int} {w : World} {R : Value → World → Prop} {R' : Ending → World → Prop} (h : vc_sums_Little x0 x1 w R) (hR : ∀ v w', R v w' → R' (.returned v) w') :
    Calls Tryd.prog 88 #[.int .u64 x0, .int .i64 x1] w R' :=
  calls_of_body (vs := [(.int .u64 x0, false), (.int .i64 x1, false)]) (ty := ty) (ann := ⟨[], [(3, [(5, .slice), (9, .int .i64)])], [], []⟩) (c := Tryd.f88.body.getD .skip) (by kernel_rfl) Tryd.func88 (by kernel_rfl) (by kernel_rfl) (Eq.mp (by kernel_rfl) h) hR
end Go.Proofs.YtfoeooddnmppnaaDoor

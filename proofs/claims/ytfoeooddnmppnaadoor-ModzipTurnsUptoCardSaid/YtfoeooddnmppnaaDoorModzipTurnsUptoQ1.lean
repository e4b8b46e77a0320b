/- Texts of this seat in one: made by a program of ours. -/
import Derived.Test.YtfoeooddnmppnaaDoorModzipTurnsUptoQ0
import Derived.Test.YtfoeooddnmppnaaDoorProg
import Derived.Lib.OthersKept
import Derived.Lib.IndexLaws
import Derived.Laws.Strings
import Derived.Laws.RangeString
import Derived.Lib.Index
import Derived.Shelf.Lays
import Derived.Shelf.Strings.BuilderX
import Derived.Shelf.Strings.Search1
import Derived.RangeFuncNested
import Derived.RangeFuncBound
import Derived.RangeFuncCalls
import Derived.RangeFuncLeaves
import Derived.Shelf.Abstract
import Derived.Shelf.RegionOpen
import Derived.WalkKit
import Derived.OwnWalkIn
import Derived.TacticsInMore
import Derived.LoopNIn
import Derived.LoopIn
import Derived.Shelf.Strings.IndexAnyAll
/- The shapes of the types of this seat, a row a type. No condition. -/
namespace Go.Proofs.YtfoeooddnmppnaaDoor
open Vc
def tyL : List Sh := [
  .tup [],
  .one (.any),
  .one (.int .i64),
  .one (.int .i64),
  .one (.bool),
  .one (.int .u8),
  .one (.int .u8),
  .agg [.int .i64, .int .i64, .bool, .int .u8],
  .agg [.int .i64, .int .i64, .bool, .int .u8],
  .one (.str),
  .one (.str),
  .one (.str),
  .one (.int .u64),
  .agg [.str, .int .u64],
  .agg [.str, .int .u64],
  .one (.ptr),
  .one (.ptr),
  .one (.ptr),
  .agg [.ptr],
  .agg [.ptr],
  .one (.any),
  .one (.int .i32),
  .one (.slice),
  .one (.any),
  .one (.int .i64),
  .tup [(.one (.str)), (.one (.int .i64))],
  .one (.any),
  .one (.any),
  .one (.any),
  .one (.any),
  .one (.any),
  .tup [(.one (.slice)), (.one (.int .i64))],
  .one (.any),
  .one (.any),
  .one (.any),
  .one (.slice),
  .agg [.str, .str],
  .agg [.str, .str],
  .one (.any),
  .one (.any),
  .one (.any),
  .one (.any),
  .one (.any),
  .one (.any),
  .one (.slice),
  .one (.any),
  .one (.any),
  .one (.slice),
  .one (.any),
  .one (.any),
  .agg [.str, .int .i64, .str],
  .agg [.str, .int .i64, .str],
  .one (.any),
  .one (.any),
  .one (.slice),
  .one (.slice),
  .one (.slice),
  .one (.any),
  .one (.any),
  .one (.any),
  .one (.any),
  .one (.any),
  .one (.int .u32),
  .one (.any),
  .one (.any),
  .one (.any),
  .one (.int .i64),
  .tup [(.one (.int .i64)), (.one (.bool))],
  .one (.ptr),
  .agg [.str, .int .i64],
  .agg [.str, .int .i64],
  .one (.any),
  .one (.any),
  .one (.any),
  .one (.slice),
  .agg [.int .i64, .int .u32, .int .i64, .int .i64, .int .i64],
  .agg [.int .i64, .int .u32, .int .i64, .int .i64, .int .i64],
  .one (.any),
  .agg [.int .i64, .int .u32, .int .i64, .int .i64, .int .i64, .str, .int .i64],
  .agg [.int .i64, .int .u32, .int .i64, .int .i64, .int .i64, .str, .int .i64],
  .one (.any),
  .one (.any),
  .one (.any),
  .one (.any),
  .one (.any),
  .one (.int .u64),
  .agg [.slice, .str, .int .u64],
  .agg [.slice, .str, .int .u64],
  .agg [.slice, .str, .int .u64],
  .agg [.slice, .str, .int .u64],
  .one (.any),
  .one (.any),
  .one (.any),
  .one (.any),
  .one (.slice),
  .one (.any),
  .one (.any),
  .tup [(.one (.str)), (.one (.bool))],
  .one (.any),
  .one (.any),
  .one (.any),
  .one (.any),
  .one (.any),
  .agg [.slice, .int .u64, .int .i64],
  .agg [.slice, .int .u64, .int .i64],
  .one (.ptr),
  .tup [(.one (.ptr)), (.one (.ptr))],
  .one (.any),
  .one (.any),
  .one (.map),
  .tup [(.one (.int .i64)), (.one (.bool))],
  .tup [(.one (.int .u32)), (.one (.int .i64))],
  .one (.any),
  .tup [(.one (.int .i64)), (.one (.int .u32)), (.one (.int .i64))],
  .one (.any),
  .one (.any),
  .one (.any),
  .one (.any),
  .agg [.int .u32],
  .agg [.int .u32],
  .one (.any),
  .one (.any),
  .one (.any),
  .one (.any),
  .one (.any),
  .one (.any),
  .one (.any),
  .one (.any),
  .one (.any),
  .tup [(.one (.str)), (.one (.int .i64)), (.one (.int .i64))],
  .one (.any),
  .one (.any),
  .one (.ptr),
  .one (.any),
  .one (.any),
  .one (.int .u64),
  .agg [.int .u8, .int .u8, .int .u8],
  .one (.any),
  .one (.any),
  .one (.any),
  .one (.any),
  .one (.any),
  .one (.any),
  .one (.any),
  .one (.any),
  .one (.any),
  .one (.map),
  .tup [(.one (.ptr)), (.one (.int .i64))],
  .one (.any),
  .one (.ptr),
  .agg [.int .i64, .int .i64, .int .i64, .int .i64, .int .i64, .int .i64, .int .i64, .int .i64, .int .i64, .int .i64, .int .i64, .int .i64, .int .i64, .int .i64, .int .i64, .int .i64],
  .agg [.slice, .int .i64, .int .i64, .int .i64, .int .i64, .int .i64, .int .i64, .int .i64, .int .i64, .int .i64, .int .i64, .int .i64, .int .i64, .int .i64, .int .i64, .int .i64, .int .i64, .slice],
  .agg [.slice, .int .i64, .int .i64, .int .i64, .int .i64, .int .i64, .int .i64, .int .i64, .int .i64, .int .i64, .int .i64, .int .i64, .int .i64, .int .i64, .int .i64, .int .i64, .int .i64, .slice],
  .tup [(.one (.int .i64)), (.one (.int .i64))],
  .one (.ptr),
  .one (.any),
  .one (.any),
  .one (.ptr),
  .one (.ptr),
  .one (.any),
  .agg [.ptr, .slice, .int .i64],
  .agg [.ptr, .slice, .int .i64],
  .one (.any),
  .one (.any),
  .one (.any),
  .one (.any),
  .one (.ptr),
  .one (.any),
  .one .any,
  .one (.any),
  .agg [.int .u32, .int .u32, .int .u32, .int .u32, .int .u32, .int .u32, .int .u32, .int .u32],
  .tup [(.one (.int .u64)), (.one (.int .u64))],
  .one (.any),
  .tup [(.one (.int .i32)), (.one (.int .i64))],
  .one (.any),
  .one (.any),
  .agg [.str, .int .i64, .int .u64, .int .i64, .int .i64],
  .agg [.str, .int .i64, .int .u64, .int .i64, .int .i64],
  .tup [(.one (.int .u32)), (.one (.bool))],
  .one (.any),
  .tup [(.one (.ptr)), (.one (.ptr)), (.one (.int .i64))],
  .one (.any),
  .tup [(.one (.int .i64)), (.one (.int .i64))],
  .one (.any),
  .one (.any),
  .one (.any),
  .one (.any),
  .one (.any),
  .one .any,
  .one (.any),
  .one (.any),
  .one (.any),
  .one .any,
  .one .any,
  .tup [(.one .any), (.one (.bool))],
  .one (.any),
  .one (.any),
  .one .any,
  .agg [.int .u8, .int .u8],
  .agg [.int .u8, .int .u8],
  .one .any,
  .one (.any),
  .tup [(.one (.int .u32)), (.one (.int .u32))],
  .one (.any),
  .one (.ptr),
  .agg [.ptr, .ptr, .ptr, .str],
  .agg [.ptr, .ptr, .ptr, .str],
  .agg [],
  .agg [],
  .agg [],
  .one (.int .u8),
  .one (.int .u8),
  .one (.any),
  .one (.ptr),
  .one (.int .i32),
  .one (.int .i32),
  .agg [.int .u64, .int .u64, .int .u32, .int .u8, .int .u8, .int .u8, .int .u8, .any, .ptr, .int .i32, .int .i32],
  .agg [.int .u64, .int .u64, .int .u32, .int .u8, .int .u8, .int .u8, .int .u8, .any, .ptr, .int .i32, .int .i32],
  .one (.any)]
def nth : List Sh → Nat → Sh
  | [], _ => .one .any
  | s :: _, 0 => s
  | _ :: r, n + 1 => nth r n
def ty (n : Nat) : Sh := nth tyL n
abbrev F_main_main : Nat := 0
abbrev F_gosem_cut : Nat := 1
abbrev F_gosem_cut_init : Nat := 2
abbrev F_cartularylaw23_ZipWrites : Nat := 3
abbrev F_cartularylaw23_ZipFull : Nat := 4
abbrev F_cartularylaw23_ZipOne : Nat := 5
abbrev F_cartularylaw23_ZipSpoils : Nat := 6
abbrev F_cartularylaw24_ModzipHashes : Nat := 7
abbrev F_cartularylaw24_ModzipNested : Nat := 8
abbrev F_cartularylaw24_ModzipHashed : Nat := 9
abbrev F_cartularylaw23_ZipPacked : Nat := 10
abbrev F_cartularylaw24_ModzipTurns : Nat := 11
abbrev F_cartularylaw09_Short : Nat := 12
abbrev F_zip_Write : Nat := 13
abbrev F_cartularyref23_Check : Nat := 14
abbrev F_cartularylaw23_awake : Nat := 15
abbrev F_zip_Check : Nat := 16
abbrev F_cartularyref23_Same : Nat := 17
abbrev F_zip_Read : Nat := 18
abbrev F_cartularyref23_Text : Nat := 19
abbrev F_cartularylaw01_Few : Nat := 20
abbrev F_cartularylaw23_plain : Nat := 21
abbrev F_cartularylaw24_awake : Nat := 22
abbrev F_modzip_Hash : Nat := 23
abbrev F_cartularyref24_Hash : Nat := 24
abbrev F_cartularyref02_Table : Nat := 25
abbrev F_cartularylaw24_Short : Nat := 26
abbrev F_modzip_Select : Nat := 27
abbrev F_inflate_Deflate : Nat := 28
abbrev F_cartularyref23_Archive : Nat := 29
abbrev F_modzip_Pack : Nat := 30
abbrev F_cartularylaw07_Few : Nat := 31
abbrev F_zip_facts : Nat := 32
abbrev F_sums_Crc32 : Nat := 33
abbrev F_zip_two : Nat := 34
abbrev F_zip_four : Nat := 35
abbrev F_cartularyref07_Clean : Nat := 36
abbrev F_snap_Clean : Nat := 37
abbrev F_zip_Read_1 : Nat := 38
abbrev F_zip_reader_want : Nat := 39
abbrev F_zip_reader_number : Nat := 40
abbrev F_zip_must : Nat := 41
abbrev F_zip_reader_head : Nat := 42
abbrev F_zip_reader_take : Nat := 43
abbrev F_zip_entry_unpack : Nat := 44
abbrev F_modzip_prefixed : Nat := 45
abbrev F_modzip_Front : Nat := 46
abbrev F_slices_SortStableFunc : Nat := 47
abbrev F_modzip_Hash_1 : Nat := 48
abbrev F_strings_Compare : Nat := 49
abbrev F_sha_Hash256_Write : Nat := 50
abbrev F_sums_Hex : Nat := 51
abbrev F_sha_Sum256 : Nat := 52
abbrev F_sums_Base64 : Nat := 53
abbrev F_sha_Hash256_Sum : Nat := 54
abbrev F_cartularyref24_Sorted : Nat := 55
abbrev F_cartularyref24_Ahead : Nat := 56
abbrev F_cartularyref01_Hex : Nat := 57
abbrev F_cartularyref02_Sum256 : Nat := 58
abbrev F_cartularyref01_Base64 : Nat := 59
abbrev F_cartularyref02_primes : Nat := 60
abbrev F_cartularyref02_Roots : Nat := 61
abbrev F_strings_CutPrefix : Nat := 62
abbrev F_modzip_Item_plain : Nat := 63
abbrev F_strings_HasSuffix : Nat := 64
abbrev F_strings_TrimSuffix : Nat := 65
abbrev F_modzip_Select_1 : Nat := 66
abbrev F_slices_ContainsFunc : Nat := 67
abbrev F_modzip_Select_1_1 : Nat := 68
abbrev F_strings_HasPrefix : Nat := 69
abbrev F_modzip_vendored : Nat := 70
abbrev F_slices_ContainsFunc_2 : Nat := 71
abbrev F_modzip_Select_2 : Nat := 72
abbrev F_modzip_Select_3 : Nat := 73
abbrev F_modzip_check : Nat := 74
abbrev F_inflate_fixed : Nat := 75
abbrev F_bitin_Writer_Bits : Nat := 76
abbrev F_huff_Table_Code : Nat := 77
abbrev F_bitin_Writer_Code : Nat := 78
abbrev F_inflate_symbolOf : Nat := 79
abbrev F_inflate_lengthBase : Nat := 80
abbrev F_inflate_distBase : Nat := 81
abbrev F_bitin_Writer_Text : Nat := 82
abbrev F_inflate_Stored : Nat := 83
abbrev F_cartularyref23_Facts : Nat := 84
abbrev F_cartularyref23_little : Nat := 85
abbrev F_sums_Crc_Write : Nat := 86
abbrev F_sums_Crc_Sum : Nat := 87
abbrev F_sums_Little : Nat := 88
abbrev F_cartularyref07_Parts : Nat := 89
abbrev F_strings_SplitSeq : Nat := 90
abbrev F_strings_ContainsFunc : Nat := 91
abbrev F_snap_Clean_1 : Nat := 92
abbrev F_sums_FromLittle : Nat := 93
abbrev F_inflate_Inflate : Nat := 94
abbrev F_slices_Clone : Nat := 95
abbrev F_slices_stableCmpFunc : Nat := 96
abbrev F_bytealg_CompareString : Nat := 97
abbrev F_sha_hash_write : Nat := 98
abbrev F_sha_start256 : Nat := 99
abbrev F_sha_block256 : Nat := 100
abbrev F_sha_hash_sum : Nat := 101
abbrev F_cartularyref24_put : Nat := 102
abbrev F_cartularyref02_Pad : Nat := 103
abbrev F_cartularyref02_words : Nat := 104
abbrev F_cartularyref02_turn : Nat := 105
abbrev F_cartularyref02_out : Nat := 106
abbrev F_cartularyref02_under : Nat := 107
abbrev F_stringslite_CutPrefix : Nat := 108
abbrev F_stringslite_HasSuffix : Nat := 109
abbrev F_stringslite_TrimSuffix : Nat := 110
abbrev F_slices_IndexFunc : Nat := 111
abbrev F_stringslite_HasPrefix : Nat := 112
abbrev F_strings_Contains : Nat := 113
abbrev F_slices_IndexFunc_2 : Nat := 114
abbrev F_modfile_FilePath : Nat := 115
abbrev F_modzip_fold : Nat := 116
abbrev F_huff_New : Nat := 117
abbrev F_bitin_Writer_Bytes : Nat := 118
abbrev F_cartularyref01_Little : Nat := 119
abbrev F_cartularyref01_Crc32 : Nat := 120
abbrev F_strings_splitSeq : Nat := 121
abbrev F_strings_IndexFunc : Nat := 122
abbrev F_bitin_New : Nat := 123
abbrev F_inflate_state_run : Nat := 124
abbrev F_bitin_Reader_Used : Nat := 125
abbrev F_slices_insertionSortCmpFunc : Nat := 126
abbrev F_slices_symMergeCmpFunc : Nat := 127
abbrev F_bytealg_abigen_runtime_cmpstring : Nat := 128
abbrev F_sha_table256 : Nat := 129
abbrev F_sha_word : Nat := 130
abbrev F_bits_RotateLeft32 : Nat := 131
abbrev F_cartularyref02_mul : Nat := 132
abbrev F_strings_Index : Nat := 133
abbrev F_strings_ContainsAny : Nat := 134
abbrev F_bitin_Writer_Align : Nat := 135
abbrev F_strings_splitSeq_1 : Nat := 136
abbrev F_utf8_DecodeRuneInString : Nat := 137
abbrev F_strings_indexFunc : Nat := 138
abbrev F_bitin_Reader_Bits : Nat := 139
abbrev F_inflate_state_stored : Nat := 140
abbrev F_inflate_state_tables : Nat := 141
abbrev F_huff_Table_Read : Nat := 142
abbrev F_inflate_state_put : Nat := 143
abbrev F_inflate_state_repeat : Nat := 144
abbrev F_slices_rotateCmpFunc : Nat := 145
abbrev F_stringslite_Index : Nat := 146
abbrev F_strings_IndexAny : Nat := 147
abbrev F_utf8_decodeRuneInStringSlow : Nat := 148
abbrev F_bitin_Reader_Peek : Nat := 149
abbrev F_bitin_Reader_Skip : Nat := 150
abbrev F_bitin_Reader_Bytes : Nat := 151
abbrev F_bitin_Reader_Left : Nat := 152
abbrev F_inflate_order : Nat := 153
abbrev F_slices_swapRangeCmpFunc : Nat := 154
abbrev F_stringslite_IndexByte : Nat := 155
abbrev F_bytealg_IndexString : Nat := 156
abbrev F_bytealg_Cutover : Nat := 157
abbrev F_bytealg_IndexRabinKarp : Nat := 158
abbrev F_strings_IndexRune : Nat := 159
abbrev F_strings_shouldUseASCIISet : Nat := 160
abbrev F_strings_makeASCIISet : Nat := 161
abbrev F_strings_asciiSet_contains : Nat := 162
abbrev F_bitin_Reader_fill : Nat := 163
abbrev F_bitin_Reader_Align : Nat := 164
abbrev F_bytealg_IndexByteString : Nat := 165
abbrev F_bytealg_hashStr : Nat := 166
abbrev F_strings_IndexByte : Nat := 167
abbrev F_utf8_ValidRune : Nat := 168
abbrev F_runtime_boundsError_Error : Nat := 169
abbrev F_runtime_boundsError_RuntimeError : Nat := 170
abbrev F_runtime_errorString_Error : Nat := 171
abbrev F_runtime_errorString_RuntimeError : Nat := 172
abbrev F_runtime_plainError_Error : Nat := 173
abbrev F_runtime_plainError_RuntimeError : Nat := 174
abbrev F_runtime_errorAddressString_Error : Nat := 175
abbrev F_runtime_errorAddressString_RuntimeError : Nat := 176
abbrev F_runtime_TypeAssertionError_Error : Nat := 177
abbrev F_runtime_TypeAssertionError_RuntimeError : Nat := 178
abbrev F_runtime_PanicNilError_Error : Nat := 179
abbrev F_runtime_PanicNilError_RuntimeError : Nat := 180
abbrev F_abi_Type_Align : Nat := 181
abbrev F_maps_unhashableTypeError_Error : Nat := 182
abbrev F_maps_unhashableTypeError_RuntimeError : Nat := 183
abbrev F_abi_Kind_String : Nat := 184
abbrev F_var_s_door_gosem_cut_vars_holds_initialisers_alone_see_the_manifest_s_row_cutvarsword_look_11_test_files_too_ : Nat := 185
abbrev F_var_s_door_the_look_of_gosem_cut_vars_went_over_the_folder_that_the_caller_named_as_the_repository_s_root_look_11_ : Nat := 186
abbrev F_utf8_acceptRanges_is_laid_by_its_own_initialiser_plain_data_look_11_ : Nat := 187
abbrev F_utf8_first_is_laid_by_its_text_alone_pinned_1_ : Nat := 188
abbrev F_gosem_cut_vars : Nat := 189
abbrev T_int64 : Nat := 2
abbrev T_int : Nat := 3
abbrev T_bool : Nat := 4
abbrev T_uint8 : Nat := 5
abbrev T_abi_BoundsErrorCode : Nat := 6
abbrev T_runtime_boundsError : Nat := 8
abbrev T_string : Nat := 9
abbrev T_runtime_errorString : Nat := 10
abbrev T_runtime_plainError : Nat := 11
abbrev T_uintptr : Nat := 12
abbrev T_runtime_errorAddressString : Nat := 14
abbrev T_P_runtime_TypeAssertionError : Nat := 15
abbrev T_P_runtime_PanicNilError : Nat := 16
abbrev T_P_abi_Type : Nat := 17
abbrev T_maps_unhashableTypeError : Nat := 19
abbrev T_int32 : Nat := 21
abbrev T_S_api_File : Nat := 22
abbrev T_api_Errno : Nat := 24
abbrev T_S_uint8 : Nat := 35
abbrev T_api_File : Nat := 37
abbrev T_S_uint32 : Nat := 44
abbrev T_S_modzip_Item : Nat := 47
abbrev T_modzip_Item : Nat := 51
abbrev T_S_bool : Nat := 54
abbrev T_S_string : Nat := 55
abbrev T_S_int : Nat := 56
abbrev T_uint32 : Nat := 62
abbrev T_zip_wrong : Nat := 66
abbrev T_P_zip_reader : Nat := 68
abbrev T_zip_reader : Nat := 70
abbrev T_S_zip_entry : Nat := 74
abbrev T_zip_head : Nat := 76
abbrev T_zip_entry : Nat := 79
abbrev T_uint64 : Nat := 85
abbrev T_sha_hash : Nat := 87
abbrev T_sha_Hash256 : Nat := 89
abbrev T_S_uint64 : Nat := 94
abbrev T_bitin_Writer : Nat := 104
abbrev T_P_huff_Table : Nat := 105
abbrev T_map_string_int : Nat := 109
abbrev T_sums_Crc : Nat := 119
abbrev T_iter_Seq : Nat := 124
abbrev T_P_sha_Hash256 : Nat := 132
abbrev T_uint : Nat := 135
abbrev T_3_uint8 : Nat := 136
abbrev T_map_string_bool : Nat := 146
abbrev T_P_bitin_Writer : Nat := 149
abbrev T_16_int : Nat := 150
abbrev T_huff_Table : Nat := 152
abbrev T_P_sums_Crc : Nat := 154
abbrev T_P_inflate_state : Nat := 157
abbrev T_P_bitin_Reader : Nat := 158
abbrev T_inflate_state : Nat := 161
abbrev T_P_sha_hash : Nat := 166
abbrev T_sha_block : Nat := 167
abbrev T_64_uint32 : Nat := 168
abbrev T_8_uint32 : Nat := 170
abbrev T_bitin_Reader : Nat := 177
abbrev T_19_int : Nat := 188
abbrev T_256_bool : Nat := 192
abbrev T_strings_asciiSet : Nat := 193
abbrev T_256_uint8 : Nat := 197
abbrev T_utf8_acceptRange : Nat := 199
abbrev T_16_utf8_acceptRange : Nat := 200
abbrev T_P_strings_asciiSet : Nat := 204
abbrev T_runtime_TypeAssertionError : Nat := 206
abbrev T_0_P_runtime_PanicNilError : Nat := 207
abbrev T_runtime_PanicNilError : Nat := 209
abbrev T_abi_TFlag : Nat := 210
abbrev T_abi_Kind : Nat := 211
abbrev T_P_uint8 : Nat := 213
abbrev T_abi_NameOff : Nat := 214
abbrev T_abi_TypeOff : Nat := 215
abbrev T_abi_Type : Nat := 217
abbrev G_bytealg_MaxLen : Nat := 0
abbrev G_utf8_first : Nat := 1
abbrev G_utf8_acceptRanges : Nat := 2
end Go.Proofs.YtfoeooddnmppnaaDoor

/- Files in memory: a row of structs of two texts. No condition. -/
set_option linter.unusedVariables false
namespace Go.Proofs.YtfoeooddnmppnaaDoor
open Go Vc Go.Proofs

structure FileE where
  path : ByteArray
  data : ByteArray
instance : Inhabited FileE := ⟨⟨⟨#[]⟩, ⟨#[]⟩⟩⟩
def encF (f : FileE) : List Value := [.string f.path, .string f.data]
theorem elF : ElK encF 2 Tryd.prog T_S_api_File T_api_File (.agg #[.string ⟨#[]⟩, .string ⟨#[]⟩]) 32 :=
  ⟨by kernel_rfl, by kernel_rfl, rfl, by decide, by kernel_rfl, fun _ => rfl, fun x u hu => by
    simp only [encF, List.mem_cons, List.mem_nil_iff, or_false] at hu
    rcases hu with rfl | rfl <;> rfl⟩
theorem boxF_run (w : World) (x : FileE) : (storeVar T_api_File ⟨w.heap.size, 0, none⟩ (.agg #[.string x.path, .string x.data])).run Tryd.prog (w.alloc (.cells #[.string ⟨#[]⟩, .string ⟨#[]⟩] T_api_File)) = .ok () (w.alloc (.cells (encF x).toArray T_api_File)) :=
  run_storeVar_new w T_api_File _ _ (by kernel_rfl) rfl (by simp [Value.oneCell'])
theorem boxF_cell (w : World) (x : FileE) {w' : World} {X : Nat → Prop} (hf : Fr X (w.alloc (.cells (encF x).toArray T_api_File)) w') (hx : ¬ X w.heap.size) {j : Nat} {v : Value} (hv : (encF x)[j]? = some v) : w'.cell? ⟨w.heap.size, j, none⟩ = some v :=
  hf.cell (by rw [cell_blk (alloc_new w _)]; simpa using hv) hx
def totalF (xs : List FileE) : Nat := (xs.map fun x => x.data.size).sum
theorem totalF_take {xs : List FileE} {k : Nat} {x : FileE} (h : xs[k]? = some x) : totalF (xs.take (k + 1)) = totalF (xs.take k) + x.data.size := by
  unfold totalF
  rw [List.take_add_one, h, List.map_append, List.sum_append]; simp
theorem totalF_le (xs : List FileE) (k : Nat) : totalF (xs.take k) ≤ totalF xs := by
  have : totalF xs = totalF (xs.take k) + totalF (xs.drop k) := by
    unfold totalF
    rw [← List.sum_append, ← List.map_append, List.take_append_drop]
  omega
end Go.Proofs.YtfoeooddnmppnaaDoor

/- Texts as lists of bytes: places, parts, runes, the model's iterator over a text. No condition: for all programs. -/
set_option linter.unusedVariables false
namespace Vc
open Go

theorem bs_len (s : ByteArray) : s.data.toList.length = s.size := by simp
theorem bs_ext {a b : ByteArray} (h : a.data.toList = b.data.toList) : a = b := ByteArray.ext (Array.ext' h)
theorem bs_app (a b : ByteArray) : (a ++ b).data.toList = a.data.toList ++ b.data.toList := by simp
theorem bs_mk (l : List UInt8) : (⟨l.toArray⟩ : ByteArray).data.toList = l := by simp
theorem bs_mksize (l : List UInt8) : (⟨l.toArray⟩ : ByteArray).size = l.length := by simp [ByteArray.size]
theorem bs_self (s : ByteArray) : (⟨s.data.toList.toArray⟩ : ByteArray) = s := bs_ext (by simp)
theorem bs_extract (s : ByteArray) (i j : Nat) : (s.extract i j).data.toList = (s.data.toList.drop i).take (j - i) := by
  rw [ByteArray.data_extract, Array.toList_extract, List.extract_eq_take_drop]
theorem bs_tail (s : ByteArray) (i : Nat) : (s.extract i s.size).data.toList = s.data.toList.drop i := by
  rw [bs_extract, List.take_of_length_le (by rw [List.length_drop, bs_len]; exact Nat.le_refl _)]
theorem bs_head (s : ByteArray) (i : Nat) : (s.extract 0 i).data.toList = s.data.toList.take i := by rw [bs_extract]; simp
theorem bs_empty {s : ByteArray} : s = ⟨#[]⟩ ↔ s.size = 0 := by
  constructor
  · rintro rfl; rfl
  · intro h
    have : s.data.toList = [] := List.length_eq_zero_iff.1 (by rw [bs_len]; exact h)
    exact bs_ext (by rw [this])
theorem bs_eq (a b : ByteArray) : (a.toList == b.toList) = decide (a = b) := by
  rw [ByteArray.toList_eq, ByteArray.toList_eq]
  by_cases h : a = b
  · subst h; simp
  · rw [decide_eq_false h, beq_eq_false_iff_ne]
    exact fun e => h (bs_ext e)
theorem bs_byt {s : ByteArray} {i : Nat} (h : i < s.size) : byt s i = (s.data.toList[i]'(by rw [bs_len]; exact h)).toNat := by
  unfold byt; rw [List.getElem?_eq_getElem (by rw [bs_len]; exact h)]; rfl
theorem bs_get {s : ByteArray} {i : Nat} (h : i < s.size) : s.data.toList[i]? = some (UInt8.ofNat (byt s i)) := by
  rw [bs_byt h, List.getElem?_eq_getElem (by rw [bs_len]; exact h), UInt8.ofNat_toNat]
theorem bs_get? {s : ByteArray} {i : Nat} {c : UInt8} (h : s.data.toList[i]? = some c) : i < s.size ∧ byt s i = c.toNat := by
  obtain ⟨hl, hc⟩ := List.getElem?_eq_some_iff.1 h
  rw [bs_len] at hl
  exact ⟨hl, by rw [bs_byt hl, hc]⟩
theorem bs_take {s : ByteArray} {n : Nat} (h : n < s.size) : s.data.toList.take (n + 1) = s.data.toList.take n ++ [UInt8.ofNat (byt s n)] := by
  have hlt : n < s.data.toList.length := by rw [bs_len]; exact h
  rw [List.take_succ_eq_append_getElem hlt, bs_byt h, UInt8.ofNat_toNat]
theorem bs_all (s : ByteArray) : s.data.toList.take s.size = s.data.toList := List.take_of_length_le (by simp)
theorem bv_snoc (l : List UInt8) (c : Nat) (h : c < 256) : byteV l ++ [.int .u8 (c : Int)] = byteV (l ++ [UInt8.ofNat c]) := by
  simp [byteV]
  omega
theorem bv_len (l : List UInt8) : (byteV l).length = l.length := by simp [byteV]
theorem bv_one (l : List UInt8) : ∀ u ∈ byteV l, u.oneCell' = true := fun u h => by
  obtain ⟨b, _, rfl⟩ := List.mem_map.1 h; rfl
theorem toNat_of (c : Nat) (h : c < 256) : (UInt8.ofNat c).toNat = c := by simp; omega
theorem ofNat_inj {a b : Nat} (ha : a < 256) (hb : b < 256) (h : UInt8.ofNat a = UInt8.ofNat b) : a = b := by
  have := congrArg UInt8.toNat h
  rwa [toNat_of a ha, toNat_of b hb] at this
/-- Texts that differ nowhere. -/
theorem bs_ext_byt {a b : ByteArray} (hs : a.size = b.size) (h : ∀ i, i < a.size → byt a i = byt b i) : a = b := by
  refine bs_ext (List.ext_getElem? fun i => ?_)
  by_cases hi : i < a.size
  · rw [bs_get hi, bs_get (by omega), h i hi]
  · rw [List.getElem?_eq_none (by rw [bs_len]; omega), List.getElem?_eq_none (by rw [bs_len]; omega)]
theorem byt_extract {s : ByteArray} {i j k : Nat} (hj : j ≤ s.size) (hk : k < j - i) : byt (s.extract i j) k = byt s (i + k) := by
  unfold byt
  rw [bs_extract, List.getElem?_take, if_pos hk, List.getElem?_drop]

/-! ### Where a byte comes first -/
open Go.Lib in
theorem fnd_cases (s : ByteArray) (c : UInt8) : (indexByte s.data.toList c = -1 ∧ ∀ k, k < s.size → byt s k ≠ c.toNat) ∨
    ∃ i : Nat, indexByte s.data.toList c = (i : Int) ∧ i < s.size ∧ byt s i = c.toNat ∧ ∀ k, k < i → byt s k ≠ c.toNat := by
  by_cases h : indexByte s.data.toList c = -1
  · refine .inl ⟨h, fun k hk he => indexByte_none h k ?_⟩
    rw [bs_get hk, he, UInt8.ofNat_toNat]
  · have hg := indexByte_ge s.data.toList c
    obtain ⟨i, hi⟩ := Int.eq_ofNat_of_zero_le (show 0 ≤ indexByte s.data.toList c by omega)
    obtain ⟨h1, h2⟩ := indexByte_some hi
    obtain ⟨h3, h4⟩ := bs_get? h1
    refine .inr ⟨i, hi, h3, h4, fun k hk he => h2 k hk ?_⟩
    rw [bs_get (by omega), he, UInt8.ofNat_toNat]
open Go.Lib in
theorem fnd_at {s : ByteArray} {c : UInt8} {i : Nat} (h : i < s.size) (hc : byt s i = c.toNat) (hn : ∀ k, k < i → byt s k ≠ c.toNat) : indexByte s.data.toList c = (i : Int) := by
  rcases fnd_cases s c with ⟨_, h2⟩ | ⟨j, h1, h2, h3, h4⟩
  · exact absurd hc (h2 i h)
  · rw [h1]
    by_cases hij : i < j
    · exact absurd hc (h4 i hij)
    · by_cases hji : j < i
      · exact absurd h3 (hn j hji)
      · have : i = j := by omega
        rw [this]
open Go.Lib in
theorem fnd_no {s : ByteArray} {c : UInt8} (h : ∀ k, k < s.size → byt s k ≠ c.toNat) : indexByte s.data.toList c = -1 := by
  rcases fnd_cases s c with ⟨h1, _⟩ | ⟨i, _, h2, h3, _⟩
  · exact h1
  · exact absurd h3 (h i h2)

/-! ### Runes -/
theorem get_byt {s : ByteArray} {i : Nat} (h : i < s.size) : (s.get! i).toNat = byt s i := by
  rw [bs_byt h]
  obtain ⟨d⟩ := s
  have h' : i < d.size := h
  show (d[i]!).toNat = _
  rw [getElem!_pos d i h']
  simp
theorem dec_high {s : ByteArray} {p : Nat} (h : p < s.size) (hb : 128 ≤ byt s p) :
    128 ≤ (Utf8.decode s p).1 ∧ (Utf8.decode s p).1 ≤ 1114111 ∧ 1 ≤ (Utf8.decode s p).2 ∧ p + (Utf8.decode s p).2 ≤ s.size ∧ ∀ j, p ≤ j → j < p + (Utf8.decode s p).2 → 128 ≤ byt s j := by
  have hb0 := byt_lt s p
  have g0 : (s.get! (p + 0)).toNat = byt s p := get_byt h
  have one : 128 ≤ ((65533, 1) : Nat × Nat).1 ∧ ((65533, 1) : Nat × Nat).1 ≤ 1114111 ∧ 1 ≤ ((65533, 1) : Nat × Nat).2 ∧ p + ((65533, 1) : Nat × Nat).2 ≤ s.size ∧ ∀ j, p ≤ j → j < p + ((65533, 1) : Nat × Nat).2 → 128 ≤ byt s j :=
    ⟨by decide, by decide, by decide, h, fun j h1 h2 => by have : j = p := by simp only at h2; omega
                                                           rw [this]; exact hb⟩
  have cont : ∀ k, p + k < s.size → (s.get! (p + k)).toNat / 64 = 2 → 128 ≤ byt s (p + k) := fun k hk hc => by
    rw [get_byt hk] at hc; omega
  unfold Utf8.decode Utf8.runeError
  simp only [g0]
  rw [if_neg (by omega)]
  split
  · rename_i hc
    simp only [Bool.and_eq_true, beq_iff_eq, decide_eq_true_eq] at hc
    obtain ⟨h1, h2, h3⟩ := hc
    split
    · rename_i hv
      refine ⟨hv, by simp only; omega, by simp, by simp only; omega, fun j hj1 hj2 => ?_⟩
      simp only at hj2
      by_cases hjp : j = p
      · rw [hjp]; exact hb
      · have : j = p + 1 := by omega
        rw [this]; exact cont 1 h2 h3
    · exact one
  · split
    · rename_i hc
      simp only [Bool.and_eq_true, beq_iff_eq, decide_eq_true_eq] at hc
      obtain ⟨⟨h1, h2, h3⟩, h4, h5⟩ := hc
      split
      · rename_i hv
        simp only [Bool.and_eq_true, decide_eq_true_eq] at hv
        refine ⟨by simp only; omega, by simp only; omega, by simp, by simp only; omega, fun j hj1 hj2 => ?_⟩
        simp only at hj2
        by_cases hjp : j = p
        · rw [hjp]; exact hb
        · by_cases hj1' : j = p + 1
          · rw [hj1']; exact cont 1 h2 h3
          · have : j = p + 2 := by omega
            rw [this]; exact cont 2 h4 h5
      · exact one
    · split
      · rename_i hc
        simp only [Bool.and_eq_true, beq_iff_eq, decide_eq_true_eq] at hc
        obtain ⟨⟨⟨h1, h2, h3⟩, h4, h5⟩, h6, h7⟩ := hc
        split
        · rename_i hv
          simp only [Bool.and_eq_true, decide_eq_true_eq] at hv
          have hval := hv.2
          simp only [Utf8.valid, Bool.or_eq_true, Bool.and_eq_true, decide_eq_true_eq] at hval
          refine ⟨by simp only; omega, by simp only; omega, by simp, by simp only; omega, fun j hj1 hj2 => ?_⟩
          simp only at hj2
          by_cases hjp : j = p
          · rw [hjp]; exact hb
          · by_cases hj1' : j = p + 1
            · rw [hj1']; exact cont 1 h2 h3
            · by_cases hj2' : j = p + 2
              · rw [hj2']; exact cont 2 h4 h5
              · have : j = p + 3 := by omega
                rw [this]; exact cont 3 h6 h7
        · exact one
      · exact one
theorem dec_low {s : ByteArray} {p : Nat} (h : p < s.size) (hb : byt s p < 128) : Utf8.decode s p = (byt s p, 1) := by
  have g0 : (s.get! (p + 0)).toNat = byt s p := get_byt h
  unfold Utf8.decode
  simp only [g0]
  rw [if_pos (by omega)]
/-- An iterator over a text. -/
def IsIter (w : World) (k : Nat) (s : ByteArray) (p : Nat) : Prop := w.heap[k]? = some (.stringIter s p)
theorem IsIter.keep {w w1 : World} {k p : Nat} {s : ByteArray} (h : IsIter w k s p) {X : Nat → Prop} (hf : Fr X w w1) (hx : ¬ X k) : IsIter w1 k s p := hf.keep h hx
section
variable {P : Program}
theorem iter_new {w : World} {t : TypeId} {s : ByteArray} (ht : P.underlying t = some .string) :
    ∃ w', (Instr.range t (.string s)).run P w = .ok (.pointer (some ⟨w.heap.size, 0, none⟩)) w' ∧ IsIter w' w.heap.size s 0 ∧ Fr (fun _ => False) w w' :=
  ⟨_, run_range_string w t s ht, World.iter_heap w s 0, .alloc _ _ _⟩
theorem iter_end {w : World} {k p : Nat} {s : ByteArray} (h : IsIter w k s p) (hp : s.size ≤ p) (ty : TypeId) : (Instr.next (.pointer (some ⟨k, 0, none⟩)) true ty).run P w = .ok (.tuple #[.bool false]) w :=
  Lib.run_next_end_at w k s p ty h (by omega)
theorem iter_next {w : World} {k p : Nat} {s : ByteArray} (h : IsIter w k s p) (hp : p < s.size) (ty : TypeId) :
    ∃ w', (Instr.next (.pointer (some ⟨k, 0, none⟩)) true ty).run P w = .ok (.tuple #[.bool true, .int .i64 p, .int .i32 (Utf8.decode s p).1]) w' ∧ IsIter w' k s (p + (Utf8.decode s p).2) ∧ Fr (· = k) w w' :=
  ⟨_, Lib.run_next_any_at w k s p ty h hp, Lib.iterAt_heap w k s p _ h, ⟨rfl, rfl, rfl, by rw [Lib.iterAt_size]; exact Nat.le_refl _, fun j _ hj => Lib.iterAt_other w k j s _ hj⟩⟩
end
end Vc
namespace Vc
open Go
/-- How much an iterator has ahead of it. -/
def itLeft (k : Nat) (w : World) : Nat := match w.heap[k]? with
  | some (.stringIter s p) => s.size - p
  | _ => 0
theorem IsIter.left {w : World} {k p : Nat} {s : ByteArray} (h : IsIter w k s p) : itLeft k w = s.size - p := by
  unfold itLeft; rw [h]
/-- A rune's text. -/
theorem enc_high {r : Nat} (h : 128 ≤ r) : 2 ≤ (Utf8.encode r).size ∧ (Utf8.encode r).size ≤ 4 ∧ 128 ≤ byt (Utf8.encode r) ((Utf8.encode r).size - 1) := by
  have key : ∀ c : Nat, 128 ≤ c → ∀ (b : Nat → UInt8), (b = fun n => UInt8.ofNat n) →
      let t : ByteArray := if c < 0x80 then ⟨#[b c]⟩ else if c < 0x800 then ⟨#[b (0xC0 + c / 64), b (0x80 + c % 64)]⟩ else if c < 0x10000 then ⟨#[b (0xE0 + c / 4096), b (0x80 + c / 64 % 64), b (0x80 + c % 64)]⟩
        else ⟨#[b (0xF0 + c / 262144), b (0x80 + c / 4096 % 64), b (0x80 + c / 64 % 64), b (0x80 + c % 64)]⟩
      2 ≤ t.size ∧ t.size ≤ 4 ∧ 128 ≤ byt t (t.size - 1) := by
    intro c hc b hb
    subst hb
    have hl : 128 ≤ (UInt8.ofNat (0x80 + c % 64)).toNat := by rw [toNat_of _ (by omega)]; omega
    dsimp only
    rw [if_neg (by omega)]
    split
    · exact ⟨Nat.le_refl 2, show (2 : Nat) ≤ 4 by decide, hl⟩
    · split
      · exact ⟨show (2 : Nat) ≤ 3 by decide, show (3 : Nat) ≤ 4 by decide, hl⟩
      · exact ⟨show (2 : Nat) ≤ 4 by decide, show (4 : Nat) ≤ 4 by decide, hl⟩
  unfold Utf8.encode Utf8.runeError
  split
  · exact key _ (by simp only [Int.toNat_natCast]; exact h) _ rfl
  · exact key _ (by decide) _ rfl
end Vc

/- Beginnings of texts in plain. No condition. -/
set_option linter.unusedVariables false
namespace Go.Proofs.YtfoeooddnmppnaaDoor
open Go Vc Go.Proofs

/-- Does s begin with t? -/
def begB (s t : ByteArray) : Bool := decide (t.data.toList <+: s.data.toList)
theorem begB_cut {s t : ByteArray} (h : t.size ≤ s.size) : (ByteArray.toList (s.extract 0 t.size) == ByteArray.toList t) = begB s t := by
  rw [bs_eq]
  unfold begB
  refine decide_eq_decide.2 ⟨fun e => ?_, fun e => ?_⟩
  · rw [← e, bs_head]; exact List.take_prefix _ _
  · obtain ⟨r, hr⟩ := e
    refine bs_ext ?_
    rw [bs_head, ← hr, ← bs_len, List.take_left]
theorem begB_short {s t : ByteArray} (h : ¬ t.size ≤ s.size) : begB s t = false := decide_eq_false fun e => h (by rw [← bs_len, ← bs_len]; exact e.length_le)
theorem beg_le {s t : ByteArray} (h : begB s t = true) : t.size ≤ s.size := by
  have := (of_decide_eq_true h : t.data.toList <+: s.data.toList).length_le
  rw [bs_len, bs_len] at this; exact this
theorem pre_between : ∀ (a b c : List UInt8), ¬ b < a → ¬ c < b → a <+: c → a <+: b
  | [], b, c, _, _, _ => List.nil_prefix
  | x :: a, [], c, h, _, _ => absurd (List.nil_lt_cons x a) h
  | x :: a, y :: b, [], _, _, h => by simp at h
  | x :: a, y :: b, z :: c, h1, h2, h3 => by
    rw [List.cons_prefix_cons] at h3 ⊢
    obtain ⟨rfl, h3⟩ := h3
    rw [List.cons_lt_cons_iff] at h1 h2
    have e1 : ¬ y < x := fun h => h1 (.inl h)
    have e2 : ¬ x < y := fun h => h2 (.inl h)
    have e : x = y := UInt8.toNat_inj.1 (by rw [UInt8.lt_iff_toNat_lt] at e1 e2; omega)
    subst e
    exact ⟨rfl, pre_between a b c (fun h => h1 (.inr ⟨rfl, h⟩)) (fun h => h2 (.inr ⟨rfl, h⟩)) h3⟩
theorem pre_le : ∀ (a c : List UInt8), a <+: c → ¬ c < a
  | [], c, _ => by simp
  | x :: a, [], h => by simp at h
  | x :: a, z :: c, h => by
    rw [List.cons_prefix_cons] at h
    obtain ⟨rfl, h⟩ := h
    rw [List.cons_lt_cons_iff]
    rintro (h1 | ⟨_, h1⟩)
    · rw [UInt8.lt_iff_toNat_lt] at h1; omega
    · exact pre_le a c h h1
theorem filter_mid {α : Type} (f : α → Bool) (xs : List α) {i m : Nat} (him : i ≤ m) (h1 : ∀ k x, xs[k]? = some x → k < i → f x = false) (h2 : ∀ k x, xs[k]? = some x → i ≤ k → k < m → f x = true) (h3 : ∀ k x, xs[k]? = some x → m ≤ k → f x = false) : xs.filter f = (xs.take m).drop i := by
  have hx : xs = (xs.take m).take i ++ (xs.take m).drop i ++ xs.drop m := by rw [List.take_append_drop, List.take_append_drop]
  have e1 : ((xs.take m).take i).filter f = [] := by
    rw [List.filter_eq_nil_iff]
    intro x hx
    obtain ⟨k, hk⟩ := List.mem_iff_getElem?.1 hx
    rw [List.getElem?_take] at hk
    split at hk
    · rename_i hki
      rw [List.getElem?_take, if_pos (by omega)] at hk
      rw [h1 k x hk hki]; decide
    · cases hk
  have e2 : ((xs.take m).drop i).filter f = (xs.take m).drop i := by
    rw [List.filter_eq_self]
    intro x hx
    obtain ⟨k, hk⟩ := List.mem_iff_getElem?.1 hx
    rw [List.getElem?_drop, List.getElem?_take] at hk
    split at hk
    · rename_i hki
      exact h2 _ x hk (by omega) hki
    · cases hk
  have e3 : (xs.drop m).filter f = [] := by
    rw [List.filter_eq_nil_iff]
    intro x hx
    obtain ⟨k, hk⟩ := List.mem_iff_getElem?.1 hx
    rw [List.getElem?_drop] at hk
    rw [h3 _ x hk (by omega)]; decide
  conv => lhs; rw [hx]
  rw [List.filter_append, List.filter_append, e1, e2, e3, List.nil_append, List.append_nil]
end Go.Proofs.YtfoeooddnmppnaaDoor

/- Does a text stand in another one, or at its end, in plain. No condition. -/
set_option linter.unusedVariables false
namespace Go.Proofs.YtfoeooddnmppnaaDoor
open Go Vc Go.Proofs

/-- Does t stand somewhere? -/
def hasL (t : List UInt8) : List UInt8 → Bool
  | [] => t.isEmpty
  | c :: r => t.isPrefixOf (c :: r) || hasL t r
theorem hasL_index (t : List UInt8) : ∀ l : List UInt8, decide (0 ≤ Lib.index l t) = hasL t l
  | [] => by
    unfold Lib.index hasL
    cases t.isEmpty <;> rfl
  | c :: r => by
    have ih := hasL_index t r
    have hg := Lib.index_ge r t
    rw [hasL, Lib.index]
    by_cases hp : t.isPrefixOf (c :: r) = true
    · rw [if_pos hp, hp]; rfl
    · rw [if_neg hp, Bool.eq_false_iff.2 hp, Bool.false_or, ← ih]
      by_cases h1 : Lib.index r t = -1
      · rw [if_pos (by rw [h1]; rfl), h1]
      · rw [if_neg (by simpa using h1)]
        exact decide_eq_decide.2 (by omega)
theorem hasL_front (t b : List UInt8) (h : hasL t b = true) : ∀ a : List UInt8, hasL t (a ++ b) = true
  | [] => h
  | c :: r => by rw [List.cons_append, hasL, hasL_front t b h r, Bool.or_true]
def sufL (t l : List UInt8) : Bool := decide (t <:+ l)
theorem hasL_pre {t l : List UInt8} (h : t <+: l) : hasL t l = true := by
  cases l with
  | nil =>
    have := List.prefix_nil.1 h
    subst this; rfl
  | cons c r => rw [hasL, List.isPrefixOf_iff_prefix.2 h]; rfl
theorem hasL_short {t : List UInt8} : ∀ {l : List UInt8}, l.length < t.length → hasL t l = false
  | [], h => by
    cases t with
    | nil => simp at h
    | cons a b => rfl
  | c :: r, h => by
    rw [hasL, hasL_short (l := r) (by simp at h; omega), Bool.or_false, Bool.eq_false_iff]
    intro hp
    have := (List.isPrefixOf_iff_prefix.1 hp).length_le
    omega
theorem hasL_step {t l : List UInt8} {k : Nat} (hk : k < l.length) (hn : ¬ t <+: l.drop k) : hasL t (l.drop k) = hasL t (l.drop (k + 1)) := by
  rw [List.drop_eq_getElem_cons hk] at hn ⊢
  rw [hasL, Bool.eq_false_iff.2 (fun h => hn (List.isPrefixOf_iff_prefix.1 h)), Bool.false_or]
theorem ext_pre {s t : ByteArray} {k : Nat} (h : k + t.size ≤ s.size) : decide (s.extract k (k + t.size) = t) = decide (t.data.toList <+: s.data.toList.drop k) := by
  refine decide_eq_decide.2 ?_
  rw [List.prefix_iff_eq_take, bs_len]
  refine ⟨fun e => ?_, fun e => bs_ext ?_⟩
  · conv => lhs; rw [← e]
    rw [bs_extract, show k + t.size - k = t.size by omega]
  · rw [bs_extract, show k + t.size - k = t.size by omega]; exact e.symm
def cutPre (s t : ByteArray) : ByteArray := if begB s t = true then s.extract t.size s.size else s
def cutSuf (s t : ByteArray) : ByteArray := if sufL t.data.toList s.data.toList = true then s.extract 0 (s.size - t.size) else s
end Go.Proofs.YtfoeooddnmppnaaDoor

/- Formulas of 11 Go functions of this seat (written by a program of the author's, vcgen.py), and that each is enough for the call. No condition. -/
set_option linter.unusedVariables false
namespace Go.Proofs.YtfoeooddnmppnaaDoor
open Go Vc Go.Proofs
set_option maxRecDepth 100000
/-- strings.IndexByte -/
def vc_strings_IndexByte (x0 : ByteArray) (x1 : Int) (w : World) (R : Value → World → Prop) : Prop :=
  Calls Tryd.prog (155 : Nat) (Array.mk [Value.string x0, Value.int IntKind.u8 x1]) (w) (fun e1 w2 =>
    ∃ n3 : Int, (e1 = Ending.returned (Value.int IntKind.i64 n3) ∧
     R (Value.int IntKind.i64 n3) w2))
theorem vc_strings_IndexByte_ok {x0 : ByteArray} {x1 : Int} {w : World} {R : Value → World → Prop} {R' : Ending → World → Prop} (h : vc_strings_IndexByte x0 x1 w R) (hR : ∀ v w', R v w' → R' (.returned v) w') :
    Calls Tryd.prog 167 #[.string x0, .int .u8 x1] w R' :=
  calls_of_body (vs := [(.string x0, false), (.int .u8 x1, false)]) (ty := ty) (ann := ⟨[], [], [], []⟩) (c := Tryd.f167.body.getD .skip) (by kernel_rfl) Tryd.func167 (by kernel_rfl) (by kernel_rfl) (Eq.mp (by kernel_rfl) h) hR
/-- internal/stringslite.Index -/
def vc_stringslite_Index (x0 : ByteArray) (x1 : ByteArray) (w : World) (R : Value → World → Prop) : Prop :=
  ∃ I1 : World → Prop, ((((((↑(ByteArray.size x1) : Int) == 0) = true →
      R (Value.int IntKind.i64 0) w)) ∧
    (((↑(ByteArray.size x1) : Int) == 0) = false →
      ((((ByteArray.toList x1 == ByteArray.toList x0) = true →
         R (Value.int IntKind.i64 0) w)) ∧
       ((ByteArray.toList x1 == ByteArray.toList x0) = false →
         (((((↑(ByteArray.size x1) : Int) == 1) = true →
            (((0 : Int) ≤ (0 : Int) ∧
              0 < (↑(ByteArray.size x1) : Int)) ∧
             Calls Tryd.prog (155 : Nat) (Array.mk [Value.string x0, Value.int IntKind.u8 (byteAt x1 0)]) (w) (fun e2 w3 =>
               ∃ n4 : Int, (e2 = Ending.returned (Value.int IntKind.i64 n4) ∧
                R (Value.int IntKind.i64 n4) w3))))) ∧
          (((↑(ByteArray.size x1) : Int) == 1) = false →
            (((decide ((↑(ByteArray.size x1) : Int) ≥ (↑(ByteArray.size x0) : Int)) = true →
               R (Value.int IntKind.i64 (-1)) w)) ∧
             (decide ((↑(ByteArray.size x1) : Int) ≥ (↑(ByteArray.size x0) : Int)) = false →
               ∃ n5 : Int, (World.cell? w (Addr.mk 0 0 none) = some (Value.int IntKind.i64 n5) ∧
                (((decide ((↑(ByteArray.size x1) : Int) ≤ n5) = true →
                   (((decide ((↑(ByteArray.size x0) : Int) ≤ 64) = true →
                      False)) ∧
                    (decide ((↑(ByteArray.size x0) : Int) ≤ 64) = false →
                      I1 w)))) ∧
                 (decide ((↑(ByteArray.size x1) : Int) ≤ n5) = false →
                   I1 w))))))))))) ∧
   ∀ w6 : World,
   (I1 w6 →
     (((0 : Int) ≤ (0 : Int) ∧
       0 < (↑(ByteArray.size x1) : Int)) ∧
      (((0 : Int) ≤ (1 : Int) ∧
        1 < (↑(ByteArray.size x1) : Int)) ∧
       ∃ I7 : Int → Int → World → Prop, ∃ I8 : Int → Int → World → Nat, (I7 0 0 w6 ∧
        ∀ n9 : Int,
        ∀ n10 : Int,
        ∀ w11 : World,
        (I7 n9 n10 w11 →
          (((decide (n9 < IntKind.wrap IntKind.i64 (IntKind.wrap IntKind.i64 ((↑(ByteArray.size x0) : Int) - (↑(ByteArray.size x1) : Int)) + 1)) = true →
             ∃ I12 : Int → World → Prop, (((0 ≤ n9 ∧
                n9 < (↑(ByteArray.size x0) : Int)) ∧
               ((((byteAt x0 n9 != byteAt x1 0) = true →
                  ((0 ≤ IntKind.wrap IntKind.i64 (n9 + 1) ∧
                    (IntKind.wrap IntKind.i64 (n9 + 1) ≤ IntKind.wrap IntKind.i64 (IntKind.wrap IntKind.i64 ((↑(ByteArray.size x0) : Int) - (↑(ByteArray.size x1) : Int)) + 1) ∧
                     IntKind.wrap IntKind.i64 (IntKind.wrap IntKind.i64 ((↑(ByteArray.size x0) : Int) - (↑(ByteArray.size x1) : Int)) + 1) ≤ (↑(ByteArray.size x0) : Int))) ∧
                   Calls Tryd.prog (155 : Nat) (Array.mk [Value.string (ByteArray.extract x0 (Int.toNat (IntKind.wrap IntKind.i64 (n9 + 1))) (Int.toNat (IntKind.wrap IntKind.i64 (IntKind.wrap IntKind.i64 ((↑(ByteArray.size x0) : Int) - (↑(ByteArray.size x1) : Int)) + 1)))), Value.int IntKind.u8 (byteAt x1 0)]) (w11) (fun e13 w14 =>
                     ∃ n15 : Int, (e13 = Ending.returned (Value.int IntKind.i64 n15) ∧
                      (((decide (n15 < 0) = true →
                         R (Value.int IntKind.i64 (-1)) w14)) ∧
                       (decide (n15 < 0) = false →
                         I12 (IntKind.wrap IntKind.i64 (n9 + IntKind.wrap IntKind.i64 (n15 + 1))) w14))))))) ∧
                ((byteAt x0 n9 != byteAt x1 0) = false →
                  I12 n9 w11))) ∧
              ∀ n16 : Int,
              ∀ w17 : World,
              (I12 n16 w17 →
                ∃ I18 : World → Prop, (((0 ≤ IntKind.wrap IntKind.i64 (n16 + 1) ∧
                   IntKind.wrap IntKind.i64 (n16 + 1) < (↑(ByteArray.size x0) : Int)) ∧
                  ((((byteAt x0 (IntKind.wrap IntKind.i64 (n16 + 1)) == byteAt x1 1) = true →
                     ((0 ≤ n16 ∧
                       (n16 ≤ IntKind.wrap IntKind.i64 (n16 + (↑(ByteArray.size x1) : Int)) ∧
                        IntKind.wrap IntKind.i64 (n16 + (↑(ByteArray.size x1) : Int)) ≤ (↑(ByteArray.size x0) : Int))) ∧
                      ((((ByteArray.toList (ByteArray.extract x0 (Int.toNat n16) (Int.toNat (IntKind.wrap IntKind.i64 (n16 + (↑(ByteArray.size x1) : Int))))) == ByteArray.toList x1) = true →
                         R (Value.int IntKind.i64 n16) w17)) ∧
                       ((ByteArray.toList (ByteArray.extract x0 (Int.toNat n16) (Int.toNat (IntKind.wrap IntKind.i64 (n16 + (↑(ByteArray.size x1) : Int))))) == ByteArray.toList x1) = false →
                         I18 w17))))) ∧
                   ((byteAt x0 (IntKind.wrap IntKind.i64 (n16 + 1)) == byteAt x1 1) = false →
                     I18 w17))) ∧
                 ∀ w19 : World,
                 (I18 w19 →
                   ∃ I20 : Bool → World → Prop, ((∃ n21 : Int, (World.cell? w19 (Addr.mk 0 0 none) = some (Value.int IntKind.i64 n21) ∧
                     (((decide ((↑(ByteArray.size x1) : Int) ≤ n21) = true →
                        Calls Tryd.prog (157 : Nat) (Array.mk [Value.int IntKind.i64 (IntKind.wrap IntKind.i64 (n16 + 1))]) (w19) (fun e22 w23 =>
                          ∃ n24 : Int, (e22 = Ending.returned (Value.int IntKind.i64 n24) ∧
                           I20 (decide (IntKind.wrap IntKind.i64 (n10 + 1) > n24)) w23)))) ∧
                      (decide ((↑(ByteArray.size x1) : Int) ≤ n21) = false →
                        I20 false w19)))) ∧
                    ∀ b25 : Bool,
                    ∀ w26 : World,
                    (I20 b25 w26 →
                      (((b25 = true →
                         ((0 ≤ IntKind.wrap IntKind.i64 (n16 + 1) ∧
                           IntKind.wrap IntKind.i64 (n16 + 1) ≤ (↑(ByteArray.size x0) : Int)) ∧
                          False))) ∧
                       (b25 = false →
                         ∃ n27 : Int, (World.cell? w26 (Addr.mk 0 0 none) = some (Value.int IntKind.i64 n27) ∧
                          (((decide ((↑(ByteArray.size x1) : Int) > n27) = true →
                             ((0 : Int) ≤ (4 : Int) ∧
                              (((decide (IntKind.wrap IntKind.i64 (n10 + 1) ≥ IntKind.wrap IntKind.i64 (4 + Int.fdiv (IntKind.wrap IntKind.i64 (n16 + 1)) (2 ^ min (Int.toNat 4) 64))) = true →
                                 (((decide (IntKind.wrap IntKind.i64 (n16 + 1) < IntKind.wrap IntKind.i64 (IntKind.wrap IntKind.i64 ((↑(ByteArray.size x0) : Int) - (↑(ByteArray.size x1) : Int)) + 1)) = true →
                                    ((0 ≤ IntKind.wrap IntKind.i64 (n16 + 1) ∧
                                      IntKind.wrap IntKind.i64 (n16 + 1) ≤ (↑(ByteArray.size x0) : Int)) ∧
                                     Calls Tryd.prog (158 : Nat) (Array.mk [Value.string (ByteArray.extract x0 (Int.toNat (IntKind.wrap IntKind.i64 (n16 + 1))) (ByteArray.size x0)), Value.string x1]) (w26) (fun e28 w29 =>
                                       ∃ n30 : Int, (e28 = Ending.returned (Value.int IntKind.i64 n30) ∧
                                        (((decide (n30 < 0) = true →
                                           R (Value.int IntKind.i64 (-1)) w29)) ∧
                                         (decide (n30 < 0) = false →
                                           R (Value.int IntKind.i64 (IntKind.wrap IntKind.i64 (IntKind.wrap IntKind.i64 (n16 + 1) + n30))) w29))))))) ∧
                                  (decide (IntKind.wrap IntKind.i64 (n16 + 1) < IntKind.wrap IntKind.i64 (IntKind.wrap IntKind.i64 ((↑(ByteArray.size x0) : Int) - (↑(ByteArray.size x1) : Int)) + 1)) = false →
                                    (I7 (IntKind.wrap IntKind.i64 (n16 + 1)) (IntKind.wrap IntKind.i64 (n10 + 1)) w26 ∧
                                     I8 (IntKind.wrap IntKind.i64 (n16 + 1)) (IntKind.wrap IntKind.i64 (n10 + 1)) w26 < I8 n9 n10 w11))))) ∧
                               (decide (IntKind.wrap IntKind.i64 (n10 + 1) ≥ IntKind.wrap IntKind.i64 (4 + Int.fdiv (IntKind.wrap IntKind.i64 (n16 + 1)) (2 ^ min (Int.toNat 4) 64))) = false →
                                 (I7 (IntKind.wrap IntKind.i64 (n16 + 1)) (IntKind.wrap IntKind.i64 (n10 + 1)) w26 ∧
                                  I8 (IntKind.wrap IntKind.i64 (n16 + 1)) (IntKind.wrap IntKind.i64 (n10 + 1)) w26 < I8 n9 n10 w11)))))) ∧
                           (decide ((↑(ByteArray.size x1) : Int) > n27) = false →
                             (I7 (IntKind.wrap IntKind.i64 (n16 + 1)) (IntKind.wrap IntKind.i64 (n10 + 1)) w26 ∧
                              I8 (IntKind.wrap IntKind.i64 (n16 + 1)) (IntKind.wrap IntKind.i64 (n10 + 1)) w26 < I8 n9 n10 w11)))))))))))))) ∧
           (decide (n9 < IntKind.wrap IntKind.i64 (IntKind.wrap IntKind.i64 ((↑(ByteArray.size x0) : Int) - (↑(ByteArray.size x1) : Int)) + 1)) = false →
             R (Value.int IntKind.i64 (-1)) w11))))))))
theorem vc_stringslite_Index_ok {x0 : ByteArray} {x1 : ByteArray} {w : World} {R : Value → World → Prop} {R' : Ending → World → Prop} (h : vc_stringslite_Index x0 x1 w R) (hR : ∀ v w', R v w' → R' (.returned v) w') :
    Calls Tryd.prog 146 #[.string x0, .string x1] w R' :=
  calls_of_body (vs := [(.string x0, false), (.string x1, false)]) (ty := ty) (ann := ⟨[(10, []), (21, [(8, .int .i64)]), (23, []), (26, [(107, .bool)])], [(15, [(8, .int .i64), (10, .int .i64)])], [], []⟩) (c := Tryd.f146.body.getD .skip) (by kernel_rfl) Tryd.func146 (by kernel_rfl) (by kernel_rfl) (Eq.mp (by kernel_rfl) h) hR
/-- strings.Index -/
def vc_strings_Index (x0 : ByteArray) (x1 : ByteArray) (w : World) (R : Value → World → Prop) : Prop :=
  Calls Tryd.prog (146 : Nat) (Array.mk [Value.string x0, Value.string x1]) (w) (fun e1 w2 =>
    ∃ n3 : Int, (e1 = Ending.returned (Value.int IntKind.i64 n3) ∧
     R (Value.int IntKind.i64 n3) w2))
theorem vc_strings_Index_ok {x0 : ByteArray} {x1 : ByteArray} {w : World} {R : Value → World → Prop} {R' : Ending → World → Prop} (h : vc_strings_Index x0 x1 w R) (hR : ∀ v w', R v w' → R' (.returned v) w') :
    Calls Tryd.prog 133 #[.string x0, .string x1] w R' :=
  calls_of_body (vs := [(.string x0, false), (.string x1, false)]) (ty := ty) (ann := ⟨[], [], [], []⟩) (c := Tryd.f133.body.getD .skip) (by kernel_rfl) Tryd.func133 (by kernel_rfl) (by kernel_rfl) (Eq.mp (by kernel_rfl) h) hR
/-- strings.IndexRune -/
def vc_strings_IndexRune (x0 : ByteArray) (x1 : Int) (w : World) (R : Value → World → Prop) : Prop :=
  ∃ I1 : Bool → World → Prop, ((((decide (0 ≤ x1) = true →
      I1 (decide (x1 < 128)) w)) ∧
    (decide (0 ≤ x1) = false →
      I1 false w)) ∧
   ∀ b2 : Bool,
   ∀ w3 : World,
   (I1 b2 w3 →
     (((b2 = true →
        Calls Tryd.prog (167 : Nat) (Array.mk [Value.string x0, Value.int IntKind.u8 (IntKind.wrap IntKind.u8 x1)]) (w3) (fun e4 w5 =>
          ∃ n6 : Int, (e4 = Ending.returned (Value.int IntKind.i64 n6) ∧
           R (Value.int IntKind.i64 n6) w5)))) ∧
      (b2 = false →
        ((((x1 == 65533) = true →
           ∃ w7 : World, ∃ a8 : Addr, (Sem.run Tryd.prog (Instr.range 9 (Value.string x0)) w3 = Result.ok (Value.pointer (some a8)) w7 ∧
            ∃ I9 : World → Prop, ∃ I10 : World → Nat, (I9 w7 ∧
             ∀ w11 : World,
             (I9 w11 →
               ((∃ w12 : World, (Sem.run Tryd.prog (Instr.next (Value.pointer (some a8)) true 0) w11 = Result.ok (Value.tuple (Array.mk [Value.bool false])) w12 ∧
                 (((false = true →
                    False)) ∧
                  (false = false →
                    R (Value.int IntKind.i64 (-1)) w12)))) ∨
                (∃ w13 : World, ∃ n14 : Int, ∃ n15 : Int, (Sem.run Tryd.prog (Instr.next (Value.pointer (some a8)) true 0) w11 = Result.ok (Value.tuple (Array.mk [Value.bool true, Value.int IntKind.i64 n14, Value.int IntKind.i32 n15])) w13 ∧
                 (((true = true →
                    ((((n15 == 65533) = true →
                       R (Value.int IntKind.i64 n14) w13)) ∧
                     ((n15 == 65533) = false →
                       (I9 w13 ∧
                        I10 w13 < I10 w11))))) ∧
                  (true = false →
                    R (Value.int IntKind.i64 (-1)) w13)))))))))) ∧
         ((x1 == 65533) = false →
           Calls Tryd.prog (168 : Nat) (Array.mk [Value.int IntKind.i32 x1]) (w3) (fun e16 w17 =>
             ∃ b18 : Bool, (e16 = Ending.returned (Value.bool b18) ∧
              ((((!b18) = true →
                 R (Value.int IntKind.i64 (-1)) w17)) ∧
               ((!b18) = false →
                 ∃ w19 : World, ∃ s20 : ByteArray, (Sem.run Tryd.prog (convert 21 9 (Value.int IntKind.i32 x1)) w17 = Result.ok (Value.string s20) w19 ∧
                  ∃ I21 : Int → World → Prop, ∃ I22 : Int → World → Nat, (I21 (IntKind.wrap IntKind.i64 ((↑(ByteArray.size s20) : Int) - 1)) w19 ∧
                   ∀ n23 : Int,
                   ∀ w24 : World,
                   (I21 n23 w24 →
                     (((decide (n23 < (↑(ByteArray.size x0) : Int)) = true →
                        ∃ I25 : Int → World → Prop, (((0 ≤ n23 ∧
                           n23 < (↑(ByteArray.size x0) : Int)) ∧
                          ((0 ≤ IntKind.wrap IntKind.i64 ((↑(ByteArray.size s20) : Int) - 1) ∧
                            IntKind.wrap IntKind.i64 ((↑(ByteArray.size s20) : Int) - 1) < (↑(ByteArray.size s20) : Int)) ∧
                           ∀ w26 : World,
                           (Drew w24 w26 →
                             ((((byteAt x0 n23 != byteAt s20 (IntKind.wrap IntKind.i64 ((↑(ByteArray.size s20) : Int) - 1))) = true →
                                ∀ w27 : World,
                                (Drew w26 w27 →
                                  ∃ I28 : World → Prop, (I28 w27 ∧
                                   ((0 ≤ IntKind.wrap IntKind.i64 (n23 + 1) ∧
                                     IntKind.wrap IntKind.i64 (n23 + 1) ≤ (↑(ByteArray.size x0) : Int)) ∧
                                    ((0 ≤ IntKind.wrap IntKind.i64 ((↑(ByteArray.size s20) : Int) - 1) ∧
                                      IntKind.wrap IntKind.i64 ((↑(ByteArray.size s20) : Int) - 1) < (↑(ByteArray.size s20) : Int)) ∧
                                     Calls Tryd.prog (167 : Nat) (Array.mk [Value.string (ByteArray.extract x0 (Int.toNat (IntKind.wrap IntKind.i64 (n23 + 1))) (ByteArray.size x0)), Value.int IntKind.u8 (byteAt s20 (IntKind.wrap IntKind.i64 ((↑(ByteArray.size s20) : Int) - 1)))]) (w27) (fun e29 w30 =>
                                       ∃ n31 : Int, (e29 = Ending.returned (Value.int IntKind.i64 n31) ∧
                                        (I28 w30 ∧
                                         (((decide (n31 < 0) = true →
                                            R (Value.int IntKind.i64 (-1)) w30)) ∧
                                          (decide (n31 < 0) = false →
                                            I25 (IntKind.wrap IntKind.i64 (n23 + IntKind.wrap IntKind.i64 (n31 + 1))) w30))))))))))) ∧
                              ((byteAt x0 n23 != byteAt s20 (IntKind.wrap IntKind.i64 ((↑(ByteArray.size s20) : Int) - 1))) = false →
                                I25 n23 w26))))) ∧
                         ∀ n32 : Int,
                         ∀ w33 : World,
                         (I25 n32 w33 →
                           ∃ I34 : Int → World → Prop, ∃ I35 : Int → World → Nat, (I34 1 w33 ∧
                            ∀ n36 : Int,
                            ∀ w37 : World,
                            (I34 n36 w37 →
                              (((decide (n36 < (↑(ByteArray.size s20) : Int)) = true →
                                 ((0 ≤ IntKind.wrap IntKind.i64 (n32 - n36) ∧
                                   IntKind.wrap IntKind.i64 (n32 - n36) < (↑(ByteArray.size x0) : Int)) ∧
                                  ((0 ≤ IntKind.wrap IntKind.i64 (IntKind.wrap IntKind.i64 ((↑(ByteArray.size s20) : Int) - 1) - n36) ∧
                                    IntKind.wrap IntKind.i64 (IntKind.wrap IntKind.i64 ((↑(ByteArray.size s20) : Int) - 1) - n36) < (↑(ByteArray.size s20) : Int)) ∧
                                   ∀ w38 : World,
                                   (Drew w37 w38 →
                                     ((((byteAt x0 (IntKind.wrap IntKind.i64 (n32 - n36)) != byteAt s20 (IntKind.wrap IntKind.i64 (IntKind.wrap IntKind.i64 ((↑(ByteArray.size s20) : Int) - 1) - n36))) = true →
                                        False)) ∧
                                      ((byteAt x0 (IntKind.wrap IntKind.i64 (n32 - n36)) != byteAt s20 (IntKind.wrap IntKind.i64 (IntKind.wrap IntKind.i64 ((↑(ByteArray.size s20) : Int) - 1) - n36))) = false →
                                        (I34 (IntKind.wrap IntKind.i64 (n36 + 1)) w38 ∧
                                         I35 (IntKind.wrap IntKind.i64 (n36 + 1)) w38 < I35 n36 w37)))))))) ∧
                               (decide (n36 < (↑(ByteArray.size s20) : Int)) = false →
                                 R (Value.int IntKind.i64 (IntKind.wrap IntKind.i64 (n32 - IntKind.wrap IntKind.i64 ((↑(ByteArray.size s20) : Int) - 1)))) w37)))))))) ∧
                      (decide (n23 < (↑(ByteArray.size x0) : Int)) = false →
                        R (Value.int IntKind.i64 (-1)) w24)))))))))))))))
theorem vc_strings_IndexRune_ok {x0 : ByteArray} {x1 : Int} {w : World} {R : Value → World → Prop} {R' : Ending → World → Prop} (h : vc_strings_IndexRune x0 x1 w R) (hR : ∀ v w', R v w' → R' (.returned v) w') :
    Calls Tryd.prog 159 #[.string x0, .int .i32 x1] w R' :=
  calls_of_body (vs := [(.string x0, false), (.int .i32 x1, false)]) (ty := ty) (ann := ⟨[(11, [(9, .int .i64)]), (35, [(160, .bool)])], [(5, [(9, .int .i64)]), (12, [(12, .int .i64)]), (25, []), (29, []), (38, [])], [(6, .quiet), (7, .held [(0, true), (1, true), (2, true), (3, true), (4, true), (5, true), (6, true), (7, false), (8, true)]), (14, .quiet), (31, .quiet)], []⟩) (c := Tryd.f159.body.getD .skip) (by kernel_rfl) Tryd.func159 (by kernel_rfl) (by kernel_rfl) (Eq.mp (by kernel_rfl) h) hR
/-- strings.IndexAny -/
def vc_strings_IndexAny (x0 : ByteArray) (x1 : ByteArray) (w : World) (R : Value → World → Prop) : Prop :=
  ((((ByteArray.toList x1 == ByteArray.toList (ByteArray.mk (Array.mk []))) = true →
     R (Value.int IntKind.i64 (-1)) w)) ∧
   ((ByteArray.toList x1 == ByteArray.toList (ByteArray.mk (Array.mk []))) = false →
     (((((↑(ByteArray.size x1) : Int) == 1) = true →
        (((0 : Int) ≤ (0 : Int) ∧
          0 < (↑(ByteArray.size x1) : Int)) ∧
         (((decide (IntKind.wrap IntKind.i32 (byteAt x1 0) ≥ 128) = true →
            Calls Tryd.prog (159 : Nat) (Array.mk [Value.string x0, Value.int IntKind.i32 65533]) (w) (fun e1 w2 =>
              ∃ n3 : Int, (e1 = Ending.returned (Value.int IntKind.i64 n3) ∧
               R (Value.int IntKind.i64 n3) w2)))) ∧
          (decide (IntKind.wrap IntKind.i32 (byteAt x1 0) ≥ 128) = false →
            Calls Tryd.prog (159 : Nat) (Array.mk [Value.string x0, Value.int IntKind.i32 (IntKind.wrap IntKind.i32 (byteAt x1 0))]) (w) (fun e4 w5 =>
              ∃ n6 : Int, (e4 = Ending.returned (Value.int IntKind.i64 n6) ∧
               R (Value.int IntKind.i64 n6) w5))))))) ∧
      (((↑(ByteArray.size x1) : Int) == 1) = false →
        ∃ I7 : World → Prop, (Calls Tryd.prog (160 : Nat) (Array.mk [Value.int IntKind.i64 (↑(ByteArray.size x0) : Int)]) (w) (fun e8 w9 =>
           ∃ b10 : Bool, (e8 = Ending.returned (Value.bool b10) ∧
            (((b10 = true →
               Calls Tryd.prog (161 : Nat) (Array.mk [Value.string x1]) (w9) (fun e11 w12 =>
                 ∃ v13 : Value, ∃ b14 : Bool, (e11 = Ending.returned (Value.tuple (Array.mk [v13, Value.bool b14])) ∧
                  ∀ w15 : World,
                  (w15 = World.alloc w12 (Obj.cells (Array.mk [Value.bool false, Value.bool false, Value.bool false, Value.bool false, Value.bool false, Value.bool false, Value.bool false, Value.bool false, Value.bool false, Value.bool false, Value.bool false, Value.bool false, Value.bool false, Value.bool false, Value.bool false, Value.bool false, Value.bool false, Value.bool false, Value.bool false, Value.bool false, Value.bool false, Value.bool false, Value.bool false, Value.bool false, Value.bool false, Value.bool false, Value.bool false, Value.bool false, Value.bool false, Value.bool false, Value.bool false, Value.bool false, Value.bool false, Value.bool false, Value.bool false, Value.bool false, Value.bool false, Value.bool false, Value.bool false, Value.bool false, Value.bool false, Value.bool false, Value.bool false, Value.bool false, Value.bool false, Value.bool false, Value.bool false, Value.bool false, Value.bool false, Value.bool false, Value.bool false, Value.bool false, Value.bool false, Value.bool false, Value.bool false, Value.bool false, Value.bool false, Value.bool false, Value.bool false, Value.bool false, Value.bool false, Value.bool false, Value.bool false, Value.bool false, Value.bool false, Value.bool false, Value.bool false, Value.bool false, Value.bool false, Value.bool false, Value.bool false, Value.bool false, Value.bool false, Value.bool false, Value.bool false, Value.bool false, Value.bool false, Value.bool false, Value.bool false, Value.bool false, Value.bool false, Value.bool false, Value.bool false, Value.bool false, Value.bool false, Value.bool false, Value.bool false, Value.bool false, Value.bool false, Value.bool false, Value.bool false, Value.bool false, Value.bool false, Value.bool false, Value.bool false, Value.bool false, Value.bool false, Value.bool false, Value.bool false, Value.bool false, Value.bool false, Value.bool false, Value.bool false, Value.bool false, Value.bool false, Value.bool false, Value.bool false, Value.bool false, Value.bool false, Value.bool false, Value.bool false, Value.bool false, Value.bool false, Value.bool false, Value.bool false, Value.bool false, Value.bool false, Value.bool false, Value.bool false, Value.bool false, Value.bool false, Value.bool false, Value.bool false, Value.bool false, Value.bool false, Value.bool false, Value.bool false, Value.bool false, Value.bool false, Value.bool false, Value.bool false, Value.bool false, Value.bool false, Value.bool false, Value.bool false, Value.bool false, Value.bool false, Value.bool false, Value.bool false, Value.bool false, Value.bool false, Value.bool false, Value.bool false, Value.bool false, Value.bool false, Value.bool false, Value.bool false, Value.bool false, Value.bool false, Value.bool false, Value.bool false, Value.bool false, Value.bool false, Value.bool false, Value.bool false, Value.bool false, Value.bool false, Value.bool false, Value.bool false, Value.bool false, Value.bool false, Value.bool false, Value.bool false, Value.bool false, Value.bool false, Value.bool false, Value.bool false, Value.bool false, Value.bool false, Value.bool false, Value.bool false, Value.bool false, Value.bool false, Value.bool false, Value.bool false, Value.bool false, Value.bool false, Value.bool false, Value.bool false, Value.bool false, Value.bool false, Value.bool false, Value.bool false, Value.bool false, Value.bool false, Value.bool false, Value.bool false, Value.bool false, Value.bool false, Value.bool false, Value.bool false, Value.bool false, Value.bool false, Value.bool false, Value.bool false, Value.bool false, Value.bool false, Value.bool false, Value.bool false, Value.bool false, Value.bool false, Value.bool false, Value.bool false, Value.bool false, Value.bool false, Value.bool false, Value.bool false, Value.bool false, Value.bool false, Value.bool false, Value.bool false, Value.bool false, Value.bool false, Value.bool false, Value.bool false, Value.bool false, Value.bool false, Value.bool false, Value.bool false, Value.bool false, Value.bool false, Value.bool false, Value.bool false, Value.bool false, Value.bool false, Value.bool false, Value.bool false, Value.bool false, Value.bool false, Value.bool false, Value.bool false, Value.bool false, Value.bool false, Value.bool false, Value.bool false, Value.bool false, Value.bool false, Value.bool false, Value.bool false, Value.bool false, Value.bool false, Value.bool false, Value.bool false, Value.bool false, Value.bool false, Value.bool false, Value.bool false, Value.bool false, Value.bool false, Value.bool false, Value.bool false, Value.bool false, Value.bool false, Value.bool false, Value.bool false, Value.bool false]) 193) →
                    ∃ w16 : World, (Sem.run Tryd.prog (storeVar 193 (Addr.mk (Array.size (World.heap w12)) 0 none) v13) w15 = Result.ok PUnit.unit w16 ∧
                     (((b14 = true →
                        ∃ I17 : Int → World → Prop, ∃ I18 : Int → World → Nat, (I17 0 w16 ∧
                         ∀ n19 : Int,
                         ∀ w20 : World,
                         (I17 n19 w20 →
                           (((decide (n19 < (↑(ByteArray.size x0) : Int)) = true →
                              ((0 ≤ n19 ∧
                                n19 < (↑(ByteArray.size x0) : Int)) ∧
                               Calls Tryd.prog (162 : Nat) (Array.mk [Value.pointer (some (Addr.mk (Array.size (World.heap w12)) 0 none)), Value.int IntKind.u8 (byteAt x0 n19)]) (w20) (fun e21 w22 =>
                                 ∃ b23 : Bool, (e21 = Ending.returned (Value.bool b23) ∧
                                  (((b23 = true →
                                     R (Value.int IntKind.i64 n19) w22)) ∧
                                   (b23 = false →
                                     (I17 (IntKind.wrap IntKind.i64 (n19 + 1)) w22 ∧
                                      I18 (IntKind.wrap IntKind.i64 (n19 + 1)) w22 < I18 n19 w20)))))))) ∧
                            (decide (n19 < (↑(ByteArray.size x0) : Int)) = false →
                              R (Value.int IntKind.i64 (-1)) w20)))))) ∧
                      (b14 = false →
                        I7 w16)))))))) ∧
             (b10 = false →
               I7 w9)))) ∧
         ∀ w24 : World,
         (I7 w24 →
           ∃ w25 : World, ∃ a26 : Addr, (Sem.run Tryd.prog (Instr.range 9 (Value.string x0)) w24 = Result.ok (Value.pointer (some a26)) w25 ∧
            ∃ I27 : World → Prop, ∃ I28 : World → Nat, (I27 w25 ∧
             ∀ w29 : World,
             (I27 w29 →
               ((∃ w30 : World, (Sem.run Tryd.prog (Instr.next (Value.pointer (some a26)) true 0) w29 = Result.ok (Value.tuple (Array.mk [Value.bool false])) w30 ∧
                 (((false = true →
                    False)) ∧
                  (false = false →
                    R (Value.int IntKind.i64 (-1)) w30)))) ∨
                (∃ w31 : World, ∃ n32 : Int, ∃ n33 : Int, (Sem.run Tryd.prog (Instr.next (Value.pointer (some a26)) true 0) w29 = Result.ok (Value.tuple (Array.mk [Value.bool true, Value.int IntKind.i64 n32, Value.int IntKind.i32 n33])) w31 ∧
                 (((true = true →
                    Calls Tryd.prog (159 : Nat) (Array.mk [Value.string x1, Value.int IntKind.i32 n33]) (w31) (fun e34 w35 =>
                      ∃ n36 : Int, (e34 = Ending.returned (Value.int IntKind.i64 n36) ∧
                       (((decide (n36 ≥ 0) = true →
                          R (Value.int IntKind.i64 n32) w35)) ∧
                        (decide (n36 ≥ 0) = false →
                          (I27 w35 ∧
                           I28 w35 < I28 w29))))))) ∧
                  (true = false →
                    R (Value.int IntKind.i64 (-1)) w31))))))))))))))
theorem vc_strings_IndexAny_ok {x0 : ByteArray} {x1 : ByteArray} {w : World} {R : Value → World → Prop} {R' : Ending → World → Prop} (h : vc_strings_IndexAny x0 x1 w R) (hR : ∀ v w', R v w' → R' (.returned v) w') :
    Calls Tryd.prog 147 #[.string x0, .string x1] w R' :=
  calls_of_body (vs := [(.string x0, false), (.string x1, false)]) (ty := ty) (ann := ⟨[(17, [])], [(12, [(8, .int .i64)]), (18, [])], [], []⟩) (c := Tryd.f147.body.getD .skip) (by kernel_rfl) Tryd.func147 (by kernel_rfl) (by kernel_rfl) (Eq.mp (by kernel_rfl) h) hR
/-- strings.shouldUseASCIISet -/
def vc_strings_shouldUseASCIISet (x0 : Int) (w : World) (R : Value → World → Prop) : Prop :=
  R (Value.bool (decide (x0 > 8))) w
theorem vc_strings_shouldUseASCIISet_ok {x0 : Int} {w : World} {R : Value → World → Prop} {R' : Ending → World → Prop} (h : vc_strings_shouldUseASCIISet x0 w R) (hR : ∀ v w', R v w' → R' (.returned v) w') :
    Calls Tryd.prog 160 #[.int .i64 x0] w R' :=
  calls_of_body (vs := [(.int .i64 x0, false)]) (ty := ty) (ann := ⟨[], [], [], []⟩) (c := Tryd.f160.body.getD .skip) (by kernel_rfl) Tryd.func160 (by kernel_rfl) (by kernel_rfl) (Eq.mp (by kernel_rfl) h) hR
/-- strings.makeASCIISet -/
def vc_strings_makeASCIISet (x0 : ByteArray) (w : World) (R : Value → World → Prop) : Prop :=
  ∀ w1 : World,
  (w1 = World.alloc w (Obj.cells (Array.mk [Value.bool false, Value.bool false, Value.bool false, Value.bool false, Value.bool false, Value.bool false, Value.bool false, Value.bool false, Value.bool false, Value.bool false, Value.bool false, Value.bool false, Value.bool false, Value.bool false, Value.bool false, Value.bool false, Value.bool false, Value.bool false, Value.bool false, Value.bool false, Value.bool false, Value.bool false, Value.bool false, Value.bool false, Value.bool false, Value.bool false, Value.bool false, Value.bool false, Value.bool false, Value.bool false, Value.bool false, Value.bool false, Value.bool false, Value.bool false, Value.bool false, Value.bool false, Value.bool false, Value.bool false, Value.bool false, Value.bool false, Value.bool false, Value.bool false, Value.bool false, Value.bool false, Value.bool false, Value.bool false, Value.bool false, Value.bool false, Value.bool false, Value.bool false, Value.bool false, Value.bool false, Value.bool false, Value.bool false, Value.bool false, Value.bool false, Value.bool false, Value.bool false, Value.bool false, Value.bool false, Value.bool false, Value.bool false, Value.bool false, Value.bool false, Value.bool false, Value.bool false, Value.bool false, Value.bool false, Value.bool false, Value.bool false, Value.bool false, Value.bool false, Value.bool false, Value.bool false, Value.bool false, Value.bool false, Value.bool false, Value.bool false, Value.bool false, Value.bool false, Value.bool false, Value.bool false, Value.bool false, Value.bool false, Value.bool false, Value.bool false, Value.bool false, Value.bool false, Value.bool false, Value.bool false, Value.bool false, Value.bool false, Value.bool false, Value.bool false, Value.bool false, Value.bool false, Value.bool false, Value.bool false, Value.bool false, Value.bool false, Value.bool false, Value.bool false, Value.bool false, Value.bool false, Value.bool false, Value.bool false, Value.bool false, Value.bool false, Value.bool false, Value.bool false, Value.bool false, Value.bool false, Value.bool false, Value.bool false, Value.bool false, Value.bool false, Value.bool false, Value.bool false, Value.bool false, Value.bool false, Value.bool false, Value.bool false, Value.bool false, Value.bool false, Value.bool false, Value.bool false, Value.bool false, Value.bool false, Value.bool false, Value.bool false, Value.bool false, Value.bool false, Value.bool false, Value.bool false, Value.bool false, Value.bool false, Value.bool false, Value.bool false, Value.bool false, Value.bool false, Value.bool false, Value.bool false, Value.bool false, Value.bool false, Value.bool false, Value.bool false, Value.bool false, Value.bool false, Value.bool false, Value.bool false, Value.bool false, Value.bool false, Value.bool false, Value.bool false, Value.bool false, Value.bool false, Value.bool false, Value.bool false, Value.bool false, Value.bool false, Value.bool false, Value.bool false, Value.bool false, Value.bool false, Value.bool false, Value.bool false, Value.bool false, Value.bool false, Value.bool false, Value.bool false, Value.bool false, Value.bool false, Value.bool false, Value.bool false, Value.bool false, Value.bool false, Value.bool false, Value.bool false, Value.bool false, Value.bool false, Value.bool false, Value.bool false, Value.bool false, Value.bool false, Value.bool false, Value.bool false, Value.bool false, Value.bool false, Value.bool false, Value.bool false, Value.bool false, Value.bool false, Value.bool false, Value.bool false, Value.bool false, Value.bool false, Value.bool false, Value.bool false, Value.bool false, Value.bool false, Value.bool false, Value.bool false, Value.bool false, Value.bool false, Value.bool false, Value.bool false, Value.bool false, Value.bool false, Value.bool false, Value.bool false, Value.bool false, Value.bool false, Value.bool false, Value.bool false, Value.bool false, Value.bool false, Value.bool false, Value.bool false, Value.bool false, Value.bool false, Value.bool false, Value.bool false, Value.bool false, Value.bool false, Value.bool false, Value.bool false, Value.bool false, Value.bool false, Value.bool false, Value.bool false, Value.bool false, Value.bool false, Value.bool false, Value.bool false, Value.bool false, Value.bool false, Value.bool false, Value.bool false, Value.bool false, Value.bool false, Value.bool false, Value.bool false, Value.bool false, Value.bool false, Value.bool false, Value.bool false, Value.bool false, Value.bool false, Value.bool false, Value.bool false, Value.bool false, Value.bool false, Value.bool false, Value.bool false, Value.bool false, Value.bool false]) 193) →
    ∃ I2 : Int → World → Prop, ∃ I3 : Int → World → Nat, (I2 0 w1 ∧
     ∀ n4 : Int,
     ∀ w5 : World,
     (I2 n4 w5 →
       (((decide (n4 < (↑(ByteArray.size x0) : Int)) = true →
          ((0 ≤ n4 ∧
            n4 < (↑(ByteArray.size x0) : Int)) ∧
           (((decide (byteAt x0 n4 ≥ 128) = true →
              ∃ v6 : Value, (Sem.run Tryd.prog (loadVar 193 (Addr.mk (Array.size (World.heap w)) 0 none)) w5 = Result.ok v6 w5 ∧
               ∃ w7 : World, (Sem.run Tryd.prog (storeVar 193 (Addr.mk (Array.size (World.heap w)) 0 none) v6) w5 = Result.ok PUnit.unit w7 ∧
                ∃ v8 : Value, (Sem.run Tryd.prog (loadVar 193 (Addr.mk (Array.size (World.heap w)) 0 none)) w7 = Result.ok v8 w7 ∧
                 R (Value.tuple (Array.mk [v8, Value.bool false])) w7))))) ∧
            (decide (byteAt x0 n4 ≥ 128) = false →
              ((0 ≤ byteAt x0 n4 ∧
                byteAt x0 n4 < (↑256 : Int)) ∧
               (Wr w5 (Addr.add (Addr.mk (Array.size (World.heap w)) 0 none) (Int.toNat (byteAt x0 n4) * 1)) ∧
                ∀ w9 : World,
                (w9 = World.setCell w5 (Addr.add (Addr.mk (Array.size (World.heap w)) 0 none) (Int.toNat (byteAt x0 n4) * 1)) (Value.bool true) →
                  (I2 (IntKind.wrap IntKind.i64 (n4 + 1)) w9 ∧
                   I3 (IntKind.wrap IntKind.i64 (n4 + 1)) w9 < I3 n4 w5))))))))) ∧
        (decide (n4 < (↑(ByteArray.size x0) : Int)) = false →
          ∃ v10 : Value, (Sem.run Tryd.prog (loadVar 193 (Addr.mk (Array.size (World.heap w)) 0 none)) w5 = Result.ok v10 w5 ∧
           ∃ w11 : World, (Sem.run Tryd.prog (storeVar 193 (Addr.mk (Array.size (World.heap w)) 0 none) v10) w5 = Result.ok PUnit.unit w11 ∧
            ∃ v12 : Value, (Sem.run Tryd.prog (loadVar 193 (Addr.mk (Array.size (World.heap w)) 0 none)) w11 = Result.ok v12 w11 ∧
             R (Value.tuple (Array.mk [v12, Value.bool true])) w11))))))))
theorem vc_strings_makeASCIISet_ok {x0 : ByteArray} {w : World} {R : Value → World → Prop} {R' : Ending → World → Prop} (h : vc_strings_makeASCIISet x0 w R) (hR : ∀ v w', R v w' → R' (.returned v) w') :
    Calls Tryd.prog 161 #[.string x0] w R' :=
  calls_of_body (vs := [(.string x0, false)]) (ty := ty) (ann := ⟨[], [(2, [(4, .int .i64)])], [], []⟩) (c := Tryd.f161.body.getD .skip) (by kernel_rfl) Tryd.func161 (by kernel_rfl) (by kernel_rfl) (Eq.mp (by kernel_rfl) h) hR
/-- (*strings.asciiSet).contains -/
def vc_strings_asciiSet_contains (x0 : Nat) (x1 : Int) (w : World) (R : Value → World → Prop) : Prop :=
  ((0 ≤ x1 ∧
    x1 < (↑256 : Int)) ∧
   ∃ b1 : Bool, (World.cell? w (Addr.add (Addr.mk x0 0 none) (Int.toNat x1 * 1)) = some (Value.bool b1) ∧
    R (Value.bool b1) w))
theorem vc_strings_asciiSet_contains_ok {x0 : Nat} {x1 : Int} {w : World} {R : Value → World → Prop} {R' : Ending → World → Prop} (h : vc_strings_asciiSet_contains x0 x1 w R) (hR : ∀ v w', R v w' → R' (.returned v) w') :
    Calls Tryd.prog 162 #[.pointer (some ⟨x0, 0, none⟩), .int .u8 x1] w R' :=
  calls_of_body (vs := [(.pointer (some ⟨x0, 0, none⟩), true), (.int .u8 x1, false)]) (ty := ty) (ann := ⟨[], [], [], []⟩) (c := Tryd.f162.body.getD .skip) (by kernel_rfl) Tryd.func162 (by kernel_rfl) (by kernel_rfl) (Eq.mp (by kernel_rfl) h) hR
/-- strings.ContainsAny -/
def vc_strings_ContainsAny (x0 : ByteArray) (x1 : ByteArray) (w : World) (R : Value → World → Prop) : Prop :=
  Calls Tryd.prog (147 : Nat) (Array.mk [Value.string x0, Value.string x1]) (w) (fun e1 w2 =>
    ∃ n3 : Int, (e1 = Ending.returned (Value.int IntKind.i64 n3) ∧
     R (Value.bool (decide (n3 ≥ 0))) w2))
theorem vc_strings_ContainsAny_ok {x0 : ByteArray} {x1 : ByteArray} {w : World} {R : Value → World → Prop} {R' : Ending → World → Prop} (h : vc_strings_ContainsAny x0 x1 w R) (hR : ∀ v w', R v w' → R' (.returned v) w') :
    Calls Tryd.prog 134 #[.string x0, .string x1] w R' :=
  calls_of_body (vs := [(.string x0, false), (.string x1, false)]) (ty := ty) (ann := ⟨[], [], [], []⟩) (c := Tryd.f134.body.getD .skip) (by kernel_rfl) Tryd.func134 (by kernel_rfl) (by kernel_rfl) (Eq.mp (by kernel_rfl) h) hR
/-- unicode/utf8.ValidRune -/
def vc_utf8_ValidRune (x0 : Int) (w : World) (R : Value → World → Prop) : Prop :=
  (((decide (0 ≤ x0) = true →
     (((decide (x0 < 55296) = true →
        R (Value.bool true) w)) ∧
      (decide (x0 < 55296) = false →
        (((decide (57343 < x0) = true →
           (((decide (x0 ≤ 1114111) = true →
              R (Value.bool true) w)) ∧
            (decide (x0 ≤ 1114111) = false →
              R (Value.bool false) w)))) ∧
         (decide (57343 < x0) = false →
           R (Value.bool false) w)))))) ∧
   (decide (0 ≤ x0) = false →
     (((decide (57343 < x0) = true →
        (((decide (x0 ≤ 1114111) = true →
           R (Value.bool true) w)) ∧
         (decide (x0 ≤ 1114111) = false →
           R (Value.bool false) w)))) ∧
      (decide (57343 < x0) = false →
        R (Value.bool false) w))))
theorem vc_utf8_ValidRune_ok {x0 : Int} {w : World} {R : Value → World → Prop} {R' : Ending → World → Prop} (h : vc_utf8_ValidRune x0 w R) (hR : ∀ v w', R v w' → R' (.returned v) w') :
    Calls Tryd.prog 168 #[.int .i32 x0] w R' :=
  calls_of_body (vs := [(.int .i32 x0, false)]) (ty := ty) (ann := ⟨[], [], [], []⟩) (c := Tryd.f168.body.getD .skip) (by kernel_rfl) Tryd.func168 (by kernel_rfl) (by kernel_rfl) (Eq.mp (by kernel_rfl) h) hR
/-- unicode/utf8.DecodeRuneInString -/
def vc_utf8_DecodeRuneInString (x0 : ByteArray) (w : World) (R : Value → World → Prop) : Prop :=
  ((((!ByteArray.toList x0 == ByteArray.toList (ByteArray.mk (Array.mk []))) = true →
     (((0 : Int) ≤ (0 : Int) ∧
       0 < (↑(ByteArray.size x0) : Int)) ∧
      (((decide (byteAt x0 0 < 128) = true →
         (((0 : Int) ≤ (0 : Int) ∧
           0 < (↑(ByteArray.size x0) : Int)) ∧
          R (Value.tuple (Array.mk [Value.int IntKind.i32 (IntKind.wrap IntKind.i32 (byteAt x0 0)), Value.int IntKind.i64 1])) w))) ∧
       (decide (byteAt x0 0 < 128) = false →
         Calls Tryd.prog (148 : Nat) (Array.mk [Value.string x0]) (w) (fun e1 w2 =>
           ∃ n3 : Int, ∃ n4 : Int, (e1 = Ending.returned (Value.tuple (Array.mk [Value.int IntKind.i32 n3, Value.int IntKind.i64 n4])) ∧
            R (Value.tuple (Array.mk [Value.int IntKind.i32 n3, Value.int IntKind.i64 n4])) w2))))))) ∧
   ((!ByteArray.toList x0 == ByteArray.toList (ByteArray.mk (Array.mk []))) = false →
     Calls Tryd.prog (148 : Nat) (Array.mk [Value.string x0]) (w) (fun e5 w6 =>
       ∃ n7 : Int, ∃ n8 : Int, (e5 = Ending.returned (Value.tuple (Array.mk [Value.int IntKind.i32 n7, Value.int IntKind.i64 n8])) ∧
        R (Value.tuple (Array.mk [Value.int IntKind.i32 n7, Value.int IntKind.i64 n8])) w6))))
theorem vc_utf8_DecodeRuneInString_ok {x0 : ByteArray} {w : World} {R : Value → World → Prop} {R' : Ending → World → Prop} (h : vc_utf8_DecodeRuneInString x0 w R) (hR : ∀ v w', R v w' → R' (.returned v) w') :
    Calls Tryd.prog 137 #[.string x0] w R' :=
  calls_of_body (vs := [(.string x0, false)]) (ty := ty) (ann := ⟨[], [], [], []⟩) (c := Tryd.f137.body.getD .skip) (by kernel_rfl) Tryd.func137 (by kernel_rfl) (by kernel_rfl) (Eq.mp (by kernel_rfl) h) hR
end Go.Proofs.YtfoeooddnmppnaaDoor

/- Structures of the kit over its shelf, at this seat (written by a program of the author's, laysn.py). No condition. -/
namespace Go.Proofs.YtfoeooddnmppnaaDoor
open Go Go.Shelf Go.Proofs
def lays217_ren : Go.Shelf.Ren := ⟨fun | 217 => 155 | 266 => 165 | n => n, fun | 3 => 3 | 5 => 5 | 9 => 9 | n => n, fun  | n => n⟩
theorem lays217 : Go.Proofs.Lays.n217 Tryd.prog lays217_ren := {
  mixed := by kernel_rfl,
  f217 := Tryd.func155.trans (congrArg some (by kernel_rfl)),
  f266 := Tryd.func165.trans (congrArg some (by kernel_rfl)),
  t3 := Tryd.underlying3,
  a3 := Tryd.isAgg3,
  z3 := Tryd.sizeOf3,
  v3 := Tryd.zeroValue3,
  t5 := Tryd.underlying5,
  a5 := Tryd.isAgg5,
  z5 := Tryd.sizeOf5,
  v5 := Tryd.zeroValue5,
  t9 := Tryd.underlying9,
  a9 := Tryd.isAgg9,
  z9 := Tryd.sizeOf9,
  v9 := Tryd.zeroValue9 }
def lays153_ren : Go.Shelf.Ren := ⟨fun | 119 => 168 | 137 => 167 | 152 => 159 | 153 => 147 | 217 => 155 | 224 => 157 | 225 => 156 | 226 => 160 | 227 => 161 | 228 => 162 | 266 => 165 | n => n, fun | 0 => 0 | 116 => 193 | 117 => 194 | 124 => 204 | 21 => 21 | 3 => 3 | 4 => 4 | 46 => 135 | 5 => 5 | 9 => 9 | n => n, fun  | n => n⟩
theorem lays153 : Go.Proofs.Lays.n153 Tryd.prog lays153_ren := {
  mixed := by kernel_rfl,
  f119 := Tryd.func168.trans (congrArg some (by kernel_rfl)),
  f137 := Tryd.func167.trans (congrArg some (by kernel_rfl)),
  f152 := Tryd.func159.trans (congrArg some (by kernel_rfl)),
  f153 := Tryd.func147.trans (congrArg some (by kernel_rfl)),
  f217 := Tryd.func155.trans (congrArg some (by kernel_rfl)),
  f224 := Tryd.func157.trans (congrArg some (by kernel_rfl)),
  f225 := Tryd.func156.trans (congrArg some (by kernel_rfl)),
  f226 := Tryd.func160.trans (congrArg some (by kernel_rfl)),
  f227 := Tryd.func161.trans (congrArg some (by kernel_rfl)),
  f228 := Tryd.func162.trans (congrArg some (by kernel_rfl)),
  f266 := Tryd.func165.trans (congrArg some (by kernel_rfl)),
  t0 := Tryd.underlying0,
  a0 := Tryd.isAgg0,
  z0 := Tryd.sizeOf0,
  v0 := Tryd.zeroValue0,
  t3 := Tryd.underlying3,
  a3 := Tryd.isAgg3,
  z3 := Tryd.sizeOf3,
  v3 := Tryd.zeroValue3,
  t4 := Tryd.underlying4,
  a4 := Tryd.isAgg4,
  z4 := Tryd.sizeOf4,
  v4 := Tryd.zeroValue4,
  t5 := Tryd.underlying5,
  a5 := Tryd.isAgg5,
  z5 := Tryd.sizeOf5,
  v5 := Tryd.zeroValue5,
  t9 := Tryd.underlying9,
  a9 := Tryd.isAgg9,
  z9 := Tryd.sizeOf9,
  v9 := Tryd.zeroValue9,
  t21 := Tryd.underlying21,
  a21 := Tryd.isAgg21,
  z21 := Tryd.sizeOf21,
  v21 := Tryd.zeroValue21,
  t46 := Tryd.underlying135,
  a46 := Tryd.isAgg135,
  z46 := Tryd.sizeOf135,
  v46 := Tryd.zeroValue135,
  t116 := Tryd.underlying193,
  a116 := Tryd.isAgg193,
  z116 := Tryd.sizeOf193,
  t117 := Tryd.underlying194,
  a117 := Tryd.isAgg194,
  z117 := Tryd.sizeOf194,
  v117 := Tryd.zeroValue194,
  t124 := Tryd.underlying204,
  a124 := Tryd.isAgg204,
  z124 := Tryd.sizeOf204,
  v124 := Tryd.zeroValue204 }
end Go.Proofs.YtfoeooddnmppnaaDoor

/- Go's text functions of this seat: Index at one byte. Conditions: as named. -/
set_option linter.unusedVariables false
namespace Go.Proofs.YtfoeooddnmppnaaDoor
open Go Vc Go.Proofs

theorem indexByteL_spec (s : ByteArray) (c : Int) (w : World) : Calls Tryd.prog F_stringslite_IndexByte #[.string s, .int .u8 c] w fun e w' => e = .returned (.int .i64 (Lib.indexByte s.data.toList c.toNat.toUInt8)) ∧ w' = w :=
  Any.stringslite_IndexByte lays217 s c w
/-- 'Index' at one byte. -/
theorem index1_spec (s : ByteArray) (c : Nat) (hc : c < 256) (w : World) : Calls Tryd.prog F_stringslite_Index #[.string s, .string ⟨#[UInt8.ofNat c]⟩] w fun e w' => e = .returned (.int .i64 (Lib.indexByte s.data.toList (UInt8.ofNat c))) ∧ w' = w := by
  refine vc_stringslite_Index_ok (R := fun v w' => v = .int .i64 (Lib.indexByte s.data.toList (UInt8.ofNat c)) ∧ w' = w) ?_ (fun v w' h => ⟨by rw [h.1], h.2⟩)
  have hb : byteAt ⟨#[UInt8.ofNat c]⟩ 0 = (c : Int) := by
    show (((UInt8.ofNat c).toNat : Nat) : Int) = _
    rw [toNat_of c hc]
  have h1 : (ByteArray.mk #[UInt8.ofNat c]).size = 1 := rfl
  refine ⟨fun _ => False, ⟨fun h => absurd h (by rw [h1]; decide), fun _ => ⟨fun h => ?_, fun _ => ⟨fun _ => ⟨⟨by decide, by rw [h1]; decide⟩, ?_⟩, fun h => absurd h (by rw [h1]; decide)⟩⟩⟩, fun _ h => h.elim⟩
  · rw [bs_eq] at h
    have h := of_decide_eq_true h
    subst h
    refine ⟨?_, rfl⟩
    have : Lib.indexByte (ByteArray.mk #[UInt8.ofNat c]).data.toList (UInt8.ofNat c) = ((0 : Nat) : Int) :=
      fnd_at (by rw [h1]; decide) rfl (fun k hk => by omega)
    rw [this]; rfl
  · rw [hb]
    refine (indexByteL_spec s c w).mono ?_
    rintro e w2 ⟨rfl, rfl⟩
    refine ⟨_, rfl, ?_, rfl⟩
    simp
/-- What 'Cut' at one byte says. -/
def cutS (s : ByteArray) (c : UInt8) : ByteArray × ByteArray × Bool :=
  if Lib.indexByte s.data.toList c = -1 then (s, ⟨#[]⟩, false) else (s.extract 0 (Lib.indexByte s.data.toList c).toNat, s.extract ((Lib.indexByte s.data.toList c).toNat + 1) s.size, true)
end Go.Proofs.YtfoeooddnmppnaaDoor

/- Formulas of 4 Go functions of this seat (written by a program of the author's, vcgen.py), and that each is enough for the call. No condition. -/
set_option linter.unusedVariables false
namespace Go.Proofs.YtfoeooddnmppnaaDoor
open Go Vc Go.Proofs
set_option maxRecDepth 100000
/-- snap.Clean$1 -/
def vc_snap_Clean_1 (x0 : Int) (w : World) (R : Value → World → Prop) : Prop :=
  (((decide (x0 < 32) = true →
     R (Value.bool true) w)) ∧
   (decide (x0 < 32) = false →
     R (Value.bool (decide (x0 > 126))) w))
theorem vc_snap_Clean_1_ok {x0 : Int} {w : World} {R : Value → World → Prop} {R' : Ending → World → Prop} (h : vc_snap_Clean_1 x0 w R) (hR : ∀ v w', R v w' → R' (.returned v) w') :
    Calls Tryd.prog 92 #[.int .i32 x0] w R' :=
  calls_of_body (vs := [(.int .i32 x0, false)]) (ty := ty) (ann := ⟨[], [], [], []⟩) (c := Tryd.f92.body.getD .skip) (by kernel_rfl) Tryd.func92 (by kernel_rfl) (by kernel_rfl) (Eq.mp (by kernel_rfl) h) hR
/-- strings.indexFunc#clean -/
def vc_strings_indexFunc_clean (x0 : ByteArray) (x2 : Bool) (w : World) (R : Value → World → Prop) : Prop :=
  ∃ w1 : World, ∃ a2 : Addr, (Sem.run Tryd.prog (Instr.range 9 (Value.string x0)) w = Result.ok (Value.pointer (some a2)) w1 ∧
   ∃ I3 : World → Prop, ∃ I4 : World → Nat, (I3 w1 ∧
    ∀ w5 : World,
    (I3 w5 →
      ((∃ w6 : World, (Sem.run Tryd.prog (Instr.next (Value.pointer (some a2)) true 0) w5 = Result.ok (Value.tuple (Array.mk [Value.bool false])) w6 ∧
        (((false = true →
           False)) ∧
         (false = false →
           R (Value.int IntKind.i64 (-1)) w6)))) ∨
       (∃ w7 : World, ∃ n8 : Int, ∃ n9 : Int, (Sem.run Tryd.prog (Instr.next (Value.pointer (some a2)) true 0) w5 = Result.ok (Value.tuple (Array.mk [Value.bool true, Value.int IntKind.i64 n8, Value.int IntKind.i32 n9])) w7 ∧
        (((true = true →
           Calls Tryd.prog (92 : FuncId) (Array.mk [Value.int IntKind.i32 n9]) (w7) (fun e10 w11 =>
             ∃ b12 : Bool, (e10 = Ending.returned (Value.bool b12) ∧
              ((((b12 == x2) = true →
                 R (Value.int IntKind.i64 n8) w11)) ∧
               ((b12 == x2) = false →
                 (I3 w11 ∧
                  I4 w11 < I4 w5))))))) ∧
         (true = false →
           R (Value.int IntKind.i64 (-1)) w7))))))))
theorem vc_strings_indexFunc_clean_ok {x0 : ByteArray} {x2 : Bool} {w : World} {R : Value → World → Prop} {R' : Ending → World → Prop} (h : vc_strings_indexFunc_clean x0 x2 w R) (hR : ∀ v w', R v w' → R' (.returned v) w') :
    Calls Tryd.prog 138 #[.string x0, .func (.func 92) #[] #[], .bool x2] w R' :=
  calls_of_body (vs := [(.string x0, false), (.func (.func 92) #[] #[], false), (.bool x2, false)]) (ty := ty) (ann := ⟨[], [(2, [])], [], []⟩) (c := Tryd.f138.body.getD .skip) (by kernel_rfl) Tryd.func138 (by kernel_rfl) (by kernel_rfl) (Eq.mp (by kernel_rfl) h) hR
/-- strings.IndexFunc#clean -/
def vc_strings_IndexFunc_clean (x0 : ByteArray) (w : World) (R : Value → World → Prop) : Prop :=
  Calls Tryd.prog (138 : Nat) (Array.mk [Value.string x0, Value.func (Fn.func 92) (Array.mk []) (Array.mk []), Value.bool true]) (w) (fun e1 w2 =>
    ∃ n3 : Int, (e1 = Ending.returned (Value.int IntKind.i64 n3) ∧
     R (Value.int IntKind.i64 n3) w2))
theorem vc_strings_IndexFunc_clean_ok {x0 : ByteArray} {w : World} {R : Value → World → Prop} {R' : Ending → World → Prop} (h : vc_strings_IndexFunc_clean x0 w R) (hR : ∀ v w', R v w' → R' (.returned v) w') :
    Calls Tryd.prog 122 #[.string x0, .func (.func 92) #[] #[]] w R' :=
  calls_of_body (vs := [(.string x0, false), (.func (.func 92) #[] #[], false)]) (ty := ty) (ann := ⟨[], [], [], []⟩) (c := Tryd.f122.body.getD .skip) (by kernel_rfl) Tryd.func122 (by kernel_rfl) (by kernel_rfl) (Eq.mp (by kernel_rfl) h) hR
/-- strings.ContainsFunc#clean -/
def vc_strings_ContainsFunc_clean (x0 : ByteArray) (w : World) (R : Value → World → Prop) : Prop :=
  Calls Tryd.prog (122 : Nat) (Array.mk [Value.string x0, Value.func (Fn.func 92) (Array.mk []) (Array.mk [])]) (w) (fun e1 w2 =>
    ∃ n3 : Int, (e1 = Ending.returned (Value.int IntKind.i64 n3) ∧
     R (Value.bool (decide (n3 ≥ 0))) w2))
theorem vc_strings_ContainsFunc_clean_ok {x0 : ByteArray} {w : World} {R : Value → World → Prop} {R' : Ending → World → Prop} (h : vc_strings_ContainsFunc_clean x0 w R) (hR : ∀ v w', R v w' → R' (.returned v) w') :
    Calls Tryd.prog 91 #[.string x0, .func (.func 92) #[] #[]] w R' :=
  calls_of_body (vs := [(.string x0, false), (.func (.func 92) #[] #[], false)]) (ty := ty) (ann := ⟨[], [], [], []⟩) (c := Tryd.f91.body.getD .skip) (by kernel_rfl) Tryd.func91 (by kernel_rfl) (by kernel_rfl) (Eq.mp (by kernel_rfl) h) hR
end Go.Proofs.YtfoeooddnmppnaaDoor

/- strings.SplitSeq at a slash, a range over it, ContainsFunc, snap.Clean. Conditions: as named. -/
set_option linter.unusedVariables false
namespace Go.Proofs.YtfoeooddnmppnaaDoor
open Go Vc Go.Proofs Go.RowKit Go.Shelf
attribute [local go_sem] Oper.semAt_some

/-- The parts of a text, cut at each slash. -/
def partsF : Nat → ByteArray → List ByteArray
  | 0, s => [s]
  | f + 1, s => if Lib.indexByte s.data.toList 47 = -1 then [s] else s.extract 0 (Lib.indexByte s.data.toList 47).toNat :: partsF f (s.extract ((Lib.indexByte s.data.toList 47).toNat + 1) s.size)
theorem index47 (s : ByteArray) (w : World) : Calls Tryd.prog F_strings_Index #[.string s, .string ⟨#[47]⟩] w fun e w' => e = .returned (.int .i64 (Lib.indexByte s.data.toList 47)) ∧ w' = w := by
  refine vc_strings_Index_ok (R := fun v w' => v = .int .i64 (Lib.indexByte s.data.toList 47) ∧ w' = w) ?_ (fun v w' h => ⟨by rw [h.1], h.2⟩)
  refine (index1_spec s 47 (by decide) w).mono ?_
  rintro e w2 ⟨rfl, rfl⟩
  exact ⟨_, rfl, rfl, rfl⟩
theorem partsF_no {s : ByteArray} (h : Lib.indexByte s.data.toList 47 = -1) (g : Nat) : partsF g s = [s] := by
  cases g with
  | zero => rfl
  | succ g => rw [partsF, if_pos h]
theorem partsF_yes {s : ByteArray} {i : Nat} (h : Lib.indexByte s.data.toList 47 = (i : Int)) (g : Nat) : partsF (g + 1) s = s.extract 0 i :: partsF g (s.extract (i + 1) s.size) := by
  rw [partsF, h, if_neg (by omega), Int.toNat_natCast]
set_option maxRecDepth 100000 in
set_option maxHeartbeats 2000000 in
theorem splitSeq_rounds (n : Nat) (hn : 1 ≤ n) (l b0 b1 b2 n₀ : Nat) (h0n : b0 < n₀) (h1n : b1 < n₀) (h2n : b2 < n₀) (h01 : b0 ≠ b1) (h12 : b2 ≠ b1) (s0 : ByteArray) (hs : s0.size ≤ 140737488355328) (f : Nat) (hf : s0.size ≤ f)
    (J Jx : List ByteArray → World → Prop) (hJ : ∀ pre W1 W2, J pre W1 → Fr (· = b1) W1 W2 → J pre W2)
    (hY : ∀ pre x W1, J pre W1 → (∃ r, pre ++ x :: r = partsF f s0) → YieldAt Fence.wide (n - 1) Tryd.prog l #[.string x] W1 fun e W' =>
      (e = .returned (.bool true) ∧ J (pre ++ [x]) W' ∧ Below n₀ W1 W') ∨ (e = .returned (.bool false) ∧ Jx (pre ++ [x]) W'))
    (W : World) (hc0 : W.cell? ⟨b0, 0, none⟩ = some (.string ⟨#[47]⟩)) (hc1 : W.cell? ⟨b1, 0, none⟩ = some (.string s0)) (hc2 : W.cell? ⟨b2, 0, none⟩ = some (.int .i64 0)) (hfz : W.frozen? ⟨b1, 0, none⟩ = false) (hJ0 : J [] W) :
    CallsIn Fence.wide n Tryd.prog 136 #[.func (.yield l) #[] #[], .pointer (some ⟨b0, 0, none⟩), .pointer (some ⟨b1, 0, none⟩), .pointer (some ⟨b2, 0, none⟩)] W fun e W' => (∃ v, e = .returned v) ∧ (J (partsF f s0) W' ∨ ∃ pre, Jx pre W') := by
  refine callsIn_of_wp Tryd.func136 rfl trivial ?_ rfl
  simp only [Tryd.ntmps136, List.size_toArray, List.length_cons, List.length_nil, Nat.reduceAdd, Nat.reduceSub, Array.replicate_succ, Array.replicate_zero, List.push_toArray, List.append_toArray, List.nil_append, List.cons_append]
  gi_wp2
  gi_loopw [] (fun wr => ∃ (pre : List ByteArray) (s : ByteArray) (g : Nat), wr.cell? ⟨b1, 0, none⟩ = some (.string s) ∧ s.size ≤ g ∧ s.size ≤ 140737488355328 ∧ pre ++ partsF g s = partsF f s0 ∧ J pre wr ∧ wr.cell? ⟨b0, 0, none⟩ = some (.string ⟨#[47]⟩) ∧ wr.cell? ⟨b2, 0, none⟩ = some (.int .i64 0) ∧ wr.frozen? ⟨b1, 0, none⟩ = false)
    (fun wr => match wr.cell? ⟨b1, 0, none⟩ with | some (.string s) => s.size | _ => 0)
  case atStart => exact ⟨[], s0, f, hc1, hf, hs, rfl, hJ0, hc0, hc2, hfz⟩
  case round =>
    obtain ⟨pre, s, g, k1, k2, k3, k4, k5, k6, k7, k8⟩ := hrel
    rcases fnd_cases s 47 with ⟨hi, hno⟩ | ⟨i, hi, hlt, hb, hno⟩
    · rw [partsF_no hi] at k4
      obtain ⟨fn, tmps, assign, body, hy, hR⟩ := hY pre s wr k5 ⟨[], k4⟩
      gi_wp2_with (refine ⟨trivial, ?_⟩; gi_at_call 133; refine (callsIn_wide.2 (index47 s _)).mono ?_; rw [hi]; rintro e w' ⟨rfl, rfl⟩)
      refine hR.mono ?_
      rintro e W3 (⟨rfl, hJ3, hk3⟩ | ⟨rfl, hJx3⟩)
      · gi_wp2
        go_end0
        exact ⟨⟨_, rfl⟩, .inl (by rw [← k4]; exact hJ3)⟩
      · gi_wp2
        go_end0
        exact ⟨⟨_, rfl⟩, .inr ⟨_, hJx3⟩⟩
    · obtain ⟨g, rfl⟩ : ∃ g', g = g' + 1 := ⟨g - 1, by omega⟩
      rw [partsF_yes hi] at k4
      obtain ⟨fn, tmps, assign, body, hy, hR⟩ := hY pre (s.extract 0 i) wr k5 ⟨_, k4⟩
      have e1 : IntKind.i64.wrap ((i : Int) + 0) = (i : Int) := by rw [wrap_i64 (by omega) (by omega)]; omega
      have e2 : IntKind.i64.wrap ((i : Int) + 1) = ((i + 1 : Nat) : Int) := by rw [wrap_i64 (by omega) (by omega)]; omega
      gi_wp2_with (refine ⟨trivial, ?_⟩; gi_at_call 133; refine (callsIn_wide.2 (index47 s _)).mono ?_; rw [hi]; rintro e w' ⟨rfl, rfl⟩)
      refine hR.mono ?_
      rintro e W3 (⟨rfl, hJ3, hk3⟩ | ⟨rfl, hJx3⟩)
      · have m0 : W3.cell? ⟨b0, 0, none⟩ = some (.string ⟨#[47]⟩) := (hk3.cell (p := ⟨b0, 0, none⟩) h0n).trans k6
        have m1 : W3.cell? ⟨b1, 0, none⟩ = some (.string s) := (hk3.cell (p := ⟨b1, 0, none⟩) h1n).trans k1
        have m2 : W3.cell? ⟨b2, 0, none⟩ = some (.int .i64 0) := (hk3.cell (p := ⟨b2, 0, none⟩) h2n).trans k7
        have m3 : W3.frozen? ⟨b1, 0, none⟩ = false := (hk3.frozen (p := ⟨b1, 0, none⟩) h1n).trans k8
        gi_wp2
        have hfr : Fr (· = b1) W3 (W3.setCell ⟨b1, 0, none⟩ (.string (s.extract (i + 1) s.size))) := .set _ _ _ rfl
        have c1 : (W3.setCell ⟨b1, 0, none⟩ (.string (s.extract (i + 1) s.size))).cell? ⟨b1, 0, none⟩ = some (.string (s.extract (i + 1) s.size)) := World.cell?_setCell_same' _ _ _ (by rw [m1]; rfl)
        have hsz : (s.extract (i + 1) s.size).size = s.size - (i + 1) := by simp
        refine ⟨⟨pre ++ [s.extract 0 i], s.extract (i + 1) s.size, g, c1, by omega, by omega, by rw [List.append_assoc]; exact k4, hJ _ _ _ hJ3 hfr, hfr.cell m0 h01, hfr.cell m2 h12, by rw [World.frozen?_setCell]; exact m3⟩, ?_⟩
        rw [c1, k1]
        simp only
        omega
      · gi_wp2
        refine bodyPost_ret (results_none rfl _ _ _) rfl ?_
        exact ⟨⟨_, rfl⟩, .inr ⟨_, hJx3⟩⟩
end Go.Proofs.YtfoeooddnmppnaaDoor
namespace Go.Proofs.YtfoeooddnmppnaaDoor
open Go Vc Go.Proofs Go.RowKit Go.Shelf

/-- How a round's body ends. -/
def RoundEnd (I Ix : List ByteArray → World → Prop) (B : Nat) (xs : List ByteArray) (W : World) : Exit → Act → World → Prop
  | .normal, _, W' => Fr (fun _ => False) W W' ∧ I xs W'
  | .ret, _, W' => Fr (fun k => k < B) W W' ∧ Ix xs W'
  | _, _, _ => False
theorem range_split {g : Operand} {p : Tmp} {assign body : Code} {Q : Exit → Act → World → Prop} {a : Act} {w : World} {B b0 b1 b2 : Nat} (hB0 : B ≤ b0) (hB1 : B ≤ b1) (hB2 : B ≤ b2) (h01 : b0 ≠ b1) (h12 : b2 ≠ b1)
    (hg : a.eval g = .func (.func 136) #[] #[.pointer (some ⟨b0, 0, none⟩), .pointer (some ⟨b1, 0, none⟩), .pointer (some ⟨b2, 0, none⟩)])
    (s0 : ByteArray) (hs : s0.size ≤ 140737488355328) (hc0 : w.cell? ⟨b0, 0, none⟩ = some (.string ⟨#[47]⟩)) (hc1 : w.cell? ⟨b1, 0, none⟩ = some (.string s0)) (hc2 : w.cell? ⟨b2, 0, none⟩ = some (.int .i64 0)) (hfz : w.frozen? ⟨b1, 0, none⟩ = false)
    (I Ix : List ByteArray → World → Prop) (hI : ∀ pre W W', I pre W → Fr (fun k => B ≤ k) W W' → I pre W') (hIx : ∀ pre W W', Ix pre W → Fr (fun k => B ≤ k) W W' → Ix pre W') (h0 : I [] w) (a₁ : ByteArray → Act)
    (hassign : ∀ (l : Nat) (x : ByteArray) (W : World) (K : Act → World → Prop), K (a₁ x) W →
      assign.wpIn (Fence.wide.inRound l) 1 Tryd.prog (Exit.then K (fun _ _ _ => False)) { tmps := ((#[p] : Array Tmp).zip #[Value.string x]).foldl (fun t (p, v) => t.setIfInBounds p v) a.tmps, defers := [] } W)
    (hbody : ∀ (l : Nat) (pre : List ByteArray) (x : ByteArray) (W : World), I pre W → (∃ r, pre ++ x :: r = partsF s0.size s0) → body.wpIn (Fence.wide.inRound l) 1 Tryd.prog (RoundEnd I Ix B (pre ++ [x]) W) (a₁ x) W)
    (hdone : ∀ (D : Nat) (W : World), w.heap.size ≤ D → I (partsF s0.size s0) W → W.heap[D]? = some (.deferred (some [])) → Q .normal { a with defers := { target := .collected D, args := #[] } :: a.defers } W)
    (hstop : ∀ (D : Nat) (pre : List ByteArray) (W : World), w.heap.size ≤ D → Ix pre W → W.heap[D]? = some (.deferred (some [])) → Q .ret { a with defers := { target := .collected D, args := #[] } :: a.defers } W) :
    (Code.rangeFunc g #[p] assign body).wpIn Fence.wide 3 Tryd.prog Q a w := by
  have hl0 := World.block_lt_of_cell? w _ hc0
  have hl1 := World.block_lt_of_cell? w _ hc1
  have hl2 := World.block_lt_of_cell? w _ hc2
  simp only at hl0 hl1 hl2
  have put : ∀ {W : World} {k : Nat} {o : Obj}, Fr (· = k) W (W.putObj k o) := fun {W k o} => (Fr.grown (grownBy_putObj' W k o)).mono fun q _ h => by cases h; rfl
  have hup : ∀ {q : Nat}, q = w.heap.size + 1 → B ≤ q := fun h => by omega
  have hge : ∀ {q : Nat}, q = w.heap.size + 1 → w.heap.size ≤ q := fun h => by omega
  refine wpIn_rangeFunc ?_
  intro fn hfn
  obtain ⟨rec, hrec⟩ : ∃ rec : LoopState → Option Code → Loop, rec = fun st pe => { state := st, pending := pe, fn, tmps := a.tmps, params := #[p], assign, body, defers := w.heap.size } := ⟨_, rfl⟩
  obtain ⟨W1, hW1⟩ : ∃ W1, (w.alloc (.deferred (some []))).alloc (.loop (rec .ready none)) = W1 := ⟨_, rfl⟩
  have hL1 : W1.heap[w.heap.size + 1]? = some (.loop (rec .ready none)) := by
    rw [← hW1]; have := World.alloc_heap_new (w.alloc (.deferred (some []))) (.loop (rec .ready none)); rwa [World.size_alloc] at this
  have hK1 : W1.heap[w.heap.size]? = some (.deferred (some [])) := by
    rw [← hW1]; exact (Below.heap_alloc _ _ _ (by simp)).trans (World.alloc_heap_new w _)
  have hf1 : Fr (fun _ => False) w W1 := by rw [← hW1]; exact (Fr.alloc _ _ _).trans' (.alloc _ _ _)
  refine ⟨w.heap.size + 1, [{ target := .collected w.heap.size, args := #[] }], W1, { target := .fn (.func 136) #[.pointer (some ⟨b0, 0, none⟩), .pointer (some ⟨b1, 0, none⟩), .pointer (some ⟨b2, 0, none⟩)], args := #[.func (.yield (w.heap.size + 1)) #[] #[]] }, W1, 136,
    #[.func (.yield (w.heap.size + 1)) #[] #[], .pointer (some ⟨b0, 0, none⟩), .pointer (some ⟨b1, 0, none⟩), .pointer (some ⟨b2, 0, none⟩)], W1, ?_, ?_, ?_, ?_, fun h => (by cases h), ?_⟩
  · rw [← hW1, hrec]; exact run_enterLoop_outer _ _ _ _ _
  · simp only [resolve, hg]
    simp [go_sem]
  · exact fun f' _ => trivial
  · have eg := enters_of (P := Tryd.prog) Tryd.func136 (by kernel_rfl) rfl
    first | (simp [invoke, go_sem]; done) | simp [invoke, go_sem, eg]
  · -- the rounds
    have hidx : ∀ {W W' : World} {X : Nat → Prop}, Fr X W W' → (∀ k, X k → k = b1) → (W.heap[w.heap.size + 1]? = some (.loop (rec .ready none)) ∧ W.heap[w.heap.size]? = some (.deferred (some []))) →
        (W'.heap[w.heap.size + 1]? = some (.loop (rec .ready none)) ∧ W'.heap[w.heap.size]? = some (.deferred (some []))) := fun hf hx h => ⟨hf.keep h.1 fun e => by have := hx _ e; omega, hf.keep h.2 fun e => by have := hx _ e; omega⟩
    refine (splitSeq_rounds 2 (by decide) (w.heap.size + 1) b0 b1 b2 w.heap.size hl0 hl1 hl2 h01 h12 s0 hs s0.size (Nat.le_refl _)
      (fun pre W => I pre W ∧ W.heap[w.heap.size + 1]? = some (.loop (rec .ready none)) ∧ W.heap[w.heap.size]? = some (.deferred (some [])))
      (fun pre W => Ix pre W ∧ W.heap[w.heap.size + 1]? = some (.loop (rec .done (some .ret))) ∧ W.heap[w.heap.size]? = some (.deferred (some [])))
      (fun pre W W' h hf => ⟨hI _ _ _ h.1 (hf.mono fun k _ e => by rw [e]; exact hB1), hidx hf (fun k e => e) h.2⟩)
      ?_ W1 (hf1.cell hc0 (by simp)) (hf1.cell hc1 (by simp)) (hf1.cell hc2 (by simp)) ?_ ⟨hI _ _ _ h0 (hf1.mono fun _ _ h => h.elim), hL1, hK1⟩).mono ?_
    · -- one round
      rintro pre x W ⟨hi, hl, hk⟩ hr
      have hlt : w.heap.size + 1 < W.heap.size := (Array.getElem?_eq_some_iff.1 hl).1
      have hy := run_yield (P := Tryd.prog) (args := #[.string x]) hl (by rw [hrec]; rfl)
      rw [hrec] at hy
      refine ⟨fn, _, assign, body, hy, roundIn_of_wpIn hfn ?_⟩
      refine hassign _ x W _ ⟨_, run_beginRound hl (by rw [hrec]), ?_⟩
      obtain ⟨W2, hW2⟩ : ∃ W2, W.putObj (w.heap.size + 1) (.loop { rec .ready none with state := .busy }) = W2 := ⟨_, rfl⟩
      rw [hW2]
      have hp2 : Fr (· = w.heap.size + 1) W W2 := by rw [← hW2]; exact put
      have hl2 : W2.heap[w.heap.size + 1]? = some (.loop { rec .ready none with state := .busy }) := by rw [← hW2]; exact World.putObj_heap_same hlt
      have hk2 : W2.heap[w.heap.size]? = some (.deferred (some [])) := hp2.keep hk (by omega)
      refine wpIn_mono (hbody _ pre x W2 (hI _ _ _ hi (hp2.mono fun k _ h => hup h)) hr) ?_
      have fin : ∀ (jump : Option Code) (W3 : World), W3.heap[w.heap.size + 1]? = some (.loop { rec .ready none with state := .busy }) → W3.heap[w.heap.size]? = some (.deferred (some [])) →
          (Instr.endRound (w.heap.size + 1) jump).run Tryd.prog W3 = .ok (.bool jump.isNone) (W3.putObj (w.heap.size + 1) (.loop (rec (if jump.isNone then .ready else .done) jump))) ∧
          (W3.putObj (w.heap.size + 1) (.loop (rec (if jump.isNone then .ready else .done) jump))).heap[w.heap.size + 1]? = some (.loop (rec (if jump.isNone then .ready else .done) jump)) ∧
          (W3.putObj (w.heap.size + 1) (.loop (rec (if jump.isNone then .ready else .done) jump))).heap[w.heap.size]? = some (.deferred (some [])) := fun jump W3 hl3 hk3 => by
        have := run_endRound (P := Tryd.prog) jump hl3
        refine ⟨?_, World.putObj_heap_same (Array.getElem?_eq_some_iff.1 hl3).1, (World.putObj_heap_other (by omega)).trans hk3⟩
        rw [hrec] at this ⊢
        exact this
      rintro e a3 W3 hp
      cases e with
      | normal =>
        obtain ⟨hf3, hi3⟩ := hp
        obtain ⟨hr3, hl4, hk4⟩ := fin none W3 (hf3.keep hl2 (by simp)) (hf3.keep hk2 (by simp))
        refine ⟨_, _, hr3, .inl ⟨rfl, ⟨hI _ _ _ hi3 (put.mono fun k _ h => hup h), hl4, hk4⟩, ?_⟩⟩
        exact Fr.below (((hp2.trans hf3 fun q _ h => h.elim).trans' put).mono fun k _ h => hge h) (by omega)
      | ret =>
        obtain ⟨hf3, hi3⟩ := hp
        obtain ⟨hr3, hl4, hk4⟩ := fin (some .ret) W3 (hf3.keep hl2 (fun h => Nat.not_lt.2 (Nat.le_of_lt (Nat.lt_of_le_of_lt hB0 (Nat.lt_succ_of_lt hl0))) h)) (hf3.keep hk2 (fun h => Nat.not_lt.2 (Nat.le_of_lt (Nat.lt_of_le_of_lt hB0 hl0)) h))
        exact ⟨_, _, hr3, .inr ⟨rfl, hIx _ _ _ hi3 (put.mono fun k _ h => hup h), hl4, hk4⟩⟩
      | exit id => exact hp.elim
      | goto t => exact hp.elim
      | panic ch => exact hp.elim
      | outgrown => exact hp.elim
    · rw [← hW1]
      exact (World.frozen?_of_block (by rw [hW1]; exact hf1.blk b1 hl1 (by simp))).trans hfz
    · -- behind the iterator
      rintro e W2 ⟨⟨v, rfl⟩, (⟨hi, hl, hk⟩ | ⟨pre, hi, hl, hk⟩)⟩
      · refine ⟨none, _, by have := run_endLoop (P := Tryd.prog) hl (by rw [hrec]; simp); rw [hrec] at this; exact this, hdone _ _ (Nat.le_refl _) (hI _ _ _ hi (put.mono fun k _ h => hup h)) ((World.putObj_heap_other (by omega)).trans hk)⟩
      · refine ⟨some .ret, _, by have := run_endLoop (P := Tryd.prog) hl (by rw [hrec]; simp); rw [hrec] at this; exact this, ?_⟩
        exact wpIn_ret (hstop w.heap.size pre _ (Nat.le_refl _) (hIx _ _ _ hi (put.mono fun k _ h => hup h)) ((World.putObj_heap_other (by omega)).trans hk))
end Go.Proofs.YtfoeooddnmppnaaDoor
namespace Go.Proofs.YtfoeooddnmppnaaDoor
open Go Vc Go.Proofs Go.RowKit Go.Shelf

/-- Every byte is a letter that is printed. -/
def printB (s : ByteArray) : Bool := decide (∀ k, k < s.size → 32 ≤ byt s k ∧ byt s k ≤ 126)
theorem clean1_spec (c : Int) (w : World) : Calls Tryd.prog F_snap_Clean_1 #[.int .i32 c] w fun e w' => e = .returned (.bool (decide (c < 32) || decide (c > 126))) ∧ w' = w := by
  refine vc_snap_Clean_1_ok (R := fun v w' => v = .bool (decide (c < 32) || decide (c > 126)) ∧ w' = w) ?_ (fun v w' h => ⟨by rw [h.1], h.2⟩)
  exact ⟨fun h => ⟨by rw [h]; rfl, rfl⟩, fun h => ⟨by rw [h]; rfl, rfl⟩⟩
theorem indexFunc_spec (s : ByteArray) (w : World) : Calls Tryd.prog F_strings_indexFunc #[.string s, .func (.func F_snap_Clean_1) #[] #[], .bool true] w fun e w' =>
    ∃ n : Int, e = .returned (.int .i64 n) ∧ decide (n ≥ 0) = !printB s ∧ Fr (fun _ => False) w w' := by
  refine vc_strings_indexFunc_clean_ok (R := fun v w' => ∃ n : Int, v = .int .i64 n ∧ decide (n ≥ 0) = !printB s ∧ Fr (fun _ => False) w w') ?_ (fun v w' ⟨n, h⟩ => ⟨n, by rw [h.1], h.2⟩)
  obtain ⟨w7, hr7, hi7, hf7⟩ := iter_new (P := Tryd.prog) (w := w) (t := 9) (s := s) (by kernel_rfl)
  refine ⟨w7, _, hr7, fun w' => ∃ p, IsIter w' w.heap.size s p ∧ p ≤ s.size ∧ Fr (fun _ => False) w w' ∧ ∀ k, k < p → 32 ≤ byt s k ∧ byt s k ≤ 126, itLeft w.heap.size, ⟨0, hi7, Nat.zero_le _, hf7, fun k hk => by omega⟩, ?_⟩
  rintro w11 ⟨p, hi, hp, hf, hn⟩
  by_cases hps : p < s.size
  · refine .inr ?_
    obtain ⟨w13, hr13, hi13, hf13⟩ := iter_next (P := Tryd.prog) hi hps 0
    have hfn : Fr (fun _ => False) w w13 := hf.trans hf13 fun k hk e => by omega
    refine ⟨w13, _, _, hr13, fun _ => (clean1_spec _ w13).mono ?_, fun h => (by cases h)⟩
    rintro e w15 ⟨rfl, hw⟩
    replace hw := hw.symm
    subst hw
    have bad : ∀ {k : Nat}, k < s.size → ¬ (32 ≤ byt s k ∧ byt s k ≤ 126) → printB s = false := fun hk h => by
      unfold printB
      exact decide_eq_false fun hall => h (hall _ hk)
    refine ⟨_, rfl, fun h => ⟨p, rfl, ?_, hfn⟩, fun h => ?_⟩
    · have hb : printB s = false := by
        refine bad hps fun hh => ?_
        rw [dec_low hps (by omega)] at h
        simp only [beq_iff_eq, Bool.or_eq_true, decide_eq_true_eq] at h
        omega
      rw [hb]
      exact decide_eq_true (by omega)
    · by_cases hb : byt s p < 128
      · rw [dec_low hps hb] at h hi13
        simp only [beq_eq_false_iff_ne, ne_eq, Bool.not_eq_true, Bool.or_eq_false_iff, decide_eq_false_iff_not] at h
        refine ⟨⟨p + 1, hi13, by omega, hfn, fun k hk => ?_⟩, by rw [hi13.left, hi.left]; omega⟩
        by_cases hkp : k = p
        · subst hkp; omega
        · exact hn k (by omega)
      · obtain ⟨d1, d2, d3, d4, d5⟩ := dec_high hps (by omega)
        exfalso
        have : decide (((Utf8.decode s p).1 : Int) > 126) = true := decide_eq_true (by omega)
        rw [this] at h
        simp at h
  · refine .inl ⟨w11, iter_end hi (by omega) 0, fun h => (by cases h), fun _ => ⟨-1, rfl, ?_, hf⟩⟩
    have : printB s = true := decide_eq_true fun k hk => hn k (by omega)
    rw [this]; rfl
theorem containsFunc_spec (s : ByteArray) (w : World) : Calls Tryd.prog F_strings_ContainsFunc #[.string s, .func (.func F_snap_Clean_1) #[] #[]] w fun e w' =>
    e = .returned (.bool (!printB s)) ∧ Fr (fun _ => False) w w' := by
  refine vc_strings_ContainsFunc_clean_ok (R := fun v w' => v = .bool (!printB s) ∧ Fr (fun _ => False) w w') ?_ (fun v w' h => ⟨by rw [h.1], h.2⟩)
  refine Calls.mono (R := fun e w' => ∃ n : Int, e = .returned (.int .i64 n) ∧ decide (n ≥ 0) = !printB s ∧ Fr (fun _ => False) w w') (vc_strings_IndexFunc_clean_ok (R := fun v w' => ∃ n : Int, v = .int .i64 n ∧ decide (n ≥ 0) = !printB s ∧ Fr (fun _ => False) w w') ?_ (fun v w' ⟨n, h⟩ => ⟨n, by rw [h.1], h.2⟩)) ?_
  · refine (indexFunc_spec s w).mono ?_
    rintro e w2 ⟨n, rfl, h⟩
    exact ⟨n, rfl, n, rfl, h⟩
  · rintro e w2 ⟨n, rfl, h, hf⟩
    exact ⟨n, rfl, by rw [h], hf⟩
/-- What SplitSeq hands back, and what it lays. -/
theorem splitSeq_spec (s : ByteArray) (w : World) : Calls Tryd.prog 90 #[.string s, .string ⟨#[47]⟩] w fun e w' =>
    e = .returned (.func (.func 136) #[] #[.pointer (some ⟨w.heap.size + 1, 0, none⟩), .pointer (some ⟨w.heap.size, 0, none⟩), .pointer (some ⟨w.heap.size + 2, 0, none⟩)]) ∧
    w' = ((w.alloc (.cells #[.string s] 9)).alloc (.cells #[.string ⟨#[47]⟩] 9)).alloc (.cells #[.int .i64 0] 3) := by
  have inner : Calls Tryd.prog 121 #[.string s, .string ⟨#[47]⟩, .int .i64 0] w fun e w' =>
    e = .returned (.func (.func 136) #[] #[.pointer (some ⟨w.heap.size + 1, 0, none⟩), .pointer (some ⟨w.heap.size, 0, none⟩), .pointer (some ⟨w.heap.size + 2, 0, none⟩)]) ∧
    w' = ((w.alloc (.cells #[.string s] 9)).alloc (.cells #[.string ⟨#[47]⟩] 9)).alloc (.cells #[.int .i64 0] 3) := by
    go_enter Tryd.func121, Tryd.ntmps121
    go_wp2
    go_ret
    exact ⟨by simp, rfl⟩
  go_enter Tryd.func90, Tryd.ntmps90
  go_wp2_with (refine inner.mono ?_; rintro e w' ⟨rfl, rfl⟩)
  go_ret
  exact ⟨rfl, rfl⟩
end Go.Proofs.YtfoeooddnmppnaaDoor
namespace Go.Proofs.YtfoeooddnmppnaaDoor
open Go Vc Go.Proofs Go.RowKit Go.Shelf
attribute [local go_sem] Oper.semAt_some

theorem toList_nil : (⟨#[]⟩ : ByteArray).toList = [] := by rw [ByteArray.toList_eq]
theorem toList_dot : (⟨#[46]⟩ : ByteArray).toList = [46] := by rw [ByteArray.toList_eq]
theorem toList_dots : (⟨#[46, 46]⟩ : ByteArray).toList = [46, 46] := by rw [ByteArray.toList_eq]
def partOK (p : ByteArray) : Bool := decide (p ≠ ⟨#[]⟩) && decide (p ≠ ⟨#[46]⟩) && decide (p ≠ ⟨#[46, 46]⟩)
def cleanB (s : ByteArray) : Bool := decide (s.size ≤ 200) && (partsF s.size s).all partOK && printB s
set_option maxRecDepth 100000 in
set_option maxHeartbeats 2000000 in
theorem clean_spec (s : ByteArray) (hs : s.size ≤ 140737488355328) (w : World) : Calls Tryd.prog 37 #[.string s] w fun e w' => e = .returned (.bool (cleanB s)) ∧ Fr (fun _ => False) w w' := by
  refine (callsIn_wide (n := 3)).1 ?_
  refine callsIn_of_wp_marks Tryd.func37 rfl trivial ?_ rfl
  simp only [Tryd.ntmps37, List.size_toArray, List.length_cons, List.length_nil, Nat.reduceAdd, Nat.reduceSub, Array.replicate_succ, Array.replicate_zero, List.push_toArray, List.append_toArray, List.nil_append, List.cons_append]
  have hcell0 : (w.alloc (.cells #[.bool false] 4)).cell? ⟨w.heap.size, 0, none⟩ = some (.bool false) := by rw [cell_blk (alloc_new w _)]; rfl
  by_cases hlen : s.size > 200
  · gi_wp2
    refine ⟨.bool false, ?_, ?_, .alloc _ _ _⟩
    · simp [results, Tryd.f37, go_sem, hcell0]
    · unfold cleanB
      rw [decide_eq_false (by omega)]; rfl
  · gi_wp2_with (refine ⟨trivial, ?_⟩; gi_at_call 90; refine (callsIn_wide.2 (splitSeq_spec s _)).mono ?_; rintro e w' ⟨rfl, rfl⟩)
    obtain ⟨w0, hw0⟩ : ∃ w0, w.alloc (.cells #[.bool false] 4) = w0 := ⟨_, rfl⟩
    have hsz : w0.heap.size = w.heap.size + 1 := by rw [← hw0]; simp
    have hb0 : w0.heap[w.heap.size]? = some (.cells #[.bool false] 4 (0, 0)) := by rw [← hw0]; exact alloc_new _ _
    have hf0 : Fr (fun _ => False) w w0 := by rw [← hw0]; exact .alloc _ _ _
    rw [hw0]
    obtain ⟨w1, hw1⟩ : ∃ w1, ((w0.alloc (.cells #[.string s] 9)).alloc (.cells #[.string ⟨#[47]⟩] 9)).alloc (.cells #[.int .i64 0] 3) = w1 := ⟨_, rfl⟩
    have hf1 : Fr (fun _ => False) w0 w1 := by rw [← hw1]; exact ((Fr.alloc _ _ _).trans' (.alloc _ _ _)).trans' (.alloc _ _ _)
    have n1 : (w0.alloc (.cells #[.string s] 9)).heap.size = w.heap.size + 1 + 1 := by simp [hsz]
    have n2 : ((w0.alloc (.cells #[.string s] 9)).alloc (.cells #[.string ⟨#[47]⟩] 9)).heap.size = w.heap.size + 1 + 2 := by simp [hsz]
    have hbs : w1.heap[w.heap.size + 1]? = some (.cells #[.string s] 9 (0, 0)) := by
      rw [← hw1, ← hsz]
      exact (Fr.alloc (fun _ => False) _ _).keep ((Fr.alloc (fun _ => False) _ _).keep (alloc_new w0 _) (by simp)) (by simp)
    have hbp : w1.heap[w.heap.size + 1 + 1]? = some (.cells #[.string ⟨#[47]⟩] 9 (0, 0)) := by
      rw [← hw1, ← n1]
      exact (Fr.alloc (fun _ => False) _ _).keep (alloc_new _ _) (by simp)
    have hbz : w1.heap[w.heap.size + 1 + 2]? = some (.cells #[.int .i64 0] 3 (0, 0)) := by
      rw [← hw1, ← n2]
      exact alloc_new _ _
    rw [hw1]
    clear hw1 n1 n2 hw0
    refine range_split (B := w.heap.size + 1) (b0 := w.heap.size + 1 + 1) (b1 := w.heap.size + 1) (b2 := w.heap.size + 1 + 2) (by omega) (by omega) (by omega) (by omega) (by omega) rfl s hs
      (by rw [cell_blk hbp]; rfl) (by rw [cell_blk hbs]; rfl) (by rw [cell_blk hbz]; rfl) (frozen_blk hbs 0)
      (fun pre W => (∀ p ∈ pre, partOK p = true) ∧ W.heap[w.heap.size]? = some (.cells #[.bool false] 4 (0, 0)) ∧ Fr (fun _ => False) w W)
      (fun pre W => (∃ p ∈ partsF s.size s, partOK p = false) ∧ W.cell? ⟨w.heap.size, 0, none⟩ = some (.bool false) ∧ Fr (fun _ => False) w W)
      (fun pre W W' ⟨h1, h2, h3⟩ hf => ⟨h1, hf.keep h2 (by omega), h3.trans hf fun q hq h => by omega⟩)
      (fun pre W W' ⟨h1, h2, h3⟩ hf => ⟨h1, hf.cell h2 (by simp only; omega), h3.trans hf fun q hq h => by omega⟩)
      ⟨by simp, hf1.keep hb0 (by simp), hf0.trans' hf1⟩
      (fun x => { tmps := #[.string s, undef, .pointer (some ⟨w.heap.size, 0, none⟩), .string x, .string s, .int .i64 s.size, .bool (decide (200 < (s.size : Int))), .string s, .func (.func 136) #[] #[.pointer (some ⟨w.heap.size + 1 + 1, 0, none⟩), .pointer (some ⟨w.heap.size + 1, 0, none⟩), .pointer (some ⟨w.heap.size + 1 + 2, 0, none⟩)], .string x, undef, undef, undef, undef, undef, undef, undef, undef, undef, undef, undef, undef, undef], defers := [] }) ?assign ?body ?done ?stop
    case assign =>
      intro l x W K hK
      gi_wp2
      exact hK
    case body =>
      rintro l pre x W ⟨hp, hcell, hf⟩ hr
      have hcc : W.cell? ⟨w.heap.size, 0, none⟩ = some (.bool false) := by rw [cell_blk hcell]; rfl
      have hcz : W.frozen? ⟨w.heap.size, 0, none⟩ = false := frozen_blk hcell 0
      have k1 : x.toList.isEmpty = decide (x = ⟨#[]⟩) := by
        rw [← bs_eq, toList_nil]
        cases x.toList <;> rfl
      have k2 : (x.toList == [46]) = decide (x = ⟨#[46]⟩) := by rw [← bs_eq, toList_dot]
      have k3 : (x.toList == [46, 46]) = decide (x = ⟨#[46, 46]⟩) := by rw [← bs_eq, toList_dots]
      have ret : partOK x = false → Fr (fun k => k < w.heap.size + 1) W (W.setCell ⟨w.heap.size, 0, none⟩ (.bool false)) ∧ (∃ p ∈ partsF s.size s, partOK p = false) ∧ (W.setCell ⟨w.heap.size, 0, none⟩ (.bool false)).cell? ⟨w.heap.size, 0, none⟩ = some (.bool false) ∧ Fr (fun _ => False) w (W.setCell ⟨w.heap.size, 0, none⟩ (.bool false)) := fun hx =>
        ⟨Fr.set _ _ _ (Nat.lt_succ_self _), ⟨x, by obtain ⟨r, hr⟩ := hr; rw [← hr]; simp, hx⟩, World.cell?_setCell_same' _ _ _ (by rw [hcc]; rfl), hf.trans (Fr.set (· = w.heap.size) _ _ rfl) fun q hq e => by omega⟩
      gi_wp2
      · rename_i hx
        exact ret (by unfold partOK; rw [hx]; rfl)
      · rename_i hx
        exact ret (by unfold partOK; rw [hx]; rfl)
      · rename_i hx
        exact ret (by unfold partOK; rw [hx]; rfl)
      · have h1 : ¬ x = ⟨#[]⟩ := by assumption
        have h2 : ¬ x = ⟨#[46]⟩ := by assumption
        have h3 : ¬ x = ⟨#[46, 46]⟩ := by assumption
        refine ⟨.refl _ _, fun p hpm => ?_, hcell, hf⟩
        rcases List.mem_append.1 hpm with hpm | hpm
        · exact hp p hpm
        · simp only [List.mem_cons, List.mem_nil_iff, or_false] at hpm
          subst hpm
          unfold partOK
          simp [h1, h2, h3]
    case done =>
      rintro D W hD ⟨hall, hcell, hf⟩ hK
      have hcc : W.cell? ⟨w.heap.size, 0, none⟩ = some (.bool false) := by rw [cell_blk hcell]; rfl
      have hcz : W.frozen? ⟨w.heap.size, 0, none⟩ = false := frozen_blk hcell 0
      gi_wp2_with (refine ⟨trivial, ?_⟩; gi_at_call 91; refine (callsIn_wide.2 (containsFunc_spec s _)).mono ?_; rintro e w' ⟨rfl, hf'⟩; have hcc' := hf'.cell hcc (by simp); have hcz' := frozen_blk (hf'.keep hcell (by simp)) 0)
      have hne : D ≠ w.heap.size := by have := hf1.size; omega
      have hst : Fr (· = w.heap.size) w' (w'.setCell ⟨w.heap.size, 0, none⟩ (.bool (printB s))) := .set _ _ _ rfl
      have hK' := hst.keep (hf'.keep hK (by simp)) hne
      refine ⟨by simp, .inl ⟨_, _, rfl, run_takeDeferred hK', ?_⟩⟩
      have hpt : Fr (· = D) (w'.setCell ⟨w.heap.size, 0, none⟩ (.bool (printB s))) ((w'.setCell ⟨w.heap.size, 0, none⟩ (.bool (printB s))).putObj D (.deferred none)) := (Fr.grown (grownBy_putObj' _ D _)).mono fun q _ h => by cases h; rfl
      have hc5 := hpt.cell (World.cell?_setCell_same' w' ⟨w.heap.size, 0, none⟩ (.bool (printB s)) (by rw [hcc']; rfl)) (fun h => hne h.symm)
      refine ⟨.bool (printB s), ?_, ?_, ?_⟩
      · simp [results, Tryd.f37, go_sem, hc5]
      · have : (partsF s.size s).all partOK = true := List.all_eq_true.2 hall
        unfold cleanB
        rw [this, decide_eq_true (by omega)]; rfl
      · have h1 := (hf.trans' hf').size
        have h2 := (hf0.trans' hf1).size
        exact ((hf.trans' hf').trans hst fun q hq e => by omega).trans hpt fun q hq e => by omega
    case stop =>
      rintro D pre W hD ⟨⟨p, hpm, hpb⟩, hcell, hf⟩ hK
      have hne : D ≠ w.heap.size := by have := hf1.size; omega
      gi_wp2
      refine ⟨by simp, .inl ⟨_, _, rfl, run_takeDeferred hK, ?_⟩⟩
      have hpt : Fr (· = D) W (W.putObj D (.deferred none)) := (Fr.grown (grownBy_putObj' _ D _)).mono fun q _ h => by cases h; rfl
      have hc5 := hpt.cell hcell (fun h => hne h.symm)
      refine ⟨.bool false, ?_, ?_, ?_⟩
      · simp [results, Tryd.f37, go_sem, hc5]
      · have : (partsF s.size s).all partOK = false := by
          rw [← Bool.not_eq_true, List.all_eq_true]
          intro h
          rw [h p hpm] at hpb; cases hpb
        unfold cleanB
        rw [this]; simp
      · have h2 := (hf0.trans' hf1).size
        exact hf.trans hpt fun q hq e => by omega
end Go.Proofs.YtfoeooddnmppnaaDoor

/- Formulas of 2 Go functions of this seat (written by a program of the author's, vcgen.py), and that each is enough for the call. No condition. -/
set_option linter.unusedVariables false
namespace Go.Proofs.YtfoeooddnmppnaaDoor
open Go Vc Go.Proofs
set_option maxRecDepth 100000
/-- cartularyref07.Parts -/
def vc_cartularyref07_Parts (x0 : ByteArray) (w : World) (R : Value → World → Prop) : Prop :=
  ∀ w1 : World,
  (w1 = World.alloc w (Obj.cells (Array.mk [Value.string (ByteArray.mk (Array.mk []))]) 9) →
    ∃ I2 : Sl → Int → World → Prop, ∃ I3 : Sl → Int → World → Nat, (I2 (Sl.mk (some (Addr.mk (Array.size (World.heap w)) 0 none)) 1 1) 0 w1 ∧
     ∀ l4 : Sl,
     ∀ n5 : Int,
     ∀ w6 : World,
     (I2 l4 n5 w6 →
       (((decide (n5 < (↑(ByteArray.size x0) : Int)) = true →
          ((0 ≤ n5 ∧
            n5 < (↑(ByteArray.size x0) : Int)) ∧
           ((((byteAt x0 n5 == 47) = true →
              ∀ w7 : World,
              (w7 = World.alloc w6 (Obj.cells (Array.mk [Value.string (ByteArray.mk (Array.mk []))]) 9) →
                ∃ w8 : World, ∃ l9 : Sl, (Sem.run Tryd.prog (Builtin.append_ (Array.mk [55, 55]) 55 (Array.mk [Value.slice l4.1 l4.2 l4.3, Value.slice (some (Addr.mk (Array.size (World.heap w6)) 0 none)) 1 1])) w7 = Result.ok (Value.slice l9.1 l9.2 l9.3) w8 ∧
                 (I2 (Sl.mk l9.1 l9.2 l9.3) (IntKind.wrap IntKind.i64 (n5 + 1)) w8 ∧
                  I3 (Sl.mk l9.1 l9.2 l9.3) (IntKind.wrap IntKind.i64 (n5 + 1)) w8 < I3 l4 n5 w6))))) ∧
            ((byteAt x0 n5 == 47) = false →
              ∀ w10 : World,
              (Drew w6 w10 →
                ((0 ≤ IntKind.wrap IntKind.i64 ((↑l4.2 : Int) - 1) ∧
                  IntKind.wrap IntKind.i64 ((↑l4.2 : Int) - 1) < (↑l4.2 : Int)) ∧
                 ∃ a11 : Addr, (l4.1 = some a11 ∧
                  ∃ s12 : ByteArray, (World.cell? w10 (Addr.add a11 (Int.toNat (IntKind.wrap IntKind.i64 ((↑l4.2 : Int) - 1)) * 1)) = some (Value.string s12) ∧
                   ((0 ≤ n5 ∧
                     (n5 ≤ IntKind.wrap IntKind.i64 (n5 + 1) ∧
                      IntKind.wrap IntKind.i64 (n5 + 1) ≤ (↑(ByteArray.size x0) : Int))) ∧
                    (ByteArray.size s12 + ByteArray.size (ByteArray.extract x0 (Int.toNat n5) (Int.toNat (IntKind.wrap IntKind.i64 (n5 + 1)))) ≤ 9223372036854775807 ∧
                     ((0 ≤ IntKind.wrap IntKind.i64 ((↑l4.2 : Int) - 1) ∧
                       IntKind.wrap IntKind.i64 ((↑l4.2 : Int) - 1) < (↑l4.2 : Int)) ∧
                      ∃ a13 : Addr, (l4.1 = some a13 ∧
                       (Wr w10 (Addr.add a13 (Int.toNat (IntKind.wrap IntKind.i64 ((↑l4.2 : Int) - 1)) * 1)) ∧
                        ∀ w14 : World,
                        (w14 = World.setCell w10 (Addr.add a13 (Int.toNat (IntKind.wrap IntKind.i64 ((↑l4.2 : Int) - 1)) * 1)) (Value.string (s12 ++ ByteArray.extract x0 (Int.toNat n5) (Int.toNat (IntKind.wrap IntKind.i64 (n5 + 1))))) →
                          (I2 (Sl.mk l4.1 l4.2 l4.3) (IntKind.wrap IntKind.i64 (n5 + 1)) w14 ∧
                           I3 (Sl.mk l4.1 l4.2 l4.3) (IntKind.wrap IntKind.i64 (n5 + 1)) w14 < I3 l4 n5 w6)))))))))))))))) ∧
        (decide (n5 < (↑(ByteArray.size x0) : Int)) = false →
          R (Value.slice l4.1 l4.2 l4.3) w6)))))
theorem vc_cartularyref07_Parts_ok {x0 : ByteArray} {w : World} {R : Value → World → Prop} {R' : Ending → World → Prop} (h : vc_cartularyref07_Parts x0 w R) (hR : ∀ v w', R v w' → R' (.returned v) w') :
    Calls Tryd.prog 89 #[.string x0] w R' :=
  calls_of_body (vs := [(.string x0, false)]) (ty := ty) (ann := ⟨[], [(3, [(3, .slice), (4, .int .i64)])], [(7, .tail 13)], []⟩) (c := Tryd.f89.body.getD .skip) (by kernel_rfl) Tryd.func89 (by kernel_rfl) (by kernel_rfl) (Eq.mp (by kernel_rfl) h) hR
/-- cartularyref07.Clean -/
def vc_cartularyref07_Clean (x0 : ByteArray) (w : World) (R : Value → World → Prop) : Prop :=
  (((decide ((↑(ByteArray.size x0) : Int) > 200) = true →
     R (Value.bool false) w)) ∧
   (decide ((↑(ByteArray.size x0) : Int) > 200) = false →
     ∃ I1 : Int → World → Prop, ∃ I2 : Int → World → Nat, (I1 0 w ∧
      ∀ n3 : Int,
      ∀ w4 : World,
      (I1 n3 w4 →
        (((decide (n3 < (↑(ByteArray.size x0) : Int)) = true →
           ((0 ≤ n3 ∧
             n3 < (↑(ByteArray.size x0) : Int)) ∧
            (((decide (byteAt x0 n3 < 32) = true →
               R (Value.bool false) w4)) ∧
             (decide (byteAt x0 n3 < 32) = false →
               ((0 ≤ n3 ∧
                 n3 < (↑(ByteArray.size x0) : Int)) ∧
                (((decide (byteAt x0 n3 > 126) = true →
                   R (Value.bool false) w4)) ∧
                 (decide (byteAt x0 n3 > 126) = false →
                   (I1 (IntKind.wrap IntKind.i64 (n3 + 1)) w4 ∧
                    I2 (IntKind.wrap IntKind.i64 (n3 + 1)) w4 < I2 n3 w4))))))))) ∧
         (decide (n3 < (↑(ByteArray.size x0) : Int)) = false →
           Calls Tryd.prog (89 : Nat) (Array.mk [Value.string x0]) (w4) (fun e5 w6 =>
             ∃ l7 : Sl, (e5 = Ending.returned (Value.slice l7.1 l7.2 l7.3) ∧
              ∃ I8 : Int → World → Prop, ∃ I9 : Int → World → Nat, (I8 0 w6 ∧
               ∀ n10 : Int,
               ∀ w11 : World,
               (I8 n10 w11 →
                 (((decide (n10 < (↑l7.2 : Int)) = true →
                    ((0 ≤ n10 ∧
                      n10 < (↑l7.2 : Int)) ∧
                     ∃ a12 : Addr, (l7.1 = some a12 ∧
                      ∃ s13 : ByteArray, (World.cell? w11 (Addr.add a12 (Int.toNat n10 * 1)) = some (Value.string s13) ∧
                       ((((ByteArray.toList s13 == ByteArray.toList (ByteArray.mk (Array.mk []))) = true →
                          R (Value.bool false) w11)) ∧
                        ((ByteArray.toList s13 == ByteArray.toList (ByteArray.mk (Array.mk []))) = false →
                          ((((ByteArray.toList s13 == ByteArray.toList (ByteArray.mk (Array.mk [46]))) = true →
                             R (Value.bool false) w11)) ∧
                           ((ByteArray.toList s13 == ByteArray.toList (ByteArray.mk (Array.mk [46]))) = false →
                             ((((ByteArray.toList s13 == ByteArray.toList (ByteArray.mk (Array.mk [46, 46]))) = true →
                                R (Value.bool false) w11)) ∧
                              ((ByteArray.toList s13 == ByteArray.toList (ByteArray.mk (Array.mk [46, 46]))) = false →
                                (I8 (IntKind.wrap IntKind.i64 (n10 + 1)) w11 ∧
                                 I9 (IntKind.wrap IntKind.i64 (n10 + 1)) w11 < I9 n10 w11)))))))))))) ∧
                  (decide (n10 < (↑l7.2 : Int)) = false →
                    R (Value.bool true) w11))))))))))))
theorem vc_cartularyref07_Clean_ok {x0 : ByteArray} {w : World} {R : Value → World → Prop} {R' : Ending → World → Prop} (h : vc_cartularyref07_Clean x0 w R) (hR : ∀ v w', R v w' → R' (.returned v) w') :
    Calls Tryd.prog 36 #[.string x0] w R' :=
  calls_of_body (vs := [(.string x0, false)]) (ty := ty) (ann := ⟨[], [(4, [(3, .int .i64)]), (9, [(28, .int .i64)])], [], []⟩) (c := Tryd.f36.body.getD .skip) (by kernel_rfl) Tryd.func36 (by kernel_rfl) (by kernel_rfl) (Eq.mp (by kernel_rfl) h) hR
end Go.Proofs.YtfoeooddnmppnaaDoor

/- Slices of bytes of this seat. No condition. -/
set_option linter.unusedVariables false
namespace Go.Proofs.YtfoeooddnmppnaaDoor
open Go Vc Go.Proofs

theorem elByte : El Tryd.prog T_S_uint8 T_uint8 (.int .u8 0) 1 := ⟨by kernel_rfl, by kernel_rfl, rfl⟩
theorem elByteH : El Tryd.prog T_S_uint8 T_uint8 (.int .u8 0) 1 := elByte
theorem own_empty (w : World) (e : TypeId) : Vc.Own (w.alloc (.cells #[] e)) w.heap.size e ⟨some ⟨w.heap.size, 0, none⟩, 0, 0⟩ [] :=
  ⟨rfl, .inr ⟨w.heap.size, #[], rfl, Nat.le_refl _, alloc_new _ _, Nat.le_refl _, Nat.zero_le _, rfl, rfl⟩⟩
theorem byteV_one (l : List UInt8) : ∀ u ∈ byteV l, u.oneCell' = true := fun u h => by
  obtain ⟨b, _, rfl⟩ := List.mem_map.1 h; rfl
end Go.Proofs.YtfoeooddnmppnaaDoor

/- Digits of bytes in plain; append of what is new. No condition. -/
set_option linter.unusedVariables false
namespace Vc
open Go
theorem append_new {P : Program} {t e : TypeId} {z : Value} {bytes : Nat} {w : World} {base : Nat} {l : Sl} {xs : List Value} (el : El P t e z bytes) (h : Own w base e l xs) {news : List Value} (h1 : ∀ u ∈ news, u.oneCell' = true)
    (hm : xs.length + news.length ≤ maxLen) (hb : (xs.length + news.length) * bytes ≤ 140737488355328) (hbase : base ≤ w.heap.size) {w2 : World} (hw2 : w2 = w.alloc (.cells news.toArray e)) {m : Nat} (hlen : news.length = m) :
    ∃ w' l', (Builtin.append_ #[t, t] t #[.slice l.a l.len l.cap, .slice (some ⟨w.heap.size, 0, none⟩) m m]).run P w2 = .ok (.slice l'.a l'.len l'.cap) w' ∧ Own w' base e l' (xs ++ news) ∧
      Fr (At l) w w' ∧ Since w l l' := by
  subst hw2
  have h2 : Own (w.alloc (.cells news.toArray e)) base e l xs := h.keep (.alloc (fun _ => False) _ _) (by simp)
  obtain ⟨w', l', hr, ho, hf, hs⟩ := append_all' el h2 (src := some ⟨w.heap.size, 0, none⟩) m (news := news) (fun i v hv => ⟨_, rfl, by rw [add_lit, Nat.zero_add, cell_blk (alloc_new w _)]; simpa using hv⟩) h1 hm hb (by simp; omega) hlen
  refine ⟨w', l', hr, ho, (Fr.alloc _ _ _).trans' hf, fun y hy => ?_⟩
  rcases hs y hy with hx | hn
  · exact .inl hx
  · simp only [World.alloc, Array.size_push] at hn
    exact .inr (by omega)
end Vc
namespace HexM
/-- A digit. -/
def hx (n : Nat) : Nat := if n < 10 then 48 + n else 87 + n
theorem hx_lt {n : Nat} (h : n < 16) : hx n < 256 := by unfold hx; split <;> omega
def hexL (l : List UInt8) : List UInt8 := l.flatMap fun c => [UInt8.ofNat (hx (c.toNat / 16)), UInt8.ofNat (hx (c.toNat % 16))]
theorem hexL_snoc (l : List UInt8) (c : UInt8) : hexL (l ++ [c]) = hexL l ++ [UInt8.ofNat (hx (c.toNat / 16)), UInt8.ofNat (hx (c.toNat % 16))] := by simp [hexL]
theorem hexL_length (l : List UInt8) : (hexL l).length = 2 * l.length := by
  induction l with
  | nil => rfl
  | cons c l ih => simp only [hexL, List.flatMap_cons, List.length_append, List.length_cons, List.length_nil] at ih ⊢; omega
/-- A digit's number. -/
def dg (c : Nat) : Option Nat := if 48 ≤ c ∧ c ≤ 57 then some (c - 48) else if 97 ≤ c ∧ c ≤ 102 then some (c - 87) else none
theorem dg_lt {c n : Nat} (h : dg c = some n) : n < 16 := by
  unfold dg at h
  split at h
  · cases h; omega
  · split at h
    · cases h; omega
    · cases h
theorem dg_hx {n : Nat} (h : n < 16) : dg (hx n) = some n := by
  unfold hx dg
  split
  · rw [if_pos (by omega)]; congr 1; omega
  · rw [if_neg (by omega), if_pos (by omega)]; congr 1; omega
theorem hx_dg {c n : Nat} (h : dg c = some n) : hx n = c := by
  unfold dg at h
  unfold hx
  split at h
  · cases h; rw [if_pos (by omega)]; omega
  · split at h
    · cases h; rw [if_neg (by omega)]; omega
    · cases h
def unhexL : List UInt8 → Option (List UInt8)
  | [] => some []
  | [_] => none
  | a :: b :: r => match dg a.toNat, dg b.toNat, unhexL r with
    | some x, some y, some l => some (UInt8.ofNat (16 * x + y) :: l)
    | _, _, _ => none
theorem unhexL_len : ∀ (l r : List UInt8), unhexL l = some r → l.length = 2 * r.length
  | [], r, h => by simp only [unhexL, Option.some.injEq] at h; subst h; rfl
  | [_], r, h => by simp [unhexL] at h
  | a :: b :: l, r, h => by
    simp only [unhexL] at h
    split at h
    · rename_i x y q h1 h2 h3
      cases h
      have := unhexL_len l q h3
      simp only [List.length_cons]; omega
    · cases h
theorem unhex_hex : ∀ l : List UInt8, unhexL (hexL l) = some l
  | [] => rfl
  | c :: l => by
    have hc := c.toNat_lt
    have h1 : (UInt8.ofNat (hx (c.toNat / 16))).toNat = hx (c.toNat / 16) := by have := hx_lt (n := c.toNat / 16) (by omega); simp; omega
    have h2 : (UInt8.ofNat (hx (c.toNat % 16))).toNat = hx (c.toNat % 16) := by have := hx_lt (n := c.toNat % 16) (by omega); simp; omega
    have : hexL (c :: l) = UInt8.ofNat (hx (c.toNat / 16)) :: UInt8.ofNat (hx (c.toNat % 16)) :: hexL l := rfl
    rw [this, unhexL, h1, h2, dg_hx (by omega), dg_hx (by omega), unhex_hex l]
    simp only [Option.some.injEq, List.cons.injEq, and_true]
    rw [show 16 * (c.toNat / 16) + c.toNat % 16 = c.toNat by omega, UInt8.ofNat_toNat]
theorem hex_unhex : ∀ (l r : List UInt8), unhexL l = some r → hexL r = l
  | [], r, h => by simp only [unhexL, Option.some.injEq] at h; subst h; rfl
  | [_], r, h => by simp [unhexL] at h
  | a :: b :: l, r, h => by
    simp only [unhexL] at h
    split at h
    · rename_i x y q h1 h2 h3
      cases h
      have hx1 := dg_lt h1
      have hy1 := dg_lt h2
      have e : (UInt8.ofNat (16 * x + y)).toNat = 16 * x + y := by simp; omega
      show UInt8.ofNat (hx ((UInt8.ofNat (16 * x + y)).toNat / 16)) :: UInt8.ofNat (hx ((UInt8.ofNat (16 * x + y)).toNat % 16)) :: hexL q = _
      rw [e, show (16 * x + y) / 16 = x by omega, show (16 * x + y) % 16 = y by omega, hx_dg h1, hx_dg h2, UInt8.ofNat_toNat, UInt8.ofNat_toNat, hex_unhex l q h3]
    · cases h
/-- All are digits. -/
def digits (l : List UInt8) : Bool := l.all fun c => (dg c.toNat).isSome
theorem unhexL_iff : ∀ l : List UInt8, (unhexL l).isSome = (digits l && l.length % 2 == 0)
  | [] => rfl
  | [a] => by simp [unhexL]
  | a :: b :: l => by
    have ih := unhexL_iff l
    have hl : (a :: b :: l).length % 2 = l.length % 2 := by simp only [List.length_cons]; omega
    rw [hl]
    simp only [unhexL, digits, List.all_cons] at ih ⊢
    cases h1 : dg a.toNat <;> cases h2 : dg b.toNat <;> simp
    cases h3 : unhexL l <;> rw [h3] at ih <;> simp at ih ⊢ <;> simpa using ih
/-- An object's name. -/
def isId (l : List UInt8) : Bool := (unhexL l).isSome && l.length == 40
theorem unhexL_take : ∀ (n : Nat) (l : List UInt8) (r : List UInt8), unhexL (l.take (2 * n)) = some r → 2 * n ≤ l.length → ∀ a b : UInt8, l[2 * n]? = some a → l[2 * n + 1]? = some b →
    unhexL (l.take (2 * (n + 1))) = (match dg a.toNat, dg b.toNat with | some x, some y => some (r ++ [UInt8.ofNat (16 * x + y)]) | _, _ => none)
  | 0, l, r, h, _, a, b, ha, hb => by
    match l, ha, hb with
    | a' :: b' :: l, ha, hb =>
      simp only [Nat.mul_zero, List.getElem?_cons_zero, Option.some.injEq] at ha
      simp only [Nat.mul_zero, Nat.zero_add, List.getElem?_cons_succ, List.getElem?_cons_zero, Option.some.injEq] at hb
      subst ha; subst hb
      simp only [Nat.mul_zero, List.take_zero, unhexL, Option.some.injEq] at h
      subst h
      show unhexL [a', b'] = _
      cases h1 : dg a'.toNat <;> cases h2 : dg b'.toNat <;> simp [unhexL, h1, h2]
    | [], ha, _ => simp at ha
    | [_], _, hb => simp at hb
  | n + 1, l, r, h, hl, a, b, ha, hb => by
    match l, hl with
    | a' :: b' :: l, hl =>
      have ha' : l[2 * n]? = some a := by simpa [show 2 * (n + 1) = 2 * n + 1 + 1 by omega] using ha
      have hb' : l[2 * n + 1]? = some b := by simpa [show 2 * (n + 1) + 1 = 2 * n + 1 + 1 + 1 by omega] using hb
      have ht : ∀ k, (a' :: b' :: l).take (2 * (k + 1)) = a' :: b' :: l.take (2 * k) := fun k => by rw [show 2 * (k + 1) = 2 * k + 1 + 1 by omega]; rfl
      rw [ht] at h ⊢
      simp only [unhexL] at h
      split at h
      · rename_i x y q h1 h2 h3
        cases h
        have ih := unhexL_take n l q h3 (by simp only [List.length_cons] at hl; omega) a b ha' hb'
        simp only [unhexL, h1, h2, ih]
        cases dg a.toNat <;> cases dg b.toNat <;> simp
      · cases h
    | [], hl => simp at hl
    | [_], hl => simp only [List.length_cons, List.length_nil] at hl; omega
theorem unhexL_bad : ∀ (n : Nat) (l : List UInt8) (a : UInt8), l[n]? = some a → dg a.toNat = none → unhexL l = none := fun n l a h hd => by
  have := unhexL_iff l
  cases hu : unhexL l with
  | none => rfl
  | some r =>
    exfalso
    rw [hu] at this
    simp only [Option.isSome_some, digits] at this
    have h2 := (Bool.and_eq_true _ _ ▸ this.symm).1
    rw [List.all_eq_true] at h2
    have := h2 a (List.mem_of_getElem? h)
    rw [hd] at this; cases this
end HexM

/- Slices of texts. No condition. -/
set_option linter.unusedVariables false
namespace Go.Proofs.YtfoeooddnmppnaaDoor
open Go Vc Go.Proofs

theorem elString : El Tryd.prog T_S_string T_string (.string ⟨#[]⟩) 16 := ⟨by kernel_rfl, by kernel_rfl, rfl⟩
def strV (l : List ByteArray) : List Value := l.map Value.string
theorem own_lit (w : World) (t : TypeId) : Vc.Own (w.alloc (.cells #[] t)) w.heap.size t ⟨some ⟨w.heap.size, 0, none⟩, 0, 0⟩ [] :=
  ⟨rfl, .inr ⟨w.heap.size, _, rfl, Nat.le_refl _, alloc_new w _, Nat.le_refl _, Nat.zero_le _, rfl, rfl⟩⟩
theorem grow_str {w0 w12 : World} {l : Sl} {out : List ByteArray} (x : ByteArray) (hs : out.length ≤ 1000003) (ho : Vc.Own w12 w0.heap.size T_string l (strV out)) (hf : Fr (fun _ => False) w0 w12) {w13 : World} (h13 : w13 = w12.alloc (.cells #[.string x] 9)) :
    ∃ (w14 : World) (l15 : Sl), (Builtin.append_ #[55, 55] 55 #[.slice l.a l.len l.cap, .slice (some ⟨w12.heap.size, 0, none⟩) 1 1]).run Tryd.prog w13 = .ok (.slice l15.a l15.len l15.cap) w14 ∧ Vc.Own w14 w0.heap.size T_string l15 (strV (out ++ [x])) ∧ Fr (fun _ => False) w0 w14 := by
  obtain ⟨w14, l15, hr14, ho14, hf14, _⟩ := append_one' elString ho (v := .string x) rfl (by simp only [strV, List.length_map, maxLen]; omega) (by simp only [strV, List.length_map]; omega) hf.size h13
  refine ⟨w14, l15, hr14, by simpa [strV] using ho14, hf.trans hf14 fun q hq ⟨z, hz, e⟩ => ?_⟩
  have := (ho.blk hz).1; omega
end Go.Proofs.YtfoeooddnmppnaaDoor

/- The reference's Parts and Clean: what they say, and that it is what snap.Clean says. Conditions: as named. -/
set_option linter.unusedVariables false
namespace Go.Proofs.YtfoeooddnmppnaaDoor
open Go Vc Go.Proofs

/-- The parts of bytes. -/
def partsL : List UInt8 → List (List UInt8)
  | [] => [[]]
  | b :: r => if b = 47 then [] :: partsL r else match partsL r with
    | h :: t => (b :: h) :: t
    | [] => [[b]]
def bsm (l : List (List UInt8)) : List ByteArray := l.map fun x => ⟨x.toArray⟩
theorem partsL_ne : ∀ l, partsL l ≠ []
  | [] => by simp [partsL]
  | b :: r => by
    rw [partsL]
    split
    · simp
    · split <;> simp
theorem partsL_slash : ∀ l, partsL (l ++ [47]) = partsL l ++ [[]]
  | [] => rfl
  | b :: r => by
    rw [List.cons_append, partsL, partsL, partsL_slash r]
    split
    · rfl
    · obtain ⟨h, t, e⟩ := List.exists_cons_of_ne_nil (partsL_ne r)
      rw [e]; rfl
theorem partsL_snoc {b : UInt8} (hb : b ≠ 47) : ∀ l, ∃ init last, partsL l = init ++ [last] ∧ partsL (l ++ [b]) = init ++ [last ++ [b]]
  | [] => ⟨[], [], rfl, by rw [List.nil_append, partsL, if_neg hb]; rfl⟩
  | c :: r => by
    obtain ⟨init, last, h1, h2⟩ := partsL_snoc hb r
    rw [List.cons_append, partsL, partsL, h1, h2]
    split
    · exact ⟨[] :: init, last, rfl, rfl⟩
    · cases init with
      | nil => exact ⟨[], c :: last, rfl, rfl⟩
      | cons h t => exact ⟨(c :: h) :: t, last, rfl, rfl⟩
theorem partsL_plain : ∀ l : List UInt8, (47 : UInt8) ∉ l → partsL l = [l]
  | [], _ => rfl
  | b :: r, h => by
    rw [partsL, if_neg (fun e => h (by simp [e])), partsL_plain r (fun e => h (by simp [e]))]
theorem partsL_cut : ∀ a b : List UInt8, (47 : UInt8) ∉ a → partsL (a ++ 47 :: b) = a :: partsL b
  | [], b, _ => by rw [List.nil_append, partsL, if_pos rfl]
  | c :: r, b, h => by
    rw [List.cons_append, partsL, if_neg (fun e => h (by simp [e])), partsL_cut r b (fun e => h (by simp [e]))]
theorem partsF_L : ∀ (g : Nat) (s : ByteArray), s.size ≤ g → partsF g s = bsm (partsL s.data.toList)
  | 0, s, h => by
    have : s.data.toList = [] := List.length_eq_zero_iff.1 (by rw [bs_len]; omega)
    rw [this]
    have e : s = ⟨[].toArray⟩ := bs_ext (by rw [this])
    rw [partsF, e]; rfl
  | g + 1, s, h => by
    rcases fnd_cases s 47 with ⟨hi, hno⟩ | ⟨i, hi, hlt, hb, hno⟩
    · rw [partsF_no hi, partsL_plain _ (fun hm => by
        obtain ⟨k, hk, he⟩ := List.getElem_of_mem hm
        obtain ⟨h1, h2⟩ := bs_get? (s := s) (i := k) (c := 47) (by rw [List.getElem?_eq_getElem hk, he])
        exact hno k h1 h2)]
      show [s] = [⟨s.data.toList.toArray⟩]
      rw [bs_self]
    · have hlt' : i < s.data.toList.length := by rw [bs_len]; exact hlt
      have hc : s.data.toList[i] = 47 := by
        have := bs_byt hlt
        rw [hb] at this
        exact (UInt8.toNat_inj.1 this).symm
      have hsp : s.data.toList = s.data.toList.take i ++ 47 :: s.data.toList.drop (i + 1) := by
        rw [← hc, ← List.drop_eq_getElem_cons hlt', List.take_append_drop]
      have hp : partsL s.data.toList = s.data.toList.take i :: partsL (s.data.toList.drop (i + 1)) := by
        conv => lhs; rw [hsp]
        exact partsL_cut _ _ fun hm => by
          obtain ⟨k, hk, he⟩ := List.getElem_of_mem hm
          rw [List.length_take] at hk
          rw [List.getElem_take] at he
          obtain ⟨h1, h2⟩ := bs_get? (s := s) (i := k) (c := 47) (by rw [List.getElem?_eq_getElem (by omega), he])
          exact hno k (by omega) h2
      rw [partsF_yes hi, partsF_L g _ (by simp; omega), hp, bs_tail]
      show s.extract 0 i :: _ = ⟨(s.data.toList.take i).toArray⟩ :: _
      congr 1
      refine bs_ext ?_
      rw [bs_head, bs_mk]
theorem partsL_len : ∀ l : List UInt8, (partsL l).length ≤ l.length + 1
  | [] => Nat.le_refl _
  | b :: r => by
    have := partsL_len r
    rw [partsL]
    split
    · simp; omega
    · split
      · rename_i h t e
        rw [e] at this
        simp at this ⊢; omega
      · simp
theorem partsL_size : ∀ l : List UInt8, ∀ p ∈ partsL l, p.length ≤ l.length
  | [], p, h => by simp [partsL] at h; simp [h]
  | b :: r, p, h => by
    have ih := partsL_size r
    rw [partsL] at h
    split at h
    · rcases List.mem_cons.1 h with h | h
      · simp [h]
      · have := ih p h; simp; omega
    · split at h
      · rename_i q t e
        rw [e] at ih
        rcases List.mem_cons.1 h with h | h
        · have := ih q (by simp); simp [h]; omega
        · have := ih p (by simp [h]); simp; omega
      · simp at h; simp [h]
/-- 'Parts'. -/
theorem rparts_spec (s : ByteArray) (hs : s.size ≤ 4000000) (w : World) : Calls Tryd.prog F_cartularyref07_Parts #[.string s] w fun e w' =>
    ∃ l, e = .returned (.slice l.a l.len l.cap) ∧ Vc.Own w' w.heap.size T_string l (strV (bsm (partsL s.data.toList))) ∧ Fr (fun _ => False) w w' := by
  refine vc_cartularyref07_Parts_ok (R := fun v w' => ∃ l : Sl, v = .slice l.a l.len l.cap ∧ Vc.Own w' w.heap.size T_string l (strV (bsm (partsL s.data.toList))) ∧ Fr (fun _ => False) w w') ?_ (fun v w' ⟨l, h⟩ => ⟨l, by rw [h.1], h.2⟩)
  intro w1 h1
  have hf1 : Fr (fun _ => False) w w1 := by rw [h1]; exact .alloc _ _ _
  have ho1 : Vc.Own w1 w.heap.size T_string ⟨some ⟨w.heap.size, 0, none⟩, 1, 1⟩ (strV (bsm (partsL (s.data.toList.take 0)))) :=
    ⟨rfl, .inr ⟨w.heap.size, _, rfl, Nat.le_refl _, by rw [h1]; exact alloc_new _ _, Nat.le_refl _, show 1 ≤ maxLen by decide, rfl, rfl⟩⟩
  refine ⟨fun l i w' => ∃ k : Nat, i = k ∧ k ≤ s.size ∧ Vc.Own w' w.heap.size T_string l (strV (bsm (partsL (s.data.toList.take k)))) ∧ Fr (fun _ => False) w w', fun _ i _ => s.size - i.toNat, ⟨0, rfl, Nat.zero_le _, ho1, hf1⟩, ?_⟩
  clear h1 ho1 hf1 w1
  rintro l i w6 ⟨k, rfl, hk, ho, hf⟩
  have e1 : IntKind.i64.wrap ((k : Int) + 1) = ((k + 1 : Nat) : Int) := by rw [wrap_i64 (by omega) (by omega)]; omega
  rw [e1]
  refine ⟨fun hlt => ?_, fun hge => ?_⟩
  · have hlt := of_decide_eq_true hlt
    have hks : k < s.size := by omega
    have htk := bs_take hks
    have hb0 := byt_lt s k
    have hlen : l.len = (partsL (s.data.toList.take k)).length := by rw [ho.len]; simp [strV, bsm]
    have hpl := partsL_len (s.data.toList.take k)
    rw [List.length_take, bs_len] at hpl
    rw [byteAt_nat]
    refine ⟨⟨by omega, by omega⟩, fun hb w7 h7 => ?_, fun hb w10 d10 => ?_⟩
    · have hb : byt s k = 47 := by have := eq_of_beq hb; omega
      rw [hb, show UInt8.ofNat 47 = 47 from rfl] at htk
      obtain ⟨w8, l9, hr8, ho8, hf8, _⟩ := append_one' elString ho (v := .string ⟨#[]⟩) rfl (by simp [strV, bsm, maxLen]; omega) (by simp [strV, bsm]; omega) hf.size h7
      refine ⟨w8, l9, hr8, ⟨k + 1, rfl, by omega, ?_, hf.trans hf8 fun q hq ⟨y, hy, e⟩ => by have := (ho.blk hy).1; omega⟩, by dsimp only; omega⟩
      rw [htk, partsL_slash]
      simpa [strV, bsm] using ho8
    · have hb : byt s k ≠ 47 := fun e => by rw [e] at hb; simp at hb
      obtain ⟨init, last, p1, p2⟩ := partsL_snoc (b := UInt8.ofNat (byt s k)) (fun e => hb (by have := congrArg UInt8.toNat e; rw [toNat_of _ hb0] at this; exact this)) (s.data.toList.take k)
      have ho10 := ho.drew d10
      rw [p1] at hlen ho10 hpl
      rw [List.length_append, List.length_singleton] at hpl
      have hli : l.len = init.length + 1 := by rw [hlen]; simp
      have hll : last.length ≤ s.size := by
        have := partsL_size (s.data.toList.take k) last (by rw [p1]; simp)
        rw [List.length_take, bs_len] at this; omega
      have e2 : IntKind.i64.wrap ((l.len : Int) - 1) = (init.length : Int) := by rw [hli, wrap_i64 (by omega) (by omega)]; omega
      rw [e2]
      obtain ⟨a, ha, hc, hw, hset⟩ := ho10.set (i := init.length) (by simp [strV, bsm])
      have hcv : (strV (bsm (init ++ [last])))[init.length]'(by simp [strV, bsm]) = .string ⟨last.toArray⟩ := by simp [strV, bsm]
      rw [hcv] at hc
      have hex : s.extract k (k + 1) = ⟨[UInt8.ofNat (byt s k)].toArray⟩ := bs_ext (by
        rw [bs_extract, bs_mk, Nat.add_sub_cancel_left]
        have hlt' : k < s.data.toList.length := by rw [bs_len]; exact hks
        rw [List.drop_eq_getElem_cons hlt']
        have := bs_get hks
        rw [List.getElem?_eq_getElem hlt'] at this
        rw [Option.some.inj this]; rfl)
      have hap : (⟨last.toArray⟩ : ByteArray) ++ s.extract k (k + 1) = ⟨(last ++ [UInt8.ofNat (byt s k)]).toArray⟩ := bs_ext (by rw [bs_app, hex, bs_mk, bs_mk, bs_mk])
      refine ⟨⟨by omega, by omega⟩, a, ha, ⟨last.toArray⟩, by rw [Int.toNat_natCast, Nat.mul_one]; exact hc, ⟨by omega, by omega, by omega⟩, ?_, ⟨by omega, by omega⟩, a, ha, by rw [Int.toNat_natCast, Nat.mul_one]; exact hw, fun w14 h14 => ?_⟩
      · rw [bs_mksize, Int.toNat_natCast, Int.toNat_natCast, hex, bs_mksize]; simp; omega
      · rw [Int.toNat_natCast, Int.toNat_natCast, Int.toNat_natCast, Nat.mul_one, hap] at h14
        obtain ⟨ho14, hf14⟩ := hset (.string ⟨(last ++ [UInt8.ofNat (byt s k)]).toArray⟩)
        rw [← h14] at ho14 hf14
        refine ⟨⟨k + 1, rfl, by omega, ?_, (hf.trans' (.drew _ d10)).trans hf14 fun q hq ⟨y, hy, e⟩ => by have := (ho10.blk hy).1; omega⟩, by dsimp only; omega⟩
        rw [htk, p2]
        have : (strV (bsm (init ++ [last]))).set init.length (.string ⟨(last ++ [UInt8.ofNat (byt s k)]).toArray⟩) = strV (bsm (init ++ [last ++ [UInt8.ofNat (byt s k)]])) := by
          simp [strV, bsm]
        rw [this] at ho14
        exact ho14
  · have hge := of_decide_eq_false hge
    have : k = s.size := by omega
    rw [this, bs_all] at ho
    exact ⟨l, rfl, ho, hf⟩
end Go.Proofs.YtfoeooddnmppnaaDoor

/- Module paths and file paths in plain. Plain. -/
set_option linter.unusedVariables false
namespace Go.Proofs.YtfoeooddnmppnaaDoor
open Go Vc Go.Proofs

def okC (first : Bool) (c : UInt8) : Bool := (decide (97 ≤ c.toNat) && decide (c.toNat ≤ 122)) || (decide (48 ≤ c.toNat) && decide (c.toNat ≤ 57)) || c == 45 || c == 46 || (!first && ((decide (65 ≤ c.toNat) && decide (c.toNat ≤ 90)) || c == 95 || c == 126))
def partPB (first : Bool) (p : ByteArray) : Bool := decide (p.size ≠ 0) && decide (byt p 0 ≠ 46) && decide (byt p (p.size - 1) ≠ 46) && p.data.toList.all (okC first) && (!first || (decide (byt p 0 ≠ 45) && p.data.toList.contains 46))
def pathParts : Bool → List (List UInt8) → Bool
  | _, [] => true
  | first, p :: r => partPB first ⟨p.toArray⟩ && pathParts false r
def pathB (s : ByteArray) : Bool := decide (s.size ≤ 200) && pathParts true (partsL s.data.toList)
def badL : List UInt8 := [34, 39, 42, 60, 62, 63, 96, 124, 92, 58, 59]
def fileB (s : ByteArray) : Bool := cleanB s && !(s.data.toList.any fun c => badL.contains c) && (partsL s.data.toList).all fun p => decide (byt ⟨p.toArray⟩ (p.length - 1) ≠ 46)
theorem pathParts_app : ∀ (first : Bool) (a b : List (List UInt8)), pathParts first (a ++ b) = true → pathParts first a = true
  | _, [], _, _ => rfl
  | first, p :: r, b, h => by
    rw [List.cons_append, pathParts, Bool.and_eq_true] at h
    rw [pathParts, Bool.and_eq_true]
    exact ⟨h.1, pathParts_app false r b h.2⟩
theorem pathParts_mem : ∀ (first : Bool) (a : List (List UInt8)), pathParts first a = true → ∀ p ∈ a, ∃ f, partPB f ⟨p.toArray⟩ = true
  | _, [], _, p, hp => by simp at hp
  | first, q :: r, h, p, hp => by
    rw [pathParts, Bool.and_eq_true] at h
    rcases List.mem_cons.1 hp with rfl | hp
    · exact ⟨first, h.1⟩
    · exact pathParts_mem false r h.2 p hp
theorem partsL_app' : ∀ a b : List UInt8, partsL (a ++ 47 :: b) = partsL a ++ partsL b
  | [], b => by
    show partsL (47 :: b) = [] :: partsL b
    rw [partsL, if_pos rfl]
  | c :: a, b => by
    rw [List.cons_append, partsL, partsL, partsL_app' a b]
    split
    · rfl
    · obtain ⟨h, t, e⟩ := List.exists_cons_of_ne_nil (partsL_ne a)
      rw [e]; rfl
theorem partsL_mem : ∀ (l : List UInt8) (c : UInt8), c ∈ l → c = 47 ∨ ∃ p ∈ partsL l, c ∈ p
  | [], c, h => by simp at h
  | b :: r, c, h => by
    rw [partsL]
    by_cases hb : b = 47
    · rw [if_pos hb]
      rcases List.mem_cons.1 h with rfl | h
      · exact .inl hb
      · rcases partsL_mem r c h with h | ⟨p, hp, hc⟩
        · exact .inl h
        · exact .inr ⟨p, List.mem_cons_of_mem _ hp, hc⟩
    · rw [if_neg hb]
      obtain ⟨q, t, e⟩ := List.exists_cons_of_ne_nil (partsL_ne r)
      rcases List.mem_cons.1 h with rfl | h
      · rw [e]; exact .inr ⟨c :: q, by simp, by simp⟩
      · rcases partsL_mem r c h with h | ⟨p, hp, hc⟩
        · exact .inl h
        · rw [e] at hp ⊢
          rcases List.mem_cons.1 hp with rfl | hp
          · exact .inr ⟨b :: p, by simp, by simp [hc]⟩
          · exact .inr ⟨p, by simp [hp], hc⟩
theorem path_front {s : ByteArray} (h : pathB s = true) {i : Nat} (hi : i < s.size) (hb : byt s i = 47) : pathB (s.extract 0 i) = true := by
  unfold pathB at h ⊢
  rw [Bool.and_eq_true] at h ⊢
  have hl : i < s.data.toList.length := by rw [bs_len]; exact hi
  have hc : s.data.toList[i] = 47 := by
    have := bs_byt hi
    rw [hb] at this
    exact UInt8.toNat_inj.1 (by rw [← this]; rfl)
  have hsp : s.data.toList = s.data.toList.take i ++ 47 :: s.data.toList.drop (i + 1) := by
    rw [← hc, ← List.drop_eq_getElem_cons hl, List.take_append_drop]
  have h1 := of_decide_eq_true h.1
  refine ⟨decide_eq_true (by simp; omega), ?_⟩
  rw [bs_head]
  have := h.2
  rw [hsp, partsL_app'] at this
  exact pathParts_app true _ _ this
theorem okC_facts {f : Bool} {c : UInt8} (h : okC f c = true) : 32 ≤ c.toNat ∧ c.toNat ≤ 126 ∧ badL.contains c = false ∧ c ≠ 47 := by
  have key : ∀ n : Nat, n < 256 → okC f (UInt8.ofNat n) = true → 32 ≤ n ∧ n ≤ 126 ∧ badL.contains (UInt8.ofNat n) = false ∧ UInt8.ofNat n ≠ 47 := by
    cases f <;> decide +kernel
  have := key c.toNat c.toNat_lt (by rw [UInt8.ofNat_toNat]; exact h)
  rw [UInt8.ofNat_toNat] at this
  exact this
theorem partPB_facts {f : Bool} {p : ByteArray} (h : partPB f p = true) : p.size ≠ 0 ∧ byt p 0 ≠ 46 ∧ byt p (p.size - 1) ≠ 46 ∧ ∀ c ∈ p.data.toList, okC f c = true := by
  unfold partPB at h
  simp only [Bool.and_eq_true] at h
  exact ⟨of_decide_eq_true h.1.1.1.1, of_decide_eq_true h.1.1.1.2, of_decide_eq_true h.1.1.2, List.all_eq_true.1 h.1.2⟩
theorem path_file {s : ByteArray} (h : pathB s = true) : fileB s = true := by
  unfold pathB at h
  rw [Bool.and_eq_true] at h
  have h1 := of_decide_eq_true h.1
  have hm := pathParts_mem true _ h.2
  have hch : ∀ c ∈ s.data.toList, 32 ≤ c.toNat ∧ c.toNat ≤ 126 ∧ badL.contains c = false := fun c hc => by
    rcases partsL_mem _ c hc with rfl | ⟨p, hp, hcp⟩
    · decide
    · obtain ⟨f, hf⟩ := hm p hp
      have := okC_facts ((partPB_facts hf).2.2.2 c (by rw [bs_mk]; exact hcp))
      exact ⟨this.1, this.2.1, this.2.2.1⟩
  unfold fileB cleanB
  simp only [Bool.and_eq_true]
  refine ⟨⟨⟨⟨decide_eq_true h1, ?_⟩, decide_eq_true fun k hk => ?_⟩, ?_⟩, ?_⟩
  · rw [partsF_L _ _ (Nat.le_refl _), List.all_eq_true]
    intro x hx
    obtain ⟨p, hp, rfl⟩ := List.mem_map.1 hx
    obtain ⟨f, hf⟩ := hm p hp
    obtain ⟨h2, h3, _⟩ := partPB_facts hf
    unfold partOK
    simp only [Bool.and_eq_true]
    refine ⟨⟨decide_eq_true fun e => ?_, decide_eq_true fun e => ?_⟩, decide_eq_true fun e => ?_⟩
    · rw [e] at h2; exact h2 rfl
    · rw [e] at h3; exact h3 rfl
    · rw [e] at h3; exact h3 rfl
  · have := bs_get hk
    have := hch _ (List.mem_of_getElem? this)
    rw [toNat_of _ (byt_lt s k)] at this
    exact ⟨this.1, this.2.1⟩
  · rw [Bool.not_eq_true', List.any_eq_false]
    intro c hc
    rw [(hch c hc).2.2]; decide
  · rw [List.all_eq_true]
    intro p hp
    obtain ⟨f, hf⟩ := hm p hp
    have := (partPB_facts hf).2.2.1
    rw [bs_mksize] at this
    exact decide_eq_true this
theorem file_ends {s : ByteArray} (h : fileB s = true) : 0 < s.size ∧ byt s 0 ≠ 47 ∧ byt s (s.size - 1) ≠ 47 := by
  unfold fileB cleanB at h
  simp only [Bool.and_eq_true] at h
  have h2 := h.1.1.1.2
  rw [partsF_L _ _ (Nat.le_refl _), List.all_eq_true] at h2
  have no : ([] : List UInt8) ∉ partsL s.data.toList := fun hm => by
    have := h2 ⟨#[]⟩ (List.mem_map.2 ⟨[], hm, rfl⟩)
    revert this; decide
  have h0 : 0 < s.size := by
    rcases Nat.eq_zero_or_pos s.size with h | h
    · exfalso
      have : s.data.toList = [] := List.length_eq_zero_iff.1 (by rw [bs_len]; exact h)
      rw [this] at no
      exact no (by simp [partsL])
    · exact h
  have hne : s.data.toList ≠ [] := fun e => by
    have := congrArg List.length e
    rw [bs_len] at this
    have : s.size = 0 := this
    omega
  refine ⟨h0, fun e => ?_, fun e => ?_⟩
  · obtain ⟨c, r, hcr⟩ := List.exists_cons_of_ne_nil hne
    have hc : c = 47 := by
      unfold byt at e
      rw [hcr] at e
      exact UInt8.toNat_inj.1 e
    rw [hcr, hc, partsL, if_pos rfl] at no
    exact no (by simp)
  · rcases List.eq_nil_or_concat s.data.toList with h | ⟨r, c, hcr⟩
    · exact hne h
    rw [List.concat_eq_append] at hcr
    have hl : s.size = r.length + 1 := by rw [← bs_len, hcr, List.length_append]; rfl
    have hc : c = 47 := by
      unfold byt at e
      rw [hcr, List.getElem?_append_right (by omega), show s.size - 1 - r.length = 0 by omega] at e
      exact UInt8.toNat_inj.1 e
    rw [hcr, hc, partsL_slash] at no
    exact no (by simp)
end Go.Proofs.YtfoeooddnmppnaaDoor

/- Which of a commit's files are a module's, and what is wrong with a module's files, in plain. No condition. -/
set_option linter.unusedVariables false
namespace Go.Proofs.YtfoeooddnmppnaaDoor
open Go Vc Go.Proofs

structure ItE where
  path : ByteArray
  mode : Int
  data : ByteArray
instance : Inhabited ItE := ⟨⟨⟨#[]⟩, 0, ⟨#[]⟩⟩⟩
def sVen : ByteArray := ⟨#[118, 101, 110, 100, 111, 114, 47]⟩
def sVen2 : ByteArray := ⟨#[47, 118, 101, 110, 100, 111, 114, 47]⟩
def sMod : ByteArray := ⟨#[103, 111, 46, 109, 111, 100]⟩
def sMod2 : ByteArray := ⟨#[47, 103, 111, 46, 109, 111, 100]⟩
def sLic : ByteArray := ⟨#[76, 73, 67, 69, 78, 83, 69]⟩
def plainI (x : ItE) : Bool := decide (x.mode = 33188) || decide (x.mode = 33261)
def vend (p : ByteArray) : Bool := begB p sVen || hasL sVen2.data.toList p.data.toList
def okI (front : ByteArray) (x : ItE) : Bool := begB x.path front && plainI x
def isNest (front : ByteArray) (x : ItE) : Bool := okI front x && sufL sMod2.data.toList (cutPre x.path front).data.toList
def nestE (front : ByteArray) (x : ItE) : List ByteArray := if isNest front x = true then [cutSuf (cutPre x.path front) sMod] else []
def inB (ns : List ByteArray) (p : ByteArray) : Bool := ns.any (begB p)
def isTake (ns : List ByteArray) (front : ByteArray) (x : ItE) : Bool := okI front x && !inB ns (cutPre x.path front) && !vend (cutPre x.path front)
def takeE (ns : List ByteArray) (front : ByteArray) (x : ItE) : List FileE := if isTake ns front x = true then [⟨cutPre x.path front, x.data⟩] else []
def isLic (x : ItE) : Bool := decide (x.path = sLic) && plainI x
def frontOf (dir : ByteArray) : ByteArray := if dir.size = 0 then ⟨#[]⟩ else dir ++ ⟨#[47]⟩
def hasLic (ys : List FileE) : Bool := ys.any fun f => decide (f.path = sLic)
def licE (xs : List ItE) : List FileE := match xs.find? isLic with
  | some x => [⟨sLic, x.data⟩]
  | none => []
def bodyE (xs : List ItE) (front : ByteArray) : List FileE := xs.flatMap (takeE (xs.flatMap (nestE front)) front)
/-- What is selected, as it comes. -/
def selE (xs : List ItE) (dir : ByteArray) : List FileE := bodyE xs (frontOf dir) ++ if decide (dir.size ≠ 0) && !hasLic (bodyE xs (frontOf dir)) then licE xs else []
def foldC (c : UInt8) : UInt8 := if 65 ≤ c ∧ c ≤ 90 then c + 32 else c
def foldE (s : ByteArray) : ByteArray := ⟨(s.data.toList.map foldC).toArray⟩
/-- What is wrong with a module's files. -/
def chkE (ys : List FileE) : Int := if ys.all (fun f => fileB f.path) = false then 4 else if ¬ (ys.map fun f => foldE f.path).Nodup then 8 else if totalF ys > 500000 ∨ ys.length > 600 then 2 else 0
theorem chk_ok {ys : List FileE} (h : chkE ys = 0) : (∀ f ∈ ys, fileB f.path = true) ∧ (ys.map fun f => f.path).Nodup ∧ totalF ys ≤ 500000 ∧ ys.length ≤ 600 := by
  unfold chkE at h
  split at h
  · cases h
  · next h1 =>
    split at h
    · cases h
    · next h2 =>
      split at h
      · cases h
      · next h3 =>
        refine ⟨fun f hf => ?_, ?_, by omega, by omega⟩
        · have h1 : ys.all (fun f => fileB f.path) = true := by simpa using h1
          exact List.all_eq_true.1 h1 f hf
        · have h2 := Decidable.not_not.1 h2
          rw [show (ys.map fun f => foldE f.path) = (ys.map fun f => f.path).map foldE by rw [List.map_map]; rfl] at h2
          exact List.Pairwise.of_map foldE (fun a b hne he => hne (by rw [he])) h2
theorem chk_perm {ys zs : List FileE} (h : ys.Perm zs) : chkE ys = chkE zs := by
  unfold chkE
  have h1 : ys.all (fun f => fileB f.path) = zs.all (fun f => fileB f.path) := by
    rw [Bool.eq_iff_iff, List.all_eq_true, List.all_eq_true]
    exact ⟨fun a x hx => a x (h.symm.subset hx), fun a x hx => a x (h.subset hx)⟩
  have h2 : (ys.map fun f => foldE f.path).Nodup ↔ (zs.map fun f => foldE f.path).Nodup := (h.map _).nodup_iff
  have h3 : totalF ys = totalF zs := (h.map _).sum_nat
  rw [h1, h3, h.length_eq]
  simp only [h2]
theorem take_mem {xs : List ItE} {front : ByteArray} {f : FileE} (h : f ∈ bodyE xs front) : ∃ x ∈ xs, isTake (xs.flatMap (nestE front)) front x = true ∧ f = ⟨cutPre x.path front, x.data⟩ := by
  obtain ⟨x, hx, hf⟩ := List.mem_flatMap.1 h
  refine ⟨x, hx, ?_⟩
  unfold takeE at hf
  split at hf
  · next h1 => exact ⟨h1, by simpa using hf⟩
  · simp at hf
theorem lic_mem {xs : List ItE} {f : FileE} (h : f ∈ licE xs) : ∃ x ∈ xs, isLic x = true ∧ f = ⟨sLic, x.data⟩ := by
  unfold licE at h
  split at h
  · next x hx => exact ⟨x, List.mem_of_find?_eq_some hx, List.find?_some hx, by simpa using h⟩
  · simp at h
theorem sel_mem {xs : List ItE} {dir : ByteArray} {f : FileE} (h : f ∈ selE xs dir) : f ∈ bodyE xs (frontOf dir) ∨ f ∈ licE xs := by
  unfold selE at h
  rcases List.mem_append.1 h with h | h
  · exact .inl h
  · split at h
    · exact .inr h
    · simp at h
theorem body_len (ns : List ByteArray) (front : ByteArray) : ∀ xs : List ItE, (xs.flatMap (takeE ns front)).length ≤ xs.length
  | [] => Nat.le_refl _
  | x :: r => by
    have ih := body_len ns front r
    have : (takeE ns front x).length ≤ 1 := by unfold takeE; split <;> simp
    rw [List.flatMap_cons, List.length_append, List.length_cons]; omega
theorem sel_len (xs : List ItE) (dir : ByteArray) : (selE xs dir).length ≤ xs.length + 1 := by
  have h1 := body_len (xs.flatMap (nestE (frontOf dir))) (frontOf dir) xs
  have h2 : (licE xs).length ≤ 1 := by unfold licE; split <;> simp
  unfold selE
  rw [List.length_append]
  unfold bodyE
  split
  · omega
  · simp only [List.length_nil]; omega
end Go.Proofs.YtfoeooddnmppnaaDoor
namespace Go.Proofs.YtfoeooddnmppnaaDoor
open Go Vc Go.Proofs
theorem beg_cutPre {s t : ByteArray} (h : begB s t = true) : s = t ++ cutPre s t := by
  refine bs_ext ?_
  unfold cutPre
  rw [if_pos h, bs_app, bs_tail]
  obtain ⟨r, hr⟩ := (of_decide_eq_true h : t.data.toList <+: s.data.toList)
  rw [← hr, ← bs_len, List.drop_left]
theorem nodup_inj {xs : List ItE} (h : (xs.map (·.path)).Nodup) {x y : ItE} (hx : x ∈ xs) (hy : y ∈ xs) (he : x.path = y.path) : x = y := by
  induction xs with
  | nil => simp at hx
  | cons z r ih =>
    rw [List.map_cons, List.nodup_cons] at h
    rcases List.mem_cons.1 hx with rfl | hx'
    · rcases List.mem_cons.1 hy with rfl | hy'
      · rfl
      · exact absurd (List.mem_map.2 ⟨y, hy', he.symm⟩) h.1
    · rcases List.mem_cons.1 hy with rfl | hy'
      · exact absurd (List.mem_map.2 ⟨x, hx', he⟩) h.1
      · exact ih h.2 hx' hy'
theorem body_nodup (ns : List ByteArray) (front : ByteArray) : ∀ xs : List ItE, (xs.map (·.path)).Nodup → ((xs.flatMap (takeE ns front)).map (·.path)).Nodup
  | [], _ => by simp
  | x :: r, h => by
    rw [List.map_cons, List.nodup_cons] at h
    have ih := body_nodup ns front r h.2
    rw [List.flatMap_cons]
    unfold takeE
    split
    · next h1 =>
      rw [List.map_append, List.map_cons, List.map_nil, List.singleton_append, List.nodup_cons]
      refine ⟨fun hm => ?_, ih⟩
      obtain ⟨f, hf, he⟩ := List.mem_map.1 hm
      obtain ⟨y, hy, hf⟩ := List.mem_flatMap.1 hf
      split at hf
      · next h2 =>
        simp only [List.mem_cons, List.mem_nil_iff, or_false] at hf
        subst hf
        have b1 : begB x.path front = true := by unfold isTake okI at h1; simp only [Bool.and_eq_true] at h1; exact h1.1.1.1
        have b2 : begB y.path front = true := by unfold isTake okI at h2; simp only [Bool.and_eq_true] at h2; exact h2.1.1.1
        refine h.1 (List.mem_map.2 ⟨y, hy, ?_⟩)
        rw [beg_cutPre b1, beg_cutPre b2]
        exact congrArg (front ++ ·) he
      · simp at hf
    · rw [List.nil_append]; exact ih
theorem any_perm {α : Type} {p : α → Bool} {xs zs : List α} (h : xs.Perm zs) : xs.any p = zs.any p := by
  rw [Bool.eq_iff_iff, List.any_eq_true, List.any_eq_true]
  exact ⟨fun ⟨x, hx, a⟩ => ⟨x, h.subset hx, a⟩, fun ⟨x, hx, a⟩ => ⟨x, h.symm.subset hx, a⟩⟩
theorem body_perm {xs zs : List ItE} (h : xs.Perm zs) (front : ByteArray) : (bodyE xs front).Perm (bodyE zs front) := by
  unfold bodyE
  have hn : (xs.flatMap (nestE front)).Perm (zs.flatMap (nestE front)) := h.flatMap_right _
  have hf : takeE (xs.flatMap (nestE front)) front = takeE (zs.flatMap (nestE front)) front := by
    funext x
    unfold takeE isTake inB
    rw [any_perm hn]
  rw [hf]
  exact h.flatMap_right _
theorem lic_perm {xs zs : List ItE} (h : xs.Perm zs) (hn : (xs.map (·.path)).Nodup) : licE xs = licE zs := by
  unfold licE
  have key : xs.find? isLic = zs.find? isLic := by
    cases h1 : xs.find? isLic with
    | none =>
      cases h2 : zs.find? isLic with
      | none => rfl
      | some y =>
        have := List.find?_eq_none.1 h1 y (h.symm.subset (List.mem_of_find?_eq_some h2))
        exact absurd (List.find?_some h2) this
    | some x =>
      cases h2 : zs.find? isLic with
      | none =>
        have := List.find?_eq_none.1 h2 x (h.subset (List.mem_of_find?_eq_some h1))
        exact absurd (List.find?_some h1) this
      | some y =>
        have hx := List.mem_of_find?_eq_some h1
        have hy := h.symm.subset (List.mem_of_find?_eq_some h2)
        have e1 := List.find?_some h1
        have e2 := List.find?_some h2
        unfold isLic at e1 e2
        simp only [Bool.and_eq_true, decide_eq_true_eq] at e1 e2
        rw [nodup_inj hn hx hy (by rw [e1.1, e2.1])]
  rw [key]
theorem sel_perm {xs zs : List ItE} (h : xs.Perm zs) (hn : (xs.map (·.path)).Nodup) (dir : ByteArray) : (selE xs dir).Perm (selE zs dir) := by
  unfold selE
  have hb := body_perm h (frontOf dir)
  have hl : hasLic (bodyE xs (frontOf dir)) = hasLic (bodyE zs (frontOf dir)) := any_perm hb
  rw [hl, lic_perm h hn]
  exact hb.append_right _
theorem sel_nodup {xs : List ItE} (hn : (xs.map (·.path)).Nodup) (dir : ByteArray) : ((selE xs dir).map (·.path)).Nodup := by
  unfold selE
  have hb := body_nodup (xs.flatMap (nestE (frontOf dir))) (frontOf dir) xs hn
  split
  · next h1 =>
    simp only [Bool.and_eq_true, Bool.not_eq_true'] at h1
    rw [List.map_append, List.nodup_append]
    refine ⟨hb, ?_, fun a ha b hb2 he => ?_⟩
    · unfold licE; split <;> simp
    · obtain ⟨f, hf, rfl⟩ := List.mem_map.1 ha
      obtain ⟨g, hg, rfl⟩ := List.mem_map.1 hb2
      obtain ⟨_, _, _, rfl⟩ := lic_mem hg
      have := List.any_eq_false.1 h1.2 f hf
      exact this (by rw [he]; simp)
  · rw [List.append_nil]; exact hb
/-- Sorted rows of unlike paths are one where they are a permutation of one another. -/
theorem sorted_one : ∀ {ys zs : List FileE}, ys.Perm zs → (ys.map (·.path)).Nodup → (ys.Pairwise fun x y => ¬ y.path.data.toList < x.path.data.toList) → (zs.Pairwise fun x y => ¬ y.path.data.toList < x.path.data.toList) → ys = zs
  | [], zs, h, _, _, _ => (List.nil_perm.1 h).symm
  | y :: r, [], h, _, _, _ => by simpa using h.length_eq
  | y :: r, z :: s, h, hn, hy, hz => by
    obtain ⟨y1, y2⟩ := List.pairwise_cons.1 hy
    obtain ⟨z1, z2⟩ := List.pairwise_cons.1 hz
    have e : y = z := by
      rcases List.mem_cons.1 (h.subset (List.mem_cons_self)) with e | hm
      · exact e
      · rcases List.mem_cons.1 (h.symm.subset (List.mem_cons_self)) with e | hm2
        · exact e.symm
        · have a := z1 y hm
          have b := y1 z hm2
          have : y.path = z.path := bs_ext (List.le_antisymm (List.not_lt.1 b) (List.not_lt.1 a))
          rw [List.map_cons, List.nodup_cons] at hn
          exact absurd (List.mem_map.2 ⟨z, hm2, this.symm⟩) hn.1
    subst e
    rw [List.map_cons, List.nodup_cons] at hn
    rw [sorted_one ((List.perm_cons y).1 h) hn.2 y2 z2]
end Go.Proofs.YtfoeooddnmppnaaDoor

/- Formulas of 5 Go functions of this seat (written by a program of the author's, vcgen.py), and that each is enough for the call. No condition. -/
set_option linter.unusedVariables false
namespace Go.Proofs.YtfoeooddnmppnaaDoor
open Go Vc Go.Proofs
set_option maxRecDepth 100000
/-- (modzip.Item).plain -/
def vc_modzip_Item_plain (x0_0 : ByteArray) (x0_1 : Int) (x0_2 : ByteArray) (w : World) (R : Value → World → Prop) : Prop :=
  ∀ w1 : World,
  (w1 = World.alloc w (Obj.cells (Array.mk [Value.string x0_0, Value.int IntKind.i64 x0_1, Value.string x0_2]) 51) →
    ∃ n2 : Int, (World.cell? w1 (Addr.mk (Array.size (World.heap w)) 1 none) = some (Value.int IntKind.i64 n2) ∧
     ((((n2 == 33188) = true →
        R (Value.bool true) w1)) ∧
      ((n2 == 33188) = false →
        ∃ n3 : Int, (World.cell? w1 (Addr.mk (Array.size (World.heap w)) 1 none) = some (Value.int IntKind.i64 n3) ∧
         R (Value.bool (n3 == 33261)) w1)))))
theorem vc_modzip_Item_plain_ok {x0_0 : ByteArray} {x0_1 : Int} {x0_2 : ByteArray} {w : World} {R : Value → World → Prop} {R' : Ending → World → Prop} (h : vc_modzip_Item_plain x0_0 x0_1 x0_2 w R) (hR : ∀ v w', R v w' → R' (.returned v) w') :
    Calls Tryd.prog 63 #[.agg #[.string x0_0, .int .i64 x0_1, .string x0_2]] w R' :=
  calls_of_body (vs := [(.agg #[.string x0_0, .int .i64 x0_1, .string x0_2], false)]) (ty := ty) (ann := ⟨[], [], [], []⟩) (c := Tryd.f63.body.getD .skip) (by kernel_rfl) Tryd.func63 (by kernel_rfl) (by kernel_rfl) (Eq.mp (by kernel_rfl) h) hR
/-- modzip.fold -/
def vc_modzip_fold (x0 : ByteArray) (w : World) (R : Value → World → Prop) : Prop :=
  ∃ w1 : World, ∃ l2 : Sl, (Sem.run Tryd.prog (convert 9 35 (Value.string x0)) w = Result.ok (Value.slice l2.1 l2.2 l2.3) w1 ∧
   ∃ I3 : Int → World → Prop, ∃ I4 : Int → World → Nat, (I3 0 w1 ∧
    ∀ n5 : Int,
    ∀ w6 : World,
    (I3 n5 w6 →
      (((decide (n5 < (↑l2.2 : Int)) = true →
         ((0 ≤ n5 ∧
           n5 < (↑l2.2 : Int)) ∧
          ∃ a7 : Addr, (l2.1 = some a7 ∧
           ∃ n8 : Int, (World.cell? w6 (Addr.add a7 (Int.toNat n5 * 1)) = some (Value.int IntKind.u8 n8) ∧
            (((decide (n8 ≥ 65) = true →
               (((decide (n8 ≤ 90) = true →
                  ((0 ≤ n5 ∧
                    n5 < (↑l2.2 : Int)) ∧
                   ∃ a9 : Addr, (l2.1 = some a9 ∧
                    (Wr w6 (Addr.add a9 (Int.toNat n5 * 1)) ∧
                     ∀ w10 : World,
                     (w10 = World.setCell w6 (Addr.add a9 (Int.toNat n5 * 1)) (Value.int IntKind.u8 (IntKind.wrap IntKind.u8 (n8 + 32))) →
                       (I3 (IntKind.wrap IntKind.i64 (n5 + 1)) w10 ∧
                        I4 (IntKind.wrap IntKind.i64 (n5 + 1)) w10 < I4 n5 w6))))))) ∧
                (decide (n8 ≤ 90) = false →
                  (I3 (IntKind.wrap IntKind.i64 (n5 + 1)) w6 ∧
                   I4 (IntKind.wrap IntKind.i64 (n5 + 1)) w6 < I4 n5 w6))))) ∧
             (decide (n8 ≥ 65) = false →
               (I3 (IntKind.wrap IntKind.i64 (n5 + 1)) w6 ∧
                I4 (IntKind.wrap IntKind.i64 (n5 + 1)) w6 < I4 n5 w6)))))))) ∧
       (decide (n5 < (↑l2.2 : Int)) = false →
         ∃ w11 : World, ∃ s12 : ByteArray, (Sem.run Tryd.prog (convert 35 9 (Value.slice l2.1 l2.2 l2.3)) w6 = Result.ok (Value.string s12) w11 ∧
          R (Value.string s12) w11))))))
theorem vc_modzip_fold_ok {x0 : ByteArray} {w : World} {R : Value → World → Prop} {R' : Ending → World → Prop} (h : vc_modzip_fold x0 w R) (hR : ∀ v w', R v w' → R' (.returned v) w') :
    Calls Tryd.prog 116 #[.string x0] w R' :=
  calls_of_body (vs := [(.string x0, false)]) (ty := ty) (ann := ⟨[], [(3, [(10, .int .i64)])], [], []⟩) (c := Tryd.f116.body.getD .skip) (by kernel_rfl) Tryd.func116 (by kernel_rfl) (by kernel_rfl) (Eq.mp (by kernel_rfl) h) hR
/-- modzip.vendored -/
def vc_modzip_vendored (x0 : ByteArray) (w : World) (R : Value → World → Prop) : Prop :=
  Calls Tryd.prog (69 : Nat) (Array.mk [Value.string x0, Value.string (ByteArray.mk (Array.mk [118, 101, 110, 100, 111, 114, 47]))]) (w) (fun e1 w2 =>
    ∃ b3 : Bool, (e1 = Ending.returned (Value.bool b3) ∧
     (((b3 = true →
        R (Value.bool true) w2)) ∧
      (b3 = false →
        Calls Tryd.prog (113 : Nat) (Array.mk [Value.string x0, Value.string (ByteArray.mk (Array.mk [47, 118, 101, 110, 100, 111, 114, 47]))]) (w2) (fun e4 w5 =>
          ∃ b6 : Bool, (e4 = Ending.returned (Value.bool b6) ∧
           R (Value.bool b6) w5))))))
theorem vc_modzip_vendored_ok {x0 : ByteArray} {w : World} {R : Value → World → Prop} {R' : Ending → World → Prop} (h : vc_modzip_vendored x0 w R) (hR : ∀ v w', R v w' → R' (.returned v) w') :
    Calls Tryd.prog 70 #[.string x0] w R' :=
  calls_of_body (vs := [(.string x0, false)]) (ty := ty) (ann := ⟨[], [], [], []⟩) (c := Tryd.f70.body.getD .skip) (by kernel_rfl) Tryd.func70 (by kernel_rfl) (by kernel_rfl) (Eq.mp (by kernel_rfl) h) hR
/-- modzip.Front -/
def vc_modzip_Front (x0 : ByteArray) (x1 : ByteArray) (w : World) (R : Value → World → Prop) : Prop :=
  (ByteArray.size x0 + ByteArray.size (ByteArray.mk (Array.mk [64])) ≤ 9223372036854775807 ∧
   (ByteArray.size (x0 ++ ByteArray.mk (Array.mk [64])) + ByteArray.size x1 ≤ 9223372036854775807 ∧
    (ByteArray.size (x0 ++ ByteArray.mk (Array.mk [64]) ++ x1) + ByteArray.size (ByteArray.mk (Array.mk [47])) ≤ 9223372036854775807 ∧
     R (Value.string (x0 ++ ByteArray.mk (Array.mk [64]) ++ x1 ++ ByteArray.mk (Array.mk [47]))) w)))
theorem vc_modzip_Front_ok {x0 : ByteArray} {x1 : ByteArray} {w : World} {R : Value → World → Prop} {R' : Ending → World → Prop} (h : vc_modzip_Front x0 x1 w R) (hR : ∀ v w', R v w' → R' (.returned v) w') :
    Calls Tryd.prog 46 #[.string x0, .string x1] w R' :=
  calls_of_body (vs := [(.string x0, false), (.string x1, false)]) (ty := ty) (ann := ⟨[], [], [], []⟩) (c := Tryd.f46.body.getD .skip) (by kernel_rfl) Tryd.func46 (by kernel_rfl) (by kernel_rfl) (Eq.mp (by kernel_rfl) h) hR
/-- modzip.prefixed -/
def vc_modzip_prefixed (x0a : Option Addr) (x0n : Nat) (x0c : Nat) (x1 : ByteArray) (w : World) (R : Value → World → Prop) : Prop :=
  Calls Tryd.prog (95 : Nat) (Array.mk [Value.slice x0a x0n x0c]) (w) (fun e1 w2 =>
    ∃ l3 : Sl, (e1 = Ending.returned (Value.slice l3.1 l3.2 l3.3) ∧
     ∃ I4 : Int → World → Prop, ∃ I5 : Int → World → Nat, (I4 0 w2 ∧
      ∀ n6 : Int,
      ∀ w7 : World,
      (I4 n6 w7 →
        (((decide (n6 < (↑l3.2 : Int)) = true →
           ((0 ≤ n6 ∧
             n6 < (↑l3.2 : Int)) ∧
            ∃ a8 : Addr, (l3.1 = some a8 ∧
             ∃ s9 : ByteArray, (World.cell? w7 (Addr.add a8 (Int.toNat n6 * 2)) = some (Value.string s9) ∧
              (ByteArray.size x1 + ByteArray.size s9 ≤ 9223372036854775807 ∧
               ((0 ≤ n6 ∧
                 n6 < (↑l3.2 : Int)) ∧
                ∃ a10 : Addr, (l3.1 = some a10 ∧
                 (Wr w7 (Addr.add a10 (Int.toNat n6 * 2)) ∧
                  ∀ w11 : World,
                  (w11 = World.setCell w7 (Addr.add a10 (Int.toNat n6 * 2)) (Value.string (x1 ++ s9)) →
                    (I4 (IntKind.wrap IntKind.i64 (n6 + 1)) w11 ∧
                     I5 (IntKind.wrap IntKind.i64 (n6 + 1)) w11 < I5 n6 w7))))))))))) ∧
         (decide (n6 < (↑l3.2 : Int)) = false →
           R (Value.slice l3.1 l3.2 l3.3) w7))))))
theorem vc_modzip_prefixed_ok {x0a : Option Addr} {x0n : Nat} {x0c : Nat} {x1 : ByteArray} {w : World} {R : Value → World → Prop} {R' : Ending → World → Prop} (h : vc_modzip_prefixed x0a x0n x0c x1 w R) (hR : ∀ v w', R v w' → R' (.returned v) w') :
    Calls Tryd.prog 45 #[.slice x0a x0n x0c, .string x1] w R' :=
  calls_of_body (vs := [(.slice x0a x0n x0c, false), (.string x1, false)]) (ty := ty) (ann := ⟨[], [(3, [(11, .int .i64)])], [], []⟩) (c := Tryd.f45.body.getD .skip) (by kernel_rfl) Tryd.func45 (by kernel_rfl) (by kernel_rfl) (Eq.mp (by kernel_rfl) h) hR
end Go.Proofs.YtfoeooddnmppnaaDoor

/- Formulas of 4 Go functions of this seat (written by a program of the author's, vcgen.py), and that each is enough for the call. No condition. -/
set_option linter.unusedVariables false
namespace Go.Proofs.YtfoeooddnmppnaaDoor
open Go Vc Go.Proofs
set_option maxRecDepth 100000
/-- modzip.check -/
def vc_modzip_check (x0a : Option Addr) (x0n : Nat) (x0c : Nat) (w : World) (R : Value → World → Prop) : Prop :=
  ∀ w1 : World,
  (w1 = World.alloc w (Obj.map (Array.mk []) 0) →
    ∃ I2 : Int → Int → World → Prop, ∃ I3 : Int → Int → World → Nat, (I2 0 0 w1 ∧
     ∀ n4 : Int,
     ∀ n5 : Int,
     ∀ w6 : World,
     (I2 n4 n5 w6 →
       (((decide (n5 < (↑x0n : Int)) = true →
          ((0 ≤ n5 ∧
            n5 < (↑x0n : Int)) ∧
           ∃ a7 : Addr, (x0a = some a7 ∧
            ∃ s8 : ByteArray, ∃ s9 : ByteArray, (Sem.run Tryd.prog (loadVar 37 (Addr.add a7 (Int.toNat n5 * 2))) w6 = Result.ok (Value.agg (Array.mk [Value.string s8, Value.string s9])) w6 ∧
             ∀ w10 : World,
             (w10 = World.alloc w6 (Obj.cells (Array.mk [Value.string (ByteArray.mk (Array.mk [])), Value.string (ByteArray.mk (Array.mk []))]) 37) →
               ∃ w11 : World, (Sem.run Tryd.prog (storeVar 37 (Addr.mk (Array.size (World.heap w6)) 0 none) (Value.agg (Array.mk [Value.string s8, Value.string s9]))) w10 = Result.ok PUnit.unit w11 ∧
                ∃ s12 : ByteArray, (World.cell? w11 (Addr.mk (Array.size (World.heap w6)) 0 none) = some (Value.string s12) ∧
                 Calls Tryd.prog (115 : Nat) (Array.mk [Value.string s12]) (w11) (fun e13 w14 =>
                   ∃ b15 : Bool, (e13 = Ending.returned (Value.bool b15) ∧
                    ((((!b15) = true →
                       R (Value.int IntKind.i64 4) w14)) ∧
                     ((!b15) = false →
                       ∃ s16 : ByteArray, (World.cell? w14 (Addr.mk (Array.size (World.heap w6)) 1 none) = some (Value.string s16) ∧
                        (I2 (IntKind.wrap IntKind.i64 (n4 + (↑(ByteArray.size s16) : Int))) (IntKind.wrap IntKind.i64 (n5 + 1)) w14 ∧
                         I3 (IntKind.wrap IntKind.i64 (n4 + (↑(ByteArray.size s16) : Int))) (IntKind.wrap IntKind.i64 (n5 + 1)) w14 < I3 n4 n5 w6)))))))))))))) ∧
        (decide (n5 < (↑x0n : Int)) = false →
          ∃ I17 : Int → World → Prop, ∃ I18 : Int → World → Nat, (I17 0 w6 ∧
           ∀ n19 : Int,
           ∀ w20 : World,
           (I17 n19 w20 →
             (((decide (n19 < (↑x0n : Int)) = true →
                ((0 ≤ n19 ∧
                  n19 < (↑x0n : Int)) ∧
                 ∃ a21 : Addr, (x0a = some a21 ∧
                  ∃ s22 : ByteArray, ∃ s23 : ByteArray, (Sem.run Tryd.prog (loadVar 37 (Addr.add a21 (Int.toNat n19 * 2))) w20 = Result.ok (Value.agg (Array.mk [Value.string s22, Value.string s23])) w20 ∧
                   ∀ w24 : World,
                   (w24 = World.alloc w20 (Obj.cells (Array.mk [Value.string (ByteArray.mk (Array.mk [])), Value.string (ByteArray.mk (Array.mk []))]) 37) →
                     ∃ w25 : World, (Sem.run Tryd.prog (storeVar 37 (Addr.mk (Array.size (World.heap w20)) 0 none) (Value.agg (Array.mk [Value.string s22, Value.string s23]))) w24 = Result.ok PUnit.unit w25 ∧
                      ∃ s26 : ByteArray, (World.cell? w25 (Addr.mk (Array.size (World.heap w20)) 0 none) = some (Value.string s26) ∧
                       Calls Tryd.prog (116 : Nat) (Array.mk [Value.string s26]) (w25) (fun e27 w28 =>
                         ∃ s29 : ByteArray, (e27 = Ending.returned (Value.string s29) ∧
                          ∃ w30 : World, ∃ b31 : Bool, (Sem.run Tryd.prog (Instr.lookup 146 (Value.map (some (Array.size (World.heap w)))) (Value.string s29) false) w28 = Result.ok (Value.bool b31) w30 ∧
                           (((b31 = true →
                              R (Value.int IntKind.i64 8) w30)) ∧
                            (b31 = false →
                              ∃ s32 : ByteArray, (World.cell? w30 (Addr.mk (Array.size (World.heap w20)) 0 none) = some (Value.string s32) ∧
                               Calls Tryd.prog (116 : Nat) (Array.mk [Value.string s32]) (w30) (fun e33 w34 =>
                                 ∃ s35 : ByteArray, (e33 = Ending.returned (Value.string s35) ∧
                                  ∃ w36 : World, (Sem.run Tryd.prog (Instr.mapUpdate 146 (Value.map (some (Array.size (World.heap w)))) (Value.string s35) (Value.bool true)) w34 = Result.ok PUnit.unit w36 ∧
                                   (I17 (IntKind.wrap IntKind.i64 (n19 + 1)) w36 ∧
                                    I18 (IntKind.wrap IntKind.i64 (n19 + 1)) w36 < I18 n19 w20)))))))))))))))))) ∧
              (decide (n19 < (↑x0n : Int)) = false →
                (((decide (n4 > 500000) = true →
                   R (Value.int IntKind.i64 2) w20)) ∧
                 (decide (n4 > 500000) = false →
                   (((decide ((↑x0n : Int) > 600) = true →
                      R (Value.int IntKind.i64 2) w20)) ∧
                    (decide ((↑x0n : Int) > 600) = false →
                      R (Value.int IntKind.i64 0) w20)))))))))))))
theorem vc_modzip_check_ok {x0a : Option Addr} {x0n : Nat} {x0c : Nat} {w : World} {R : Value → World → Prop} {R' : Ending → World → Prop} (h : vc_modzip_check x0a x0n x0c w R) (hR : ∀ v w', R v w' → R' (.returned v) w') :
    Calls Tryd.prog 74 #[.slice x0a x0n x0c] w R' :=
  calls_of_body (vs := [(.slice x0a x0n x0c, false)]) (ty := ty) (ann := ⟨[], [(4, [(3, .int .i64), (12, .int .i64)]), (11, [(28, .int .i64)])], [], []⟩) (c := Tryd.f74.body.getD .skip) (by kernel_rfl) Tryd.func74 (by kernel_rfl) (by kernel_rfl) (Eq.mp (by kernel_rfl) h) hR
/-- modzip.Select -/
def vc_modzip_Select (x0a : Option Addr) (x0n : Nat) (x0c : Nat) (x1 : ByteArray) (w : World) (R : Value → World → Prop) : Prop :=
  ∃ I1 : World → Prop, (((((!ByteArray.toList x1 == ByteArray.toList (ByteArray.mk (Array.mk []))) = true →
      Calls Tryd.prog (37 : Nat) (Array.mk [Value.string x1]) (w) (fun e2 w3 =>
        ∃ b4 : Bool, (e2 = Ending.returned (Value.bool b4) ∧
         ((((!b4) = true →
            R (Value.tuple (Array.mk [Value.slice none 0 0, Value.int IntKind.i64 4])) w3)) ∧
          ((!b4) = false →
            I1 w3)))))) ∧
    ((!ByteArray.toList x1 == ByteArray.toList (ByteArray.mk (Array.mk []))) = false →
      I1 w)) ∧
   ∀ w5 : World,
   (I1 w5 →
     ∃ I6 : ByteArray → World → Prop, (((((!ByteArray.toList x1 == ByteArray.toList (ByteArray.mk (Array.mk []))) = true →
         (ByteArray.size x1 + ByteArray.size (ByteArray.mk (Array.mk [47])) ≤ 9223372036854775807 ∧
          I6 (x1 ++ ByteArray.mk (Array.mk [47])) w5))) ∧
       ((!ByteArray.toList x1 == ByteArray.toList (ByteArray.mk (Array.mk []))) = false →
         I6 (ByteArray.mk (Array.mk [])) w5)) ∧
      ∀ s7 : ByteArray,
      ∀ w8 : World,
      (I6 s7 w8 →
        ∀ w9 : World,
        (w9 = World.alloc w8 (Obj.cells (Array.mk [Value.slice none 0 0]) 55) →
          ∃ I10 : Int → World → Prop, ∃ I11 : Int → World → Nat, (I10 0 w9 ∧
           ∀ n12 : Int,
           ∀ w13 : World,
           (I10 n12 w13 →
             (((decide (n12 < (↑x0n : Int)) = true →
                ((0 ≤ n12 ∧
                  n12 < (↑x0n : Int)) ∧
                 ∃ a14 : Addr, (x0a = some a14 ∧
                  ∃ s15 : ByteArray, ∃ n16 : Int, ∃ s17 : ByteArray, (Sem.run Tryd.prog (loadVar 51 (Addr.add a14 (Int.toNat n12 * 3))) w13 = Result.ok (Value.agg (Array.mk [Value.string s15, Value.int IntKind.i64 n16, Value.string s17])) w13 ∧
                   ∀ w18 : World,
                   (w18 = World.alloc w13 (Obj.cells (Array.mk [Value.string (ByteArray.mk (Array.mk [])), Value.int IntKind.i64 0, Value.string (ByteArray.mk (Array.mk []))]) 51) →
                     ∃ w19 : World, (Sem.run Tryd.prog (storeVar 51 (Addr.mk (Array.size (World.heap w13)) 0 none) (Value.agg (Array.mk [Value.string s15, Value.int IntKind.i64 n16, Value.string s17]))) w18 = Result.ok PUnit.unit w19 ∧
                      ∃ s20 : ByteArray, (World.cell? w19 (Addr.mk (Array.size (World.heap w13)) 0 none) = some (Value.string s20) ∧
                       Calls Tryd.prog (62 : Nat) (Array.mk [Value.string s20, Value.string s7]) (w19) (fun e21 w22 =>
                         ∃ s23 : ByteArray, ∃ b24 : Bool, (e21 = Ending.returned (Value.tuple (Array.mk [Value.string s23, Value.bool b24])) ∧
                          (((b24 = true →
                             ∃ s25 : ByteArray, ∃ n26 : Int, ∃ s27 : ByteArray, (Sem.run Tryd.prog (loadVar 51 (Addr.mk (Array.size (World.heap w13)) 0 none)) w22 = Result.ok (Value.agg (Array.mk [Value.string s25, Value.int IntKind.i64 n26, Value.string s27])) w22 ∧
                              Calls Tryd.prog (63 : Nat) (Array.mk [Value.agg (Array.mk [Value.string s25, Value.int IntKind.i64 n26, Value.string s27])]) (w22) (fun e28 w29 =>
                                ∃ b30 : Bool, (e28 = Ending.returned (Value.bool b30) ∧
                                 (((b30 = true →
                                    Calls Tryd.prog (64 : Nat) (Array.mk [Value.string s23, Value.string (ByteArray.mk (Array.mk [47, 103, 111, 46, 109, 111, 100]))]) (w29) (fun e31 w32 =>
                                      ∃ b33 : Bool, (e31 = Ending.returned (Value.bool b33) ∧
                                       (((b33 = true →
                                          ∀ w34 : World,
                                          (Drew w32 w34 →
                                            ∃ I35 : World → Prop, (I35 w34 ∧
                                             ∃ l36 : Sl, ((∀ w37 : World,
                                              (I35 w37 →
                                                World.cell? w37 (Addr.mk (Array.size (World.heap w8)) 0 none) = some (Value.slice l36.1 l36.2 l36.3))) ∧
                                              Calls Tryd.prog (65 : Nat) (Array.mk [Value.string s23, Value.string (ByteArray.mk (Array.mk [103, 111, 46, 109, 111, 100]))]) (w34) (fun e38 w39 =>
                                                ∃ s40 : ByteArray, (e38 = Ending.returned (Value.string s40) ∧
                                                 (I35 w39 ∧
                                                  ∀ w41 : World,
                                                  (w41 = World.alloc w39 (Obj.cells (Array.mk [Value.string s40]) 9) →
                                                    (I35 w41 ∧
                                                     ∃ w42 : World, ∃ l43 : Sl, (Sem.run Tryd.prog (Builtin.append_ (Array.mk [55, 55]) 55 (Array.mk [Value.slice l36.1 l36.2 l36.3, Value.slice (some (Addr.mk (Array.size (World.heap w39)) 0 none)) 1 1])) w41 = Result.ok (Value.slice l43.1 l43.2 l43.3) w42 ∧
                                                      (I35 w42 ∧
                                                       (Wr w42 (Addr.mk (Array.size (World.heap w8)) 0 none) ∧
                                                        ∀ w44 : World,
                                                        (w44 = World.setCell w42 (Addr.mk (Array.size (World.heap w8)) 0 none) (Value.slice l43.1 l43.2 l43.3) →
                                                          (I10 (IntKind.wrap IntKind.i64 (n12 + 1)) w44 ∧
                                                           I11 (IntKind.wrap IntKind.i64 (n12 + 1)) w44 < I11 n12 w13))))))))))))))) ∧
                                        (b33 = false →
                                          (I10 (IntKind.wrap IntKind.i64 (n12 + 1)) w32 ∧
                                           I11 (IntKind.wrap IntKind.i64 (n12 + 1)) w32 < I11 n12 w13))))))) ∧
                                  (b30 = false →
                                    (I10 (IntKind.wrap IntKind.i64 (n12 + 1)) w29 ∧
                                     I11 (IntKind.wrap IntKind.i64 (n12 + 1)) w29 < I11 n12 w13)))))))) ∧
                           (b24 = false →
                             (I10 (IntKind.wrap IntKind.i64 (n12 + 1)) w22 ∧
                              I11 (IntKind.wrap IntKind.i64 (n12 + 1)) w22 < I11 n12 w13))))))))))))) ∧
              (decide (n12 < (↑x0n : Int)) = false →
                ∃ I45 : Sl → Int → Int → World → Prop, ∃ I46 : Sl → Int → Int → World → Nat, (I45 (Sl.mk none 0 0) (-1) 0 w13 ∧
                 ∀ l47 : Sl,
                 ∀ n48 : Int,
                 ∀ n49 : Int,
                 ∀ w50 : World,
                 (I45 l47 n48 n49 w50 →
                   (((decide (n49 < (↑x0n : Int)) = true →
                      ((0 ≤ n49 ∧
                        n49 < (↑x0n : Int)) ∧
                       ∃ a51 : Addr, (x0a = some a51 ∧
                        ∃ s52 : ByteArray, ∃ n53 : Int, ∃ s54 : ByteArray, (Sem.run Tryd.prog (loadVar 51 (Addr.add a51 (Int.toNat n49 * 3))) w50 = Result.ok (Value.agg (Array.mk [Value.string s52, Value.int IntKind.i64 n53, Value.string s54])) w50 ∧
                         ∀ w55 : World,
                         (w55 = World.alloc w50 (Obj.cells (Array.mk [Value.string (ByteArray.mk (Array.mk [])), Value.int IntKind.i64 0, Value.string (ByteArray.mk (Array.mk []))]) 51) →
                           ∃ w56 : World, (Sem.run Tryd.prog (storeVar 51 (Addr.mk (Array.size (World.heap w50)) 0 none) (Value.agg (Array.mk [Value.string s52, Value.int IntKind.i64 n53, Value.string s54]))) w55 = Result.ok PUnit.unit w56 ∧
                            ∃ I57 : Int → World → Prop, ((∃ s58 : ByteArray, (World.cell? w56 (Addr.mk (Array.size (World.heap w50)) 0 none) = some (Value.string s58) ∧
                              ((((ByteArray.toList s58 == ByteArray.toList (ByteArray.mk (Array.mk [76, 73, 67, 69, 78, 83, 69]))) = true →
                                 ∃ s59 : ByteArray, ∃ n60 : Int, ∃ s61 : ByteArray, (Sem.run Tryd.prog (loadVar 51 (Addr.mk (Array.size (World.heap w50)) 0 none)) w56 = Result.ok (Value.agg (Array.mk [Value.string s59, Value.int IntKind.i64 n60, Value.string s61])) w56 ∧
                                  Calls Tryd.prog (63 : Nat) (Array.mk [Value.agg (Array.mk [Value.string s59, Value.int IntKind.i64 n60, Value.string s61])]) (w56) (fun e62 w63 =>
                                    ∃ b64 : Bool, (e62 = Ending.returned (Value.bool b64) ∧
                                     (((b64 = true →
                                        (((decide (n48 < 0) = true →
                                           I57 n49 w63)) ∧
                                         (decide (n48 < 0) = false →
                                           I57 n48 w63)))) ∧
                                      (b64 = false →
                                        I57 n48 w63))))))) ∧
                               ((ByteArray.toList s58 == ByteArray.toList (ByteArray.mk (Array.mk [76, 73, 67, 69, 78, 83, 69]))) = false →
                                 I57 n48 w56)))) ∧
                             ∀ n65 : Int,
                             ∀ w66 : World,
                             (I57 n65 w66 →
                               ∃ s67 : ByteArray, (World.cell? w66 (Addr.mk (Array.size (World.heap w50)) 0 none) = some (Value.string s67) ∧
                                Calls Tryd.prog (62 : Nat) (Array.mk [Value.string s67, Value.string s7]) (w66) (fun e68 w69 =>
                                  ∃ s70 : ByteArray, ∃ b71 : Bool, (e68 = Ending.returned (Value.tuple (Array.mk [Value.string s70, Value.bool b71])) ∧
                                   (((b71 = true →
                                      ∃ s72 : ByteArray, ∃ n73 : Int, ∃ s74 : ByteArray, (Sem.run Tryd.prog (loadVar 51 (Addr.mk (Array.size (World.heap w50)) 0 none)) w69 = Result.ok (Value.agg (Array.mk [Value.string s72, Value.int IntKind.i64 n73, Value.string s74])) w69 ∧
                                       Calls Tryd.prog (63 : Nat) (Array.mk [Value.agg (Array.mk [Value.string s72, Value.int IntKind.i64 n73, Value.string s74])]) (w69) (fun e75 w76 =>
                                         ∃ b77 : Bool, (e75 = Ending.returned (Value.bool b77) ∧
                                          (((b77 = true →
                                             Calls Tryd.prog (66 : Nat) (Array.mk [Value.string s70, Value.pointer (some (Addr.mk (Array.size (World.heap w8)) 0 none))]) (w76) (fun e78 w79 =>
                                               ∃ b80 : Bool, (e78 = Ending.returned (Value.bool b80) ∧
                                                ((((!b80) = true →
                                                   Calls Tryd.prog (70 : Nat) (Array.mk [Value.string s70]) (w79) (fun e81 w82 =>
                                                     ∃ b83 : Bool, (e81 = Ending.returned (Value.bool b83) ∧
                                                      ((((!b83) = true →
                                                         ∃ s84 : ByteArray, (World.cell? w82 (Addr.mk (Array.size (World.heap w50)) 2 none) = some (Value.string s84) ∧
                                                          ∀ w85 : World,
                                                          (w85 = World.alloc w82 (Obj.cells (Array.mk [Value.string s70, Value.string s84]) 37) →
                                                            ∃ w86 : World, ∃ l87 : Sl, (Sem.run Tryd.prog (Builtin.append_ (Array.mk [22, 22]) 22 (Array.mk [Value.slice l47.1 l47.2 l47.3, Value.slice (some (Addr.mk (Array.size (World.heap w82)) 0 none)) 1 1])) w85 = Result.ok (Value.slice l87.1 l87.2 l87.3) w86 ∧
                                                             (I45 (Sl.mk l87.1 l87.2 l87.3) n65 (IntKind.wrap IntKind.i64 (n49 + 1)) w86 ∧
                                                              I46 (Sl.mk l87.1 l87.2 l87.3) n65 (IntKind.wrap IntKind.i64 (n49 + 1)) w86 < I46 l47 n48 n49 w50)))))) ∧
                                                       ((!b83) = false →
                                                         (I45 (Sl.mk l47.1 l47.2 l47.3) n65 (IntKind.wrap IntKind.i64 (n49 + 1)) w82 ∧
                                                          I46 (Sl.mk l47.1 l47.2 l47.3) n65 (IntKind.wrap IntKind.i64 (n49 + 1)) w82 < I46 l47 n48 n49 w50))))))) ∧
                                                 ((!b80) = false →
                                                   (I45 (Sl.mk l47.1 l47.2 l47.3) n65 (IntKind.wrap IntKind.i64 (n49 + 1)) w79 ∧
                                                    I46 (Sl.mk l47.1 l47.2 l47.3) n65 (IntKind.wrap IntKind.i64 (n49 + 1)) w79 < I46 l47 n48 n49 w50))))))) ∧
                                           (b77 = false →
                                             (I45 (Sl.mk l47.1 l47.2 l47.3) n65 (IntKind.wrap IntKind.i64 (n49 + 1)) w76 ∧
                                              I46 (Sl.mk l47.1 l47.2 l47.3) n65 (IntKind.wrap IntKind.i64 (n49 + 1)) w76 < I46 l47 n48 n49 w50)))))))) ∧
                                    (b71 = false →
                                      (I45 (Sl.mk l47.1 l47.2 l47.3) n65 (IntKind.wrap IntKind.i64 (n49 + 1)) w69 ∧
                                       I46 (Sl.mk l47.1 l47.2 l47.3) n65 (IntKind.wrap IntKind.i64 (n49 + 1)) w69 < I46 l47 n48 n49 w50))))))))))))))) ∧
                    (decide (n49 < (↑x0n : Int)) = false →
                      ((((!ByteArray.toList x1 == ByteArray.toList (ByteArray.mk (Array.mk []))) = true →
                         (((decide (n48 ≥ 0) = true →
                            Calls Tryd.prog (71 : Nat) (Array.mk [Value.slice l47.1 l47.2 l47.3, Value.func (Fn.func 72) (Array.mk []) (Array.mk [])]) (w50) (fun e88 w89 =>
                              ∃ b90 : Bool, (e88 = Ending.returned (Value.bool b90) ∧
                               ((((!b90) = true →
                                  ((0 ≤ n48 ∧
                                    n48 < (↑x0n : Int)) ∧
                                   ∃ a91 : Addr, (x0a = some a91 ∧
                                    ∃ s92 : ByteArray, (World.cell? w89 (Addr.add (Addr.add a91 (Int.toNat n48 * 3)) 2) = some (Value.string s92) ∧
                                     ∀ w93 : World,
                                     (w93 = World.alloc w89 (Obj.cells (Array.mk [Value.string (ByteArray.mk (Array.mk [76, 73, 67, 69, 78, 83, 69])), Value.string s92]) 37) →
                                       ∃ w94 : World, ∃ l95 : Sl, (Sem.run Tryd.prog (Builtin.append_ (Array.mk [22, 22]) 22 (Array.mk [Value.slice l47.1 l47.2 l47.3, Value.slice (some (Addr.mk (Array.size (World.heap w89)) 0 none)) 1 1])) w93 = Result.ok (Value.slice l95.1 l95.2 l95.3) w94 ∧
                                        Calls Tryd.prog (47 : Nat) (Array.mk [Value.slice l95.1 l95.2 l95.3, Value.func (Fn.func 73) (Array.mk []) (Array.mk [])]) (w94) (fun e96 w97 =>
                                          (e96 = Ending.returned (Value.tuple (Array.mk [])) ∧
                                           Calls Tryd.prog (74 : Nat) (Array.mk [Value.slice l95.1 l95.2 l95.3]) (w97) (fun e98 w99 =>
                                             ∃ n100 : Int, (e98 = Ending.returned (Value.int IntKind.i64 n100) ∧
                                              ((((n100 != 0) = true →
                                                 R (Value.tuple (Array.mk [Value.slice none 0 0, Value.int IntKind.i64 n100])) w99)) ∧
                                               ((n100 != 0) = false →
                                                 R (Value.tuple (Array.mk [Value.slice l95.1 l95.2 l95.3, Value.int IntKind.i64 0])) w99))))))))))))) ∧
                                ((!b90) = false →
                                  Calls Tryd.prog (47 : Nat) (Array.mk [Value.slice l47.1 l47.2 l47.3, Value.func (Fn.func 73) (Array.mk []) (Array.mk [])]) (w89) (fun e101 w102 =>
                                    (e101 = Ending.returned (Value.tuple (Array.mk [])) ∧
                                     Calls Tryd.prog (74 : Nat) (Array.mk [Value.slice l47.1 l47.2 l47.3]) (w102) (fun e103 w104 =>
                                       ∃ n105 : Int, (e103 = Ending.returned (Value.int IntKind.i64 n105) ∧
                                        ((((n105 != 0) = true →
                                           R (Value.tuple (Array.mk [Value.slice none 0 0, Value.int IntKind.i64 n105])) w104)) ∧
                                         ((n105 != 0) = false →
                                           R (Value.tuple (Array.mk [Value.slice l47.1 l47.2 l47.3, Value.int IntKind.i64 0])) w104)))))))))))) ∧
                          (decide (n48 ≥ 0) = false →
                            Calls Tryd.prog (47 : Nat) (Array.mk [Value.slice l47.1 l47.2 l47.3, Value.func (Fn.func 73) (Array.mk []) (Array.mk [])]) (w50) (fun e106 w107 =>
                              (e106 = Ending.returned (Value.tuple (Array.mk [])) ∧
                               Calls Tryd.prog (74 : Nat) (Array.mk [Value.slice l47.1 l47.2 l47.3]) (w107) (fun e108 w109 =>
                                 ∃ n110 : Int, (e108 = Ending.returned (Value.int IntKind.i64 n110) ∧
                                  ((((n110 != 0) = true →
                                     R (Value.tuple (Array.mk [Value.slice none 0 0, Value.int IntKind.i64 n110])) w109)) ∧
                                   ((n110 != 0) = false →
                                     R (Value.tuple (Array.mk [Value.slice l47.1 l47.2 l47.3, Value.int IntKind.i64 0])) w109)))))))))) ∧
                       ((!ByteArray.toList x1 == ByteArray.toList (ByteArray.mk (Array.mk []))) = false →
                         Calls Tryd.prog (47 : Nat) (Array.mk [Value.slice l47.1 l47.2 l47.3, Value.func (Fn.func 73) (Array.mk []) (Array.mk [])]) (w50) (fun e111 w112 =>
                           (e111 = Ending.returned (Value.tuple (Array.mk [])) ∧
                            Calls Tryd.prog (74 : Nat) (Array.mk [Value.slice l47.1 l47.2 l47.3]) (w112) (fun e113 w114 =>
                              ∃ n115 : Int, (e113 = Ending.returned (Value.int IntKind.i64 n115) ∧
                               ((((n115 != 0) = true →
                                  R (Value.tuple (Array.mk [Value.slice none 0 0, Value.int IntKind.i64 n115])) w114)) ∧
                                ((n115 != 0) = false →
                                  R (Value.tuple (Array.mk [Value.slice l47.1 l47.2 l47.3, Value.int IntKind.i64 0])) w114)))))))))))))))))))))
theorem vc_modzip_Select_ok {x0a : Option Addr} {x0n : Nat} {x0c : Nat} {x1 : ByteArray} {w : World} {R : Value → World → Prop} {R' : Ending → World → Prop} (h : vc_modzip_Select x0a x0n x0c x1 w R) (hR : ∀ v w', R v w' → R' (.returned v) w') :
    Calls Tryd.prog 27 #[.slice x0a x0n x0c, .string x1] w R' :=
  calls_of_body (vs := [(.slice x0a x0n x0c, false), (.string x1, false)]) (ty := ty) (ann := ⟨[(3, []), (6, [(6, .str)]), (22, [(14, .int .i64)])], [(9, [(33, .int .i64)]), (18, [(8, .slice), (14, .int .i64), (62, .int .i64)])], [(13, .held [(0, true), (1, true), (2, false), (3, false), (4, false), (5, false)])], []⟩) (c := Tryd.f27.body.getD .skip) (by kernel_rfl) Tryd.func27 (by kernel_rfl) (by kernel_rfl) (Eq.mp (by kernel_rfl) h) hR
/-- modzip.Hash -/
def vc_modzip_Hash (x0 : ByteArray) (x1 : ByteArray) (x2a : Option Addr) (x2n : Nat) (x2c : Nat) (w : World) (R : Value → World → Prop) : Prop :=
  Calls Tryd.prog (46 : Nat) (Array.mk [Value.string x0, Value.string x1]) (w) (fun e1 w2 =>
    ∃ s3 : ByteArray, (e1 = Ending.returned (Value.string s3) ∧
     Calls Tryd.prog (45 : Nat) (Array.mk [Value.slice x2a x2n x2c, Value.string s3]) (w2) (fun e4 w5 =>
       ∃ l6 : Sl, (e4 = Ending.returned (Value.slice l6.1 l6.2 l6.3) ∧
        Calls Tryd.prog (47 : Nat) (Array.mk [Value.slice l6.1 l6.2 l6.3, Value.func (Fn.func 48) (Array.mk []) (Array.mk [])]) (w5) (fun e7 w8 =>
          (e7 = Ending.returned (Value.tuple (Array.mk [])) ∧
           ∀ w9 : World,
           (w9 = World.alloc w8 (Obj.cells (Array.mk [Value.slice none 0 0, Value.string (ByteArray.mk (Array.mk [])), Value.int IntKind.u64 0]) 89) →
             ∃ I10 : Int → World → Prop, ∃ I11 : Int → World → Nat, (I10 0 w9 ∧
              ∀ n12 : Int,
              ∀ w13 : World,
              (I10 n12 w13 →
                (((decide (n12 < (↑l6.2 : Int)) = true →
                   ((0 ≤ n12 ∧
                     n12 < (↑l6.2 : Int)) ∧
                    ∃ a14 : Addr, (l6.1 = some a14 ∧
                     ∃ s15 : ByteArray, ∃ s16 : ByteArray, (Sem.run Tryd.prog (loadVar 37 (Addr.add a14 (Int.toNat n12 * 2))) w13 = Result.ok (Value.agg (Array.mk [Value.string s15, Value.string s16])) w13 ∧
                      ∀ w17 : World,
                      (w17 = World.alloc w13 (Obj.cells (Array.mk [Value.string (ByteArray.mk (Array.mk [])), Value.string (ByteArray.mk (Array.mk []))]) 37) →
                        ∃ w18 : World, (Sem.run Tryd.prog (storeVar 37 (Addr.mk (Array.size (World.heap w13)) 0 none) (Value.agg (Array.mk [Value.string s15, Value.string s16]))) w17 = Result.ok PUnit.unit w18 ∧
                         ∀ w19 : World,
                         (Drew w18 w19 →
                           ∃ I20 : World → Prop, (I20 w19 ∧
                            ∃ s21 : ByteArray, ((∀ w22 : World,
                             (I20 w22 →
                               World.cell? w22 (Addr.mk (Array.size (World.heap w13)) 1 none) = some (Value.string s21))) ∧
                             ∃ s23 : ByteArray, ((∀ w24 : World,
                              (I20 w24 →
                                World.cell? w24 (Addr.mk (Array.size (World.heap w13)) 0 none) = some (Value.string s23))) ∧
                              Calls Tryd.prog (52 : Nat) (Array.mk [Value.string s21]) (w19) (fun e25 w26 =>
                                ∃ s27 : ByteArray, (e25 = Ending.returned (Value.string s27) ∧
                                 (I20 w26 ∧
                                  Calls Tryd.prog (51 : Nat) (Array.mk [Value.string s27]) (w26) (fun e28 w29 =>
                                    ∃ s30 : ByteArray, (e28 = Ending.returned (Value.string s30) ∧
                                     (I20 w29 ∧
                                      (ByteArray.size s30 + ByteArray.size (ByteArray.mk (Array.mk [32, 32])) ≤ 9223372036854775807 ∧
                                       (ByteArray.size (s30 ++ ByteArray.mk (Array.mk [32, 32])) + ByteArray.size s23 ≤ 9223372036854775807 ∧
                                        (ByteArray.size (s30 ++ ByteArray.mk (Array.mk [32, 32]) ++ s23) + ByteArray.size (ByteArray.mk (Array.mk [10])) ≤ 9223372036854775807 ∧
                                         Calls Tryd.prog (50 : Nat) (Array.mk [Value.pointer (some (Addr.mk (Array.size (World.heap w8)) 0 none)), Value.string (s30 ++ ByteArray.mk (Array.mk [32, 32]) ++ s23 ++ ByteArray.mk (Array.mk [10]))]) (w29) (fun e31 w32 =>
                                           (e31 = Ending.returned (Value.tuple (Array.mk [])) ∧
                                            (I10 (IntKind.wrap IntKind.i64 (n12 + 1)) w32 ∧
                                             I11 (IntKind.wrap IntKind.i64 (n12 + 1)) w32 < I11 n12 w13))))))))))))))))))))))) ∧
                 (decide (n12 < (↑l6.2 : Int)) = false →
                   Calls Tryd.prog (54 : Nat) (Array.mk [Value.pointer (some (Addr.mk (Array.size (World.heap w8)) 0 none))]) (w13) (fun e33 w34 =>
                     ∃ s35 : ByteArray, (e33 = Ending.returned (Value.string s35) ∧
                      Calls Tryd.prog (53 : Nat) (Array.mk [Value.string s35]) (w34) (fun e36 w37 =>
                        ∃ s38 : ByteArray, (e36 = Ending.returned (Value.string s38) ∧
                         (ByteArray.size (ByteArray.mk (Array.mk [104, 49, 58])) + ByteArray.size s38 ≤ 9223372036854775807 ∧
                          R (Value.string (ByteArray.mk (Array.mk [104, 49, 58]) ++ s38)) w37))))))))))))))))
theorem vc_modzip_Hash_ok {x0 : ByteArray} {x1 : ByteArray} {x2a : Option Addr} {x2n : Nat} {x2c : Nat} {w : World} {R : Value → World → Prop} {R' : Ending → World → Prop} (h : vc_modzip_Hash x0 x1 x2a x2n x2c w R) (hR : ∀ v w', R v w' → R' (.returned v) w') :
    Calls Tryd.prog 23 #[.string x0, .string x1, .slice x2a x2n x2c] w R' :=
  calls_of_body (vs := [(.string x0, false), (.string x1, false), (.slice x2a x2n x2c, false)]) (ty := ty) (ann := ⟨[], [(5, [(20, .int .i64)])], [(7, .held [(0, true), (1, true), (5, true), (6, true), (2, false), (3, false), (4, true), (7, true), (8, true), (9, false)])], []⟩) (c := Tryd.f23.body.getD .skip) (by kernel_rfl) Tryd.func23 (by kernel_rfl) (by kernel_rfl) (Eq.mp (by kernel_rfl) h) hR
/-- modzip.Pack -/
def vc_modzip_Pack (x0 : ByteArray) (x1 : ByteArray) (x2a : Option Addr) (x2n : Nat) (x2c : Nat) (w : World) (R : Value → World → Prop) : Prop :=
  Calls Tryd.prog (74 : Nat) (Array.mk [Value.slice x2a x2n x2c]) (w) (fun e1 w2 =>
    ∃ n3 : Int, (e1 = Ending.returned (Value.int IntKind.i64 n3) ∧
     ((((n3 != 0) = true →
        R (Value.tuple (Array.mk [Value.string (ByteArray.mk (Array.mk [])), Value.int IntKind.i64 n3])) w2)) ∧
      ((n3 != 0) = false →
        Calls Tryd.prog (46 : Nat) (Array.mk [Value.string x0, Value.string x1]) (w2) (fun e4 w5 =>
          ∃ s6 : ByteArray, (e4 = Ending.returned (Value.string s6) ∧
           Calls Tryd.prog (45 : Nat) (Array.mk [Value.slice x2a x2n x2c, Value.string s6]) (w5) (fun e7 w8 =>
             ∃ l9 : Sl, (e7 = Ending.returned (Value.slice l9.1 l9.2 l9.3) ∧
              Calls Tryd.prog (13 : Nat) (Array.mk [Value.slice l9.1 l9.2 l9.3]) (w8) (fun e10 w11 =>
                ∃ s12 : ByteArray, ∃ n13 : Int, (e10 = Ending.returned (Value.tuple (Array.mk [Value.string s12, Value.int IntKind.i64 n13])) ∧
                 R (Value.tuple (Array.mk [Value.string s12, Value.int IntKind.i64 n13])) w11))))))))))
theorem vc_modzip_Pack_ok {x0 : ByteArray} {x1 : ByteArray} {x2a : Option Addr} {x2n : Nat} {x2c : Nat} {w : World} {R : Value → World → Prop} {R' : Ending → World → Prop} (h : vc_modzip_Pack x0 x1 x2a x2n x2c w R) (hR : ∀ v w', R v w' → R' (.returned v) w') :
    Calls Tryd.prog 30 #[.string x0, .string x1, .slice x2a x2n x2c] w R' :=
  calls_of_body (vs := [(.string x0, false), (.string x1, false), (.slice x2a x2n x2c, false)]) (ty := ty) (ann := ⟨[], [], [], []⟩) (c := Tryd.f30.body.getD .skip) (by kernel_rfl) Tryd.func30 (by kernel_rfl) (by kernel_rfl) (Eq.mp (by kernel_rfl) h) hR
end Go.Proofs.YtfoeooddnmppnaaDoor

/- Formulas of 1 Go functions of this seat (written by a program of the author's, vcgen.py), and that each is enough for the call. No condition. -/
set_option linter.unusedVariables false
namespace Go.Proofs.YtfoeooddnmppnaaDoor
open Go Vc Go.Proofs
set_option maxRecDepth 100000
/-- slices.Clone[[]api.File,api.File] -/
def vc_slices_Clone (x0a : Option Addr) (x0n : Nat) (x0c : Nat) (w : World) (R : Value → World → Prop) : Prop :=
  (((Option.isNone x0a = true →
     R (Value.slice none 0 0) w)) ∧
   (Option.isNone x0a = false →
     ∀ w1 : World,
     (w1 = World.alloc w (Obj.cells (Array.mk []) 37) →
       ∃ w2 : World, ∃ l3 : Sl, (Sem.run Tryd.prog (Builtin.append_ (Array.mk [22, 22]) 22 (Array.mk [Value.slice (some (Addr.mk (Array.size (World.heap w)) 0 none)) 0 0, Value.slice x0a x0n x0c])) w1 = Result.ok (Value.slice l3.1 l3.2 l3.3) w2 ∧
        R (Value.slice l3.1 l3.2 l3.3) w2))))
theorem vc_slices_Clone_ok {x0a : Option Addr} {x0n : Nat} {x0c : Nat} {w : World} {R : Value → World → Prop} {R' : Ending → World → Prop} (h : vc_slices_Clone x0a x0n x0c w R) (hR : ∀ v w', R v w' → R' (.returned v) w') :
    Calls Tryd.prog 95 #[.slice x0a x0n x0c] w R' :=
  calls_of_body (vs := [(.slice x0a x0n x0c, false)]) (ty := ty) (ann := ⟨[], [], [], []⟩) (c := Tryd.f95.body.getD .skip) (by kernel_rfl) Tryd.func95 (by kernel_rfl) (by kernel_rfl) (Eq.mp (by kernel_rfl) h) hR
end Go.Proofs.YtfoeooddnmppnaaDoor

/- IndexByte of the package strings. No condition. -/
set_option linter.unusedVariables false
namespace Go.Proofs.YtfoeooddnmppnaaDoor
open Go Vc Go.Proofs

theorem indexByte_spec (s : ByteArray) (c : Nat) (hc : c < 256) (w : World) : Calls Tryd.prog F_strings_IndexByte #[.string s, .int .u8 (c : Int)] w fun e w' => e = .returned (.int .i64 (Lib.indexByte s.data.toList (UInt8.ofNat c))) ∧ w' = w := by
  refine vc_strings_IndexByte_ok (R := fun v w' => v = .int .i64 (Lib.indexByte s.data.toList (UInt8.ofNat c)) ∧ w' = w) ?_ (fun v w' h => ⟨by rw [h.1], h.2⟩)
  refine (indexByteL_spec s c w).mono ?_
  rintro e w2 ⟨rfl, rfl⟩
  refine ⟨_, rfl, ?_, rfl⟩
  simp
end Go.Proofs.YtfoeooddnmppnaaDoor

/- Go's text functions of this seat: IndexRune, IndexAny and ContainsAny where what is looked for is ASCII; any text. -/
set_option linter.unusedVariables false
namespace Go.Proofs.YtfoeooddnmppnaaDoor
open Go Vc Go.Proofs

theorem validRune_spec (r : Int) (w : World) : Calls Tryd.prog F_utf8_ValidRune #[.int .i32 r] w fun e w' => (∃ b : Bool, e = .returned (.bool b)) ∧ w' = w := by
  refine vc_utf8_ValidRune_ok (R := fun v w' => (∃ b : Bool, v = .bool b) ∧ w' = w) ?_ (fun v w' ⟨⟨b, h⟩, h2⟩ => ⟨⟨b, by rw [h]⟩, h2⟩)
  have t : ∀ b : Bool, (∃ b' : Bool, Value.bool b = .bool b') ∧ w = w := fun b => ⟨⟨b, rfl⟩, rfl⟩
  exact ⟨fun _ => ⟨fun _ => t _, fun _ => ⟨fun _ => ⟨fun _ => t _, fun _ => t _⟩, fun _ => t _⟩⟩, fun _ => ⟨fun _ => ⟨fun _ => t _, fun _ => t _⟩, fun _ => t _⟩⟩
/-- All bytes are ASCII. -/
def Ascii (s : ByteArray) : Prop := ∀ j, j < s.size → byt s j < 128
theorem indexRune_low (s : ByteArray) (r : Nat) (hr : r < 128) (w : World) : Calls Tryd.prog F_strings_IndexRune #[.string s, .int .i32 (r : Int)] w fun e w' => e = .returned (.int .i64 (Lib.indexByte s.data.toList (UInt8.ofNat r))) ∧ w' = w := by
  refine vc_strings_IndexRune_ok (R := fun v w' => v = .int .i64 (Lib.indexByte s.data.toList (UInt8.ofNat r)) ∧ w' = w) ?_ (fun v w' h => ⟨by rw [h.1], h.2⟩)
  refine ⟨fun b w' => b = true ∧ w' = w, ⟨fun _ => ⟨by simp; omega, rfl⟩, fun h => absurd (of_decide_eq_false h) (by omega)⟩, ?_⟩
  rintro b w3 ⟨rfl, rfl⟩
  refine ⟨fun _ => ?_, fun h => by cases h⟩
  rw [wrap_u8 (by omega) (by omega)]
  refine (indexByte_spec s r (by omega) w3).mono ?_
  rintro e w5 ⟨rfl, rfl⟩
  exact ⟨_, rfl, rfl, rfl⟩
theorem ascii_none {s : ByteArray} (hs : Ascii s) {c : UInt8} (hc : 128 ≤ c.toNat) (i j : Nat) (hj : j ≤ s.size) : Lib.indexByte (s.extract i j).data.toList c = -1 := by
  refine fnd_no fun k hk he => ?_
  have hk' : k < j - i := by rw [ByteArray.size_extract] at hk; omega
  rw [byt_extract hj hk'] at he
  have := hs (i + k) (by omega)
  omega
theorem indexRune_high (s : ByteArray) (hs : Ascii s) (hl : s.size ≤ 1000000) (r : Nat) (hr : 128 ≤ r) (hr2 : r ≤ 1114111) (w : World) : Calls Tryd.prog F_strings_IndexRune #[.string s, .int .i32 (r : Int)] w fun e w' => e = .returned (.int .i64 (-1)) ∧ Fr (fun _ => False) w w' := by
  refine vc_strings_IndexRune_ok (R := fun v w' => v = .int .i64 (-1) ∧ Fr (fun _ => False) w w') ?_ (fun v w' h => ⟨by rw [h.1], h.2⟩)
  refine ⟨fun b w' => b = false ∧ w' = w, ⟨fun _ => ⟨by simp; omega, rfl⟩, fun _ => ⟨rfl, rfl⟩⟩, ?_⟩
  rintro b w3 ⟨rfl, rfl⟩
  refine ⟨fun h => (by cases h), fun _ => ⟨fun _ => ?_, fun _ => ?_⟩⟩
  · obtain ⟨w7, hr7, hi7, hf7⟩ := iter_new (P := Tryd.prog) (w := w3) (t := 9) (s := s) (by kernel_rfl)
    refine ⟨w7, _, hr7, fun w' => ∃ p, IsIter w' w3.heap.size s p ∧ p ≤ s.size ∧ Fr (fun _ => False) w3 w', itLeft w3.heap.size, ⟨0, hi7, Nat.zero_le _, hf7⟩, ?_⟩
    rintro w11 ⟨p, hi, hp, hf⟩
    by_cases hps : p < s.size
    · refine .inr ?_
      obtain ⟨w13, hr13, hi13, hf13⟩ := iter_next (P := Tryd.prog) hi hps 0
      have hd := dec_low hps (hs p hps)
      rw [hd] at hr13 hi13
      have hb := hs p hps
      refine ⟨w13, _, _, hr13, fun _ => ⟨fun h => ?_, fun _ => ⟨⟨p + 1, hi13, by omega, hf.trans hf13 fun k hk e => by omega⟩, ?_⟩⟩, fun h => (by cases h)⟩
      · exfalso
        have := eq_of_beq h
        simp only at this
        omega
      · rw [hi13.left, hi.left]; omega
    · exact .inl ⟨w11, iter_end hi (by omega) 0, fun h => (by cases h), fun _ => ⟨rfl, hf⟩⟩
  · refine (validRune_spec _ w3).mono ?_
    rintro e w17 ⟨⟨b, rfl⟩, rfl⟩
    refine ⟨b, rfl, fun _ => ⟨rfl, .refl _ _⟩, fun _ => ?_⟩
    obtain ⟨e1, e2, e3⟩ := enc_high hr
    refine ⟨w17, Utf8.encode r, run_convert_int_string w17 _ _ _ _ (by kernel_rfl) (by kernel_rfl), ?_⟩
    generalize Utf8.encode (r : Int) = t at e1 e2 e3 ⊢
    have ew : IntKind.i64.wrap ((t.size : Int) - 1) = ((t.size - 1 : Nat) : Int) := by rw [wrap_i64 (by omega) (by omega)]; omega
    rw [ew]
    refine ⟨fun i w' => i = ((t.size - 1 : Nat) : Int) ∧ w' = w17, fun _ _ => 0, ⟨rfl, rfl⟩, ?_⟩
    rintro i w24 ⟨rfl, rfl⟩
    refine ⟨fun hlt => ?_, fun _ => ⟨rfl, .refl _ _⟩⟩
    have hlt := of_decide_eq_true hlt
    have hne : (byteAt s ((t.size - 1 : Nat) : Int) != byteAt t ((t.size - 1 : Nat) : Int)) = true := by
      rw [byteAt_nat, byteAt_nat]
      have := hs (t.size - 1) (by omega)
      simp; omega
    refine ⟨fun _ _ => False, ⟨⟨by omega, by omega⟩, ⟨by omega, by omega⟩, fun w26 d26 => ⟨fun _ w27 d27 => ?_, fun h => (by rw [hne] at h; cases h)⟩⟩, fun _ _ h => h.elim⟩
    have ew2 : IntKind.i64.wrap (((t.size - 1 : Nat) : Int) + 1) = ((t.size : Nat) : Int) := by rw [wrap_i64 (by omega) (by omega)]; omega
    rw [ew2]
    refine ⟨fun w' => True, trivial, ⟨by omega, by omega⟩, ⟨by omega, by omega⟩, ?_⟩
    rw [byteAt_nat]
    refine (indexByte_spec _ _ (byt_lt _ _) w27).mono ?_
    rintro e w30 ⟨rfl, hw⟩
    rw [ascii_none hs (by rw [toNat_of _ (byt_lt _ _)]; exact e3) _ _ (Nat.le_refl _)]
    refine ⟨_, rfl, trivial, fun _ => ⟨rfl, ?_⟩, fun h => absurd h (by decide)⟩
    subst hw
    exact (Fr.drew _ d26).trans' (.drew _ d27)
theorem shouldSet_spec (n : Int) (w : World) : Calls Tryd.prog F_strings_shouldUseASCIISet #[.int .i64 n] w fun e w' => e = .returned (.bool (decide (n > 8))) ∧ w' = w :=
  vc_strings_shouldUseASCIISet_ok (R := fun v w' => v = .bool (decide (n > 8)) ∧ w' = w) ⟨rfl, rfl⟩ (fun v w' h => ⟨by rw [h.1], h.2⟩)
theorem indexAny_spec (s cs : ByteArray) (hs : s.size ≤ 4000000000) (h2 : 2 ≤ cs.size) (hl : cs.size ≤ 1000000) (hc : Ascii cs) (w : World) :
    Calls Tryd.prog F_strings_IndexAny #[.string s, .string cs] w fun e w' => e = .returned (.int .i64 (Lib.indexAny s.data.toList cs.data.toList)) ∧ Fr (fun _ => False) w w' := by
  by_cases h8 : 8 < s.size
  · refine (Any.strings_IndexAny_long lays153 (fun w => by kernel_rfl) (by kernel_rfl) s cs w h2 h8 (by omega) (by omega) (fun j b hb => ?_)).mono ?_
    · obtain ⟨h1, h3⟩ := bs_get? hb
      have := hc j h1; omega
    · rintro e w' ⟨rfl, rfl⟩
      exact ⟨rfl, (Fr.alloc _ _ _).trans' (.alloc _ _ _)⟩
  · refine vc_strings_IndexAny_ok (R := fun v w' => v = .int .i64 (Lib.indexAny s.data.toList cs.data.toList) ∧ Fr (fun _ => False) w w') ?_ (fun v w' h => ⟨by rw [h.1], h.2⟩)
    refine ⟨fun h => ?_, fun _ => ⟨fun h => ?_, fun _ => ⟨fun w' => w' = w, ?_, ?_⟩⟩⟩
    · rw [bs_eq] at h
      have := of_decide_eq_true h
      rw [bs_empty] at this; omega
    · have := eq_of_beq h; omega
    · refine (shouldSet_spec _ w).mono ?_
      rintro e w9 ⟨rfl, rfl⟩
      rw [decide_eq_false (show ¬ ((s.size : Int) > 8) by omega)]
      exact ⟨_, rfl, fun h => (by cases h), fun _ => rfl⟩
    · rintro w24 rfl
      obtain ⟨w7, hr7, hi7, hf7⟩ := iter_new (P := Tryd.prog) (w := w24) (t := 9) (s := s) (by kernel_rfl)
      refine ⟨w7, _, hr7, fun w' => ∃ p, IsIter w' w24.heap.size s p ∧ p ≤ s.size ∧ Fr (fun _ => False) w24 w' ∧ Lib.NoAny s.data.toList cs.data.toList p, itLeft w24.heap.size, ⟨0, hi7, Nat.zero_le _, hf7, .zero _ _⟩, ?_⟩
      rintro w11 ⟨p, hi, hp, hf, hn⟩
      by_cases hps : p < s.size
      · refine .inr ?_
        obtain ⟨w13, hr13, hi13, hf13⟩ := iter_next (P := Tryd.prog) hi hps 0
        have hfn : Fr (fun _ => False) w24 w13 := hf.trans hf13 fun k hk e => by omega
        refine ⟨w13, _, _, hr13, fun _ => ?_, fun h => (by cases h)⟩
        by_cases hb : byt s p < 128
        · rw [dec_low hps hb]
          rw [dec_low hps hb] at hi13
          refine (indexRune_low cs (byt s p) hb w13).mono ?_
          rintro e w35 ⟨rfl, rfl⟩
          have hcon := Lib.contains_iff_indexByte cs.data.toList (UInt8.ofNat (byt s p))
          refine ⟨_, rfl, fun h => ⟨?_, hfn⟩, fun h => ⟨⟨p + 1, hi13, by omega, hfn, hn.succ (bs_get hps) ?_⟩, ?_⟩⟩
          · have h := of_decide_eq_true h
            rw [decide_eq_true (show (0 : Int) ≤ Lib.indexByte cs.data.toList (UInt8.ofNat (byt s p)) from h)] at hcon
            rw [Lib.indexAny_hit hn (bs_get hps) hcon]
          · have h := of_decide_eq_false h
            rw [hcon]
            exact decide_eq_false h
          · rw [hi13.left, hi.left]; omega
        · obtain ⟨d1, d2, d3, d4, d5⟩ := dec_high hps (by omega)
          refine (indexRune_high cs hc hl _ d1 d2 w13).mono ?_
          rintro e w35 ⟨rfl, hf35⟩
          refine ⟨_, rfl, fun h => absurd h (by decide), fun h => ⟨⟨_, hi13.keep hf35 (by simp), d4, hfn.trans' hf35, ?_⟩, ?_⟩⟩
          · intro j b hj hb'
            by_cases hjp : j < p
            · exact hn j b hjp hb'
            · obtain ⟨h1, h3⟩ := bs_get? hb'
              have h4 := d5 j (by omega) hj
              refine Bool.eq_false_iff.2 fun hcont => ?_
              obtain ⟨k, hk, hkb⟩ := List.getElem_of_mem (List.contains_iff_mem.1 hcont)
              have := bs_get? (s := cs) (i := k) (c := b) (by rw [List.getElem?_eq_getElem hk, hkb])
              have := hc k this.1
              omega
          · rw [(hi13.keep hf35 (by simp)).left, hi.left]; omega
      · refine .inl ⟨w11, iter_end hi (by omega) 0, fun h => (by cases h), fun _ => ⟨?_, hf⟩⟩
        have : p = s.size := by omega
        subst this
        rw [Lib.indexAny_none (by rw [bs_len]; exact hn)]
theorem containsAny_eq (s cs : List UInt8) : decide (Lib.indexAny s cs ≥ 0) = s.any fun c => cs.contains c := by
  induction s with
  | nil => rfl
  | cons b l ih =>
    have hg := Lib.indexAny_ge cs l
    rw [Lib.indexAny, List.any_cons, ← ih]
    cases hb : cs.contains b
    · simp only [Bool.false_eq_true, if_false, Bool.false_or]
      by_cases h : Lib.indexAny l cs = -1
      · rw [h]; rfl
      · rw [if_neg (by simpa using h)]
        refine decide_eq_decide.2 ?_
        omega
    · simp
theorem containsAny_spec (s cs : ByteArray) (hs : s.size ≤ 4000000000) (h2 : 2 ≤ cs.size) (hl : cs.size ≤ 1000000) (hc : Ascii cs) (w : World) :
    Calls Tryd.prog F_strings_ContainsAny #[.string s, .string cs] w fun e w' => e = .returned (.bool (s.data.toList.any fun c => cs.data.toList.contains c)) ∧ Fr (fun _ => False) w w' := by
  refine vc_strings_ContainsAny_ok (R := fun v w' => v = .bool (s.data.toList.any fun c => cs.data.toList.contains c) ∧ Fr (fun _ => False) w w') ?_ (fun v w' h => ⟨by rw [h.1], h.2⟩)
  refine (indexAny_spec s cs hs h2 hl hc w).mono ?_
  rintro e w2 ⟨rfl, hf⟩
  exact ⟨_, rfl, by rw [containsAny_eq], hf⟩
end Go.Proofs.YtfoeooddnmppnaaDoor

/- modfile.FilePath: is a text a file's path? Condition: it is no longer than memory. -/
set_option linter.unusedVariables false
namespace Go.Proofs.YtfoeooddnmppnaaDoor
open Go Vc Go.Proofs Go.RowKit Go.Shelf
attribute [local go_sem] Oper.semAt_some

def badS : ByteArray := ⟨#[34, 39, 42, 60, 62, 63, 96, 124, 92, 58, 59]⟩
def dotOK (p : ByteArray) : Bool := decide (byt p (p.size - 1) ≠ 46)
theorem bad_any (s : ByteArray) : (s.data.toList.any fun c => badS.data.toList.contains c) = s.data.toList.any fun c => badL.contains c := by
  rfl
theorem bad_ascii : Ascii badS := by
  intro j hj
  have : j < 11 := hj
  have key : ∀ j : Fin 11, byt badS j < 128 := by decide
  exact key ⟨j, this⟩
theorem fileB_parts (s : ByteArray) (hc : cleanB s = true) (hb : (s.data.toList.any fun c => badL.contains c) = false) : fileB s = (partsF s.size s).all dotOK := by
  unfold fileB
  rw [hc, hb, partsF_L _ _ (Nat.le_refl _), bsm, List.all_map]
  simp only [Bool.not_false, Bool.and_self, Bool.true_and]
  congr 1
theorem clean_parts {s : ByteArray} (hc : cleanB s = true) : s.size ≤ 200 ∧ ∀ p ∈ partsF s.size s, p.size ≠ 0 ∧ p.size ≤ 200 := by
  unfold cleanB at hc
  simp only [Bool.and_eq_true] at hc
  have h1 := of_decide_eq_true hc.1.1
  refine ⟨h1, fun p hp => ?_⟩
  have h2 := List.all_eq_true.1 hc.1.2 p hp
  rw [partsF_L _ _ (Nat.le_refl _), bsm] at hp
  obtain ⟨q, hq, rfl⟩ := List.mem_map.1 hp
  have h3 := partsL_size _ q hq
  rw [bs_len] at h3
  refine ⟨fun e => ?_, by rw [bs_mksize]; omega⟩
  rw [bs_empty.2 e] at h2
  revert h2; decide
set_option maxRecDepth 100000 in
set_option maxHeartbeats 2000000 in
theorem filePath_spec (s : ByteArray) (hs : s.size ≤ 140737488355328) (w : World) : Calls Tryd.prog 115 #[.string s] w fun e w' => e = .returned (.bool (fileB s)) ∧ Fr (fun _ => False) w w' := by
  refine (callsIn_wide (n := 3)).1 ?_
  refine callsIn_of_wp_marks Tryd.func115 rfl trivial ?_ rfl
  simp only [Tryd.ntmps115, List.size_toArray, List.length_cons, List.length_nil, Nat.reduceAdd, Nat.reduceSub, Array.replicate_succ, Array.replicate_zero, List.push_toArray, List.append_toArray, List.nil_append, List.cons_append]
  obtain ⟨w0, hw0⟩ : ∃ w0, w.alloc (.cells #[.bool false] 4) = w0 := ⟨_, rfl⟩
  have hsz : w0.heap.size = w.heap.size + 1 := by rw [← hw0]; simp
  have hb0 : w0.heap[w.heap.size]? = some (.cells #[.bool false] 4 (0, 0)) := by rw [← hw0]; exact alloc_new _ _
  have hf0 : Fr (fun _ => False) w w0 := by rw [← hw0]; exact .alloc _ _ _
  by_cases hc : cleanB s = true
  rotate_left
  · have hc : cleanB s = false := by simpa using hc
    have hcc : ∀ w', Fr (fun _ => False) w0 w' → w'.cell? ⟨w.heap.size, 0, none⟩ = some (.bool false) := fun w' hf => by rw [cell_blk (hf.keep hb0 (by simp))]; rfl
    have hcz : ∀ w', Fr (fun _ => False) w0 w' → w'.frozen? ⟨w.heap.size, 0, none⟩ = false := fun w' hf => frozen_blk (hf.keep hb0 (by simp)) 0
    gi_wp2_with (refine ⟨trivial, ?_⟩; gi_at_call 37; refine (callsIn_wide.2 (clean_spec s hs _)).mono ?_; rintro e w' ⟨rfl, hf'⟩; simp only [hc]; have hc1 := hcc _ hf'; have hz1 := hcz _ hf')
    refine ⟨trivial, ?_⟩
    gi_wp2
    have hst : Fr (· = w.heap.size) w' (w'.setCell ⟨w.heap.size, 0, none⟩ (.bool false)) := .set _ _ _ rfl
    have hc5 : (w'.setCell ⟨w.heap.size, 0, none⟩ (.bool false)).cell? ⟨w.heap.size, 0, none⟩ = some (.bool false) := World.cell?_setCell_same' _ _ _ (by rw [hc1]; rfl)
    refine ⟨.bool false, ?_, ?_, (hf0.trans' hf').trans hst fun q hq e => by omega⟩
    · simp [results, Tryd.f115, go_sem, hc5]
    · unfold fileB; rw [hc]; rfl
  · have hcc : ∀ w', Fr (fun _ => False) w0 w' → w'.cell? ⟨w.heap.size, 0, none⟩ = some (.bool false) := fun w' hf => by rw [cell_blk (hf.keep hb0 (by simp))]; rfl
    have hcz : ∀ w', Fr (fun _ => False) w0 w' → w'.frozen? ⟨w.heap.size, 0, none⟩ = false := fun w' hf => frozen_blk (hf.keep hb0 (by simp)) 0
    obtain ⟨hs2, hps⟩ := clean_parts hc
    gi_wp2_with (refine ⟨trivial, ?_⟩; gi_at_call 37; refine (callsIn_wide.2 (clean_spec s hs _)).mono ?_; rintro e w' ⟨rfl, hf'⟩; simp only [hc]; have hc1 := hcc _ hf'; have hz1 := hcz _ hf')
    by_cases hb : (s.data.toList.any fun c => badL.contains c) = true
    · refine ⟨trivial, ?_⟩
      gi_at_call 134
      refine (callsIn_wide.2 (containsAny_spec s badS (by omega) (by decide) (by decide) bad_ascii _)).mono ?_
      rintro e w3 ⟨rfl, hf3⟩
      rw [bad_any, hb]
      have hc3 := hcc _ (hf'.trans' hf3)
      have hz3 := hcz _ (hf'.trans' hf3)
      gi_wp2
      have hst : Fr (· = w.heap.size) w3 (w3.setCell ⟨w.heap.size, 0, none⟩ (.bool false)) := .set _ _ _ rfl
      have hc5 : (w3.setCell ⟨w.heap.size, 0, none⟩ (.bool false)).cell? ⟨w.heap.size, 0, none⟩ = some (.bool false) := World.cell?_setCell_same' _ _ _ (by rw [hc3]; rfl)
      refine ⟨.bool false, ?_, ?_, ((hf0.trans' hf').trans' hf3).trans hst fun q hq e => by omega⟩
      · simp [results, Tryd.f115, go_sem, hc5]
      · unfold fileB; rw [hc, hb]; rfl
    · have hb : (s.data.toList.any fun c => badL.contains c) = false := by simpa using hb
      have hFB := fileB_parts s hc hb
      refine ⟨trivial, ?_⟩
      gi_at_call 134
      refine (callsIn_wide.2 (containsAny_spec s badS (by omega) (by decide) (by decide) bad_ascii _)).mono ?_
      rintro e w3 ⟨rfl, hf3⟩
      rw [bad_any, hb]
      have hc3 := hcc _ (hf'.trans' hf3)
      have hz3 := hcz _ (hf'.trans' hf3)
      have hb3 := (hf'.trans' hf3).keep hb0 (by simp)
      have hF3 := (hf0.trans' hf').trans' hf3
      gi_wp2_with (refine ⟨trivial, ?_⟩; gi_at_call 90; refine (callsIn_wide.2 (splitSeq_spec s _)).mono ?_; rintro e w' ⟨rfl, rfl⟩)
      clear hw0 hf' hcc hcz
      obtain ⟨n, hn⟩ : ∃ n, w3.heap.size = n := ⟨_, rfl⟩
      have hwn : w.heap.size < n := by rw [← hn]; exact lt_blk hb3
      obtain ⟨w1, hw1⟩ : ∃ w1, ((w3.alloc (.cells #[.string s] 9)).alloc (.cells #[.string ⟨#[47]⟩] 9)).alloc (.cells #[.int .i64 0] 3) = w1 := ⟨_, rfl⟩
      have hf1 : Fr (fun _ => False) w3 w1 := by rw [← hw1]; exact ((Fr.alloc _ _ _).trans' (.alloc _ _ _)).trans' (.alloc _ _ _)
      have n1 : (w3.alloc (.cells #[.string s] 9)).heap.size = n + 1 := by simp [hn]
      have n2 : ((w3.alloc (.cells #[.string s] 9)).alloc (.cells #[.string ⟨#[47]⟩] 9)).heap.size = n + 2 := by simp [hn]
      have hbs : w1.heap[n]? = some (.cells #[.string s] 9 (0, 0)) := by
        rw [← hw1, ← hn]
        exact (Fr.alloc (fun _ => False) _ _).keep ((Fr.alloc (fun _ => False) _ _).keep (alloc_new w3 _) (by simp)) (by simp)
      have hbp : w1.heap[n + 1]? = some (.cells #[.string ⟨#[47]⟩] 9 (0, 0)) := by
        rw [← hw1, ← n1]
        exact (Fr.alloc (fun _ => False) _ _).keep (alloc_new _ _) (by simp)
      have hbz : w1.heap[n + 2]? = some (.cells #[.int .i64 0] 3 (0, 0)) := by
        rw [← hw1, ← n2]
        exact alloc_new _ _
      rw [hw1, hn]
      clear hw1 n1 n2
      refine range_split (B := n) (b0 := n + 1) (b1 := n) (b2 := n + 2) (by omega) (by omega) (by omega) (by omega) (by omega) rfl s hs
        (by rw [cell_blk hbp]; rfl) (by rw [cell_blk hbs]; rfl) (by rw [cell_blk hbz]; rfl) (frozen_blk hbs 0)
        (fun pre W => (∀ p ∈ pre, dotOK p = true) ∧ W.heap[w.heap.size]? = some (.cells #[.bool false] 4 (0, 0)) ∧ Fr (fun _ => False) w W)
        (fun pre W => (∃ p ∈ partsF s.size s, dotOK p = false) ∧ W.cell? ⟨w.heap.size, 0, none⟩ = some (.bool false) ∧ Fr (fun _ => False) w W)
        (fun pre W W' ⟨h1, h2, h3⟩ hf => ⟨h1, hf.keep h2 (by omega), h3.trans hf fun q hq h => by omega⟩)
        (fun pre W W' ⟨h1, h2, h3⟩ hf => ⟨h1, hf.cell h2 (by simp only; omega), h3.trans hf fun q hq h => by omega⟩)
        ⟨by simp, hf1.keep hb3 (by simp), hF3.trans' hf1⟩
        (fun x => { tmps := #[.string s, undef, .pointer (some ⟨w.heap.size, 0, none⟩), .string x, .string s, .bool true, .bool false, .bool false, .string s, .bool false, .bool false, .string s, .func (.func 136) #[] #[.pointer (some ⟨n + 1, 0, none⟩), .pointer (some ⟨n, 0, none⟩), .pointer (some ⟨n + 2, 0, none⟩)], .string x, undef, undef, undef, undef, undef, undef], defers := [] }) ?assign ?body ?done ?stop
      case assign =>
        intro l x W K hK
        gi_wp2
        exact hK
      case body =>
        rintro l pre x W ⟨hp, hcell, hf⟩ hr
        have hcc : W.cell? ⟨w.heap.size, 0, none⟩ = some (.bool false) := by rw [cell_blk hcell]; rfl
        have hcz : W.frozen? ⟨w.heap.size, 0, none⟩ = false := frozen_blk hcell 0
        have hxm : x ∈ partsF s.size s := by obtain ⟨r, hr⟩ := hr; rw [← hr]; simp
        obtain ⟨hx0, hx2⟩ := hps x hxm
        have hget : ∀ (h : x.size - 1 < x.size), (x[x.size - 1]'h).toNat = byt x (x.size - 1) := fun h => by
          unfold byt; rw [Lib.data_getElem? x _ h]; rfl
        gi_wp2
        · rename_i h46
          have hb46 : byt x (x.size - 1) = 46 := by have := eq_of_beq h46; omega
          exact ⟨Fr.set _ _ _ hwn, ⟨x, hxm, by unfold dotOK; rw [hb46]; rfl⟩, World.cell?_setCell_same' _ _ _ (by rw [hcc]; rfl), hf.trans (Fr.set (· = w.heap.size) _ _ rfl) fun q hq e => by omega⟩
        · rename_i h46
          have hb46 : byt x (x.size - 1) ≠ 46 := fun e => by rw [e] at h46; simp at h46
          refine ⟨.refl _ _, fun p hpm => ?_, hcell, hf⟩
          rcases List.mem_append.1 hpm with hpm | hpm
          · exact hp p hpm
          · simp only [List.mem_cons, List.mem_nil_iff, or_false] at hpm
            subst hpm
            exact decide_eq_true hb46
      case done =>
        rintro D W hD ⟨hall, hcell, hf⟩ hK
        have hcc : W.cell? ⟨w.heap.size, 0, none⟩ = some (.bool false) := by rw [cell_blk hcell]; rfl
        have hcz : W.frozen? ⟨w.heap.size, 0, none⟩ = false := frozen_blk hcell 0
        gi_wp2
        have hne : D ≠ w.heap.size := by have := hf1.size; omega
        have hst : Fr (· = w.heap.size) W (W.setCell ⟨w.heap.size, 0, none⟩ (.bool true)) := .set _ _ _ rfl
        have hK' := hst.keep hK hne
        refine ⟨by simp, .inl ⟨_, _, rfl, run_takeDeferred hK', ?_⟩⟩
        have hpt : Fr (· = D) (W.setCell ⟨w.heap.size, 0, none⟩ (.bool true)) ((W.setCell ⟨w.heap.size, 0, none⟩ (.bool true)).putObj D (.deferred none)) := (Fr.grown (grownBy_putObj' _ D _)).mono fun q _ h => by cases h; rfl
        have hc5 := hpt.cell (World.cell?_setCell_same' W ⟨w.heap.size, 0, none⟩ (.bool true) (by rw [hcc]; rfl)) (fun h => hne h.symm)
        refine ⟨.bool true, ?_, ?_, ?_⟩
        · simp [results, Tryd.f115, go_sem, hc5]
        · have : (partsF s.size s).all dotOK = true := List.all_eq_true.2 hall
          rw [hFB, this]
        · have h1 := hf.size
          have h2 := (hF3.trans' hf1).size
          exact (hf.trans hst fun q hq e => by omega).trans hpt fun q hq e => by omega
      case stop =>
        rintro D pre W hD ⟨⟨p, hpm, hpb⟩, hcell, hf⟩ hK
        have hne : D ≠ w.heap.size := by have := hf1.size; omega
        gi_wp2
        refine ⟨by simp, .inl ⟨_, _, rfl, run_takeDeferred hK, ?_⟩⟩
        have hpt : Fr (· = D) W (W.putObj D (.deferred none)) := (Fr.grown (grownBy_putObj' _ D _)).mono fun q _ h => by cases h; rfl
        have hc5 := hpt.cell hcell (fun h => hne h.symm)
        refine ⟨.bool false, ?_, ?_, ?_⟩
        · simp [results, Tryd.f115, go_sem, hc5]
        · have : (partsF s.size s).all dotOK = false := by
            rw [← Bool.not_eq_true, List.all_eq_true]
            intro h
            rw [h p hpm] at hpb; cases hpb
          rw [hFB, this]
        · have h2 := (hF3.trans' hf1).size
          exact hf.trans hpt fun q hq e => by omega
end Go.Proofs.YtfoeooddnmppnaaDoor

/- Formulas of 2 Go functions of this seat (written by a program of the author's, vcgen.py), and that each is enough for the call. No condition. -/
set_option linter.unusedVariables false
namespace Go.Proofs.YtfoeooddnmppnaaDoor
open Go Vc Go.Proofs
set_option maxRecDepth 100000
/-- strings.HasPrefix -/
def vc_strings_HasPrefix (x0 : ByteArray) (x1 : ByteArray) (w : World) (R : Value → World → Prop) : Prop :=
  Calls Tryd.prog (112 : Nat) (Array.mk [Value.string x0, Value.string x1]) (w) (fun e1 w2 =>
    ∃ b3 : Bool, (e1 = Ending.returned (Value.bool b3) ∧
     R (Value.bool b3) w2))
theorem vc_strings_HasPrefix_ok {x0 : ByteArray} {x1 : ByteArray} {w : World} {R : Value → World → Prop} {R' : Ending → World → Prop} (h : vc_strings_HasPrefix x0 x1 w R) (hR : ∀ v w', R v w' → R' (.returned v) w') :
    Calls Tryd.prog 69 #[.string x0, .string x1] w R' :=
  calls_of_body (vs := [(.string x0, false), (.string x1, false)]) (ty := ty) (ann := ⟨[], [], [], []⟩) (c := Tryd.f69.body.getD .skip) (by kernel_rfl) Tryd.func69 (by kernel_rfl) (by kernel_rfl) (Eq.mp (by kernel_rfl) h) hR
/-- internal/stringslite.HasPrefix -/
def vc_stringslite_HasPrefix (x0 : ByteArray) (x1 : ByteArray) (w : World) (R : Value → World → Prop) : Prop :=
  (((decide ((↑(ByteArray.size x0) : Int) ≥ (↑(ByteArray.size x1) : Int)) = true →
     ((0 ≤ (↑(ByteArray.size x1) : Int) ∧
       (↑(ByteArray.size x1) : Int) ≤ (↑(ByteArray.size x0) : Int)) ∧
      R (Value.bool (ByteArray.toList (ByteArray.extract x0 0 (Int.toNat (↑(ByteArray.size x1) : Int))) == ByteArray.toList x1)) w))) ∧
   (decide ((↑(ByteArray.size x0) : Int) ≥ (↑(ByteArray.size x1) : Int)) = false →
     R (Value.bool false) w))
theorem vc_stringslite_HasPrefix_ok {x0 : ByteArray} {x1 : ByteArray} {w : World} {R : Value → World → Prop} {R' : Ending → World → Prop} (h : vc_stringslite_HasPrefix x0 x1 w R) (hR : ∀ v w', R v w' → R' (.returned v) w') :
    Calls Tryd.prog 112 #[.string x0, .string x1] w R' :=
  calls_of_body (vs := [(.string x0, false), (.string x1, false)]) (ty := ty) (ann := ⟨[], [], [], []⟩) (c := Tryd.f112.body.getD .skip) (by kernel_rfl) Tryd.func112 (by kernel_rfl) (by kernel_rfl) (Eq.mp (by kernel_rfl) h) hR
end Go.Proofs.YtfoeooddnmppnaaDoor

/- The small code of the functions; printed by lift.py. -/
import Derived.Test.YtfihinodhhhllaaGreatIvSpec
set_option linter.unusedVariables false
set_option linter.unusedSimpArgs false
namespace Go.Proofs.YtfihinodhhhllaaGreat
open Go
def N_law20_TcompSizes : Nat := 6
def N_law20_begun : Nat := 15
def N_tcomp_Encode : Nat := 16
def N_value_Check : Nat := 29
def N_tcomp_Decode : Nat := 34
def N_tcomp_EncodeAs : Nat := 35
def N_tcomp_DecodeAs : Nat := 36
def N_tcomp_Skip : Nat := 37
def N_tcomp_Short : Nat := 38
def N_tcomp_known : Nat := 39
def N_tcomp_writer_value : Nat := 40
def N_tcomp_writer_done : Nat := 41
def N_kind_May : Nat := 45
def N_slices_ContainsFunc_string_string : Nat := 46
def N_kind_Names : Nat := 47
def N_value_Kind : Nat := 49
def N_kind_Head : Nat := 56
def N_value_Enum : Nat := 58
def N_value_Struct : Nat := 62
def N_value_Fields : Nat := 72
def N_value_fits : Nat := 77
def N_value_Valid : Nat := 78
def N_value_each : Nat := 79
def N_value_rise : Nat := 80
def N_slices_ContainsFunc_api_Member_api_Member : Nat := 81
def N_value_Check_1 : Nat := 82
def N_measure_Depth : Nat := 88
def N_value_Field : Nat := 92
def N_slices_Contains_int_int : Nat := 94
def N_tcomp_reader_value : Nat := 97
def N_tcomp_reader_done : Nat := 98
def N_tcomp_writer_fields : Nat := 99
def N_tcomp_reader_fields : Nat := 100
def N_tcomp_cursor_skip : Nat := 101
def N_tcomp_cursor_ok : Nat := 102
def N_tcomp_known_1 : Nat := 103
def N_tcomp_writer_byte : Nat := 104
def N_tcomp_writer_num : Nat := 105
def N_zig_Zig32 : Nat := 106
def N_zig_Zig64 : Nat := 107
def N_tcomp_writer_list : Nat := 108
def N_tcomp_writer_pairs : Nat := 109
def N_kind_read : Nat := 115
def N_slices_IndexFunc_string_string : Nat := 116
def N_strings_IndexByte : Nat := 121
def N_slices_IndexFunc_api_SEnum_api_SEnum : Nat := 124
def N_value_Enum_1 : Nat := 125
def N_slices_IndexFunc_api_SStruct_api_SStruct : Nat := 126
def N_value_Struct_1 : Nat := 127
def N_value_size : Nat := 137
def N_order_Cmp : Nat := 138
def N_slices_IndexFunc_api_Member_api_Member : Nat := 139
def N_measure_holds : Nat := 141
def N_slices_IndexFunc_api_SField_api_SField : Nat := 143
def N_value_Field_1 : Nat := 144
def N_slices_Index_int_int : Nat := 145
def N_order_Normal : Nat := 146
def N_tcomp_cursor_byte : Nat := 147
def N_tcomp_cursor_fails : Nat := 148
def N_zig_Zag32 : Nat := 149
def N_tcomp_cursor_num : Nat := 150
def N_tcomp_reader_value_1 : Nat := 151
def N_zig_Zag64 : Nat := 152
def N_tcomp_cursor_bytes : Nat := 153
def N_tcomp_cursor_count : Nat := 154
def N_tcomp_reader_list : Nat := 155
def N_tcomp_reader_pairs : Nat := 156
def N_tcomp_cursor_head : Nat := 157
def N_tcomp_reader_field : Nat := 158
def N_tcomp_reader_whole : Nat := 159
def N_tcomp_reader_normal : Nat := 160
def N_tcomp_cursor_skips : Nat := 161
def N_zig_Put : Nat := 162
def N_tcomp_writer_short : Nat := 163
def N_slices_Clone_int_int : Nat := 167
def N_kind_cursor_one : Nat := 170
def N_kind_cursor_fails : Nat := 171
def N_internal_stringslite_IndexByte : Nat := 175
def N_cmp_Compare_int : Nat := 184
def N_cmp_Compare_int64 : Nat := 185
def N_cmp_Compare_uint64 : Nat := 186
def N_strings_Compare : Nat := 187
def N_order_places : Nat := 188
def N_order_structs : Nat := 189
def N_order_within : Nat := 190
def N_zig_Take : Nat := 191
def N_tcomp_reader_is : Nat := 192
def N_tcomp_cursor_element : Nat := 193
def N_tcomp_cursor_list : Nat := 194
def N_slices_Clone_byte_byte : Nat := 195
def N_kind_word : Nat := 196
def N_kind_cursor_part : Nat := 197
def N_kind_cursor_rest : Nat := 198
def N_kind_inner : Nat := 199
def N_kind_cursor_sign : Nat := 200
def N_internal_bytealg_IndexByteString : Nat := 201
def N_cmp_isNaN_int : Nat := 202
def N_cmp_isNaN_int64 : Nat := 203
def N_cmp_isNaN_uint64 : Nat := 204
def N_internal_bytealg_CompareString : Nat := 205
def N_slices_CompareFunc_api_Value_api_Value_api_Value_api_Value : Nat := 206
def N_order_holds : Nat := 207
def N_order_Copy : Nat := 208
def N_slices_SortStableFunc_api_Value_api_Value : Nat := 209
def N_slices_CompactFunc_api_Value_api_Value : Nat := 210
def N_order_within_1 : Nat := 211
def N_order_mapped : Nat := 212
def N_order_fields : Nat := 213
def N_tcomp_none : Nat := 214
def N_kind_letter : Nat := 215
def N_internal_bytealg_abigen_runtime_cmpstring : Nat := 216
def N_slices_stableCmpFunc_api_Value : Nat := 217
def N_slices_SortStableFunc_order_pair_order_pair : Nat := 218
def N_order_mapped_1 : Nat := 219
def N_slices_SortStableFunc_int_int : Nat := 220
def N_order_fields_1 : Nat := 221
def N_slices_insertionSortCmpFunc_api_Value : Nat := 222
def N_slices_symMergeCmpFunc_api_Value : Nat := 223
def N_slices_stableCmpFunc_order_pair : Nat := 224
def N_slices_stableCmpFunc_int : Nat := 225
def N_slices_rotateCmpFunc_api_Value : Nat := 226
def N_slices_insertionSortCmpFunc_order_pair : Nat := 227
def N_slices_symMergeCmpFunc_order_pair : Nat := 228
def N_slices_insertionSortCmpFunc_int : Nat := 229
def N_slices_symMergeCmpFunc_int : Nat := 230
def N_slices_swapRangeCmpFunc_api_Value : Nat := 231
def N_slices_rotateCmpFunc_order_pair : Nat := 232
def N_slices_rotateCmpFunc_int : Nat := 233
def N_slices_swapRangeCmpFunc_order_pair : Nat := 234
def N_slices_swapRangeCmpFunc_int : Nat := 235
noncomputable abbrev C171_1 : LCode := .region false 0 [
 ⟨some 6, .mov (.cp 1), none⟩,
 ⟨some 7, .mov (.cp 6), none⟩,
 ⟨some 8, .mov (.cp 0), some (7, true)⟩,
 ⟨some 9, .nilc (.cp 8), some (7, true)⟩,
 ⟨some 10, .faddr (.cp 9) 2, some (7, true)⟩,
 ⟨some 11, .load false none (.cp 10), some (7, true)⟩,
 ⟨some 12, .bin .eql (.cp 11) (.c (.int .i64 0)), some (7, true)⟩,
 ⟨some 13, .pick (.cp 7) (.cp 12) (.c (.bool false)), none⟩] [] [0, 2, 13]
noncomputable abbrev C171_2 : LCode := .region false 0 [
 ⟨some 14, .mov (.cp 0), none⟩,
 ⟨some 15, .mov (.cp 2), none⟩,
 ⟨some 16, .nilc (.cp 14), none⟩,
 ⟨some 17, .faddr (.cp 16) 2, none⟩,
 ⟨none, .store none (.cp 17) (.cp 15), none⟩] [] []
noncomputable abbrev C171_3 : LCode := .cond (.cp 13) C171_2 .skip
noncomputable abbrev C171_4 : LCode := .seq C171_1 C171_3
noncomputable def L_kind_cursor_fails : LF := { np := 3, res := [], keepRes := false, body := C171_4 }
noncomputable abbrev C215_1 : LCode := .region false 0 [
 ⟨some 2, .mov (.c (.bool false)), none⟩] [] [0]
noncomputable abbrev C215_2 : LCode := .region false 0 [
 ⟨some 3, .mov (.cp 0), none⟩,
 ⟨some 4, .bin .eql (.cp 3) (.c (.int .u8 95)), none⟩,
 ⟨some 5, .mov (.cp 4), none⟩,
 ⟨some 6, .mov (.cp 0), some (5, false)⟩,
 ⟨some 7, .bin .geq (.cp 6) (.c (.int .u8 97)), some (5, false)⟩,
 ⟨some 8, .mov (.cp 7), some (5, false)⟩,
 ⟨some 9, .mov (.cp 0), some (8, true)⟩,
 ⟨some 10, .bin .leq (.cp 9) (.c (.int .u8 122)), some (8, true)⟩,
 ⟨some 11, .pick (.cp 8) (.cp 10) (.c (.bool false)), some (5, false)⟩,
 ⟨some 12, .pick (.cp 5) (.c (.bool true)) (.cp 11), none⟩,
 ⟨some 13, .mov (.cp 12), none⟩,
 ⟨some 14, .mov (.cp 0), some (13, false)⟩,
 ⟨some 15, .bin .geq (.cp 14) (.c (.int .u8 65)), some (13, false)⟩,
 ⟨some 16, .mov (.cp 15), some (13, false)⟩,
 ⟨some 17, .mov (.cp 0), some (16, true)⟩,
 ⟨some 18, .bin .leq (.cp 17) (.c (.int .u8 90)), some (16, true)⟩,
 ⟨some 19, .pick (.cp 16) (.cp 18) (.c (.bool false)), some (13, false)⟩,
 ⟨some 20, .pick (.cp 13) (.c (.bool true)) (.cp 19), none⟩,
 ⟨some 2, .mov (.cp 20), none⟩] [] [2]
noncomputable abbrev C215_3 : LCode := .seq C215_2 .ret
noncomputable abbrev C215_4 : LCode := .seq C215_1 C215_3
noncomputable def L_kind_letter : LF := { np := 1, res := [.tmp 2], keepRes := false, body := C215_4 }
noncomputable abbrev C197_1 : LCode := .region false 0 [
 ⟨some 2, .mov (.c (.str [])), none⟩] [] [0]
noncomputable abbrev C197_2 : LCode := .region false 0 [
 ⟨some 4, .mov (.cp 0), none⟩,
 ⟨some 5, .nilc (.cp 4), none⟩,
 ⟨some 6, .faddr (.cp 5) 1, none⟩,
 ⟨some 7, .load false none (.cp 6), none⟩,
 ⟨some 3, .mov (.cp 7), none⟩] [] [0, 3]
noncomputable abbrev C197_3 : LCode := .region true 0 [
 ⟨some 8, .mov (.cp 0), none⟩,
 ⟨some 9, .mov (.cp 0), none⟩,
 ⟨some 10, .nilc (.cp 9), none⟩,
 ⟨some 11, .faddr (.cp 10) 1, none⟩,
 ⟨some 12, .load false none (.cp 11), none⟩,
 ⟨some 13, .mov (.cp 0), none⟩,
 ⟨some 14, .nilc (.cp 13), none⟩,
 ⟨some 15, .faddr (.cp 14) 0, none⟩,
 ⟨some 16, .load false none (.cp 15), none⟩,
 ⟨some 17, .len true (.cp 16), none⟩,
 ⟨some 18, .bin .geq (.cp 12) (.cp 17), none⟩,
 ⟨some 19, .mov (.cp 18), none⟩,
 ⟨some 20, .mov (.cp 0), some (19, false)⟩,
 ⟨some 21, .nilc (.cp 20), some (19, false)⟩,
 ⟨some 22, .faddr (.cp 21) 0, some (19, false)⟩,
 ⟨some 23, .load false none (.cp 22), some (19, false)⟩,
 ⟨some 24, .mov (.cp 0), some (19, false)⟩,
 ⟨some 25, .nilc (.cp 24), some (19, false)⟩,
 ⟨some 26, .faddr (.cp 25) 1, some (19, false)⟩,
 ⟨some 27, .load false none (.cp 26), some (19, false)⟩,
 ⟨some 28, .idx (.cp 23) (.cp 27), some (19, false)⟩,
 ⟨some 29, .call N_kind_letter [.cp 28], some (19, false)⟩,
 ⟨some 30, .un .not (.cp 29), some (19, false)⟩,
 ⟨some 31, .pick (.cp 19) (.c (.bool true)) (.cp 30), none⟩,
 ⟨some 32, .call N_kind_cursor_fails [.cp 8, .cp 31, .c (.int .i64 2)], none⟩] [(4, 8), (15, 19)] [0, 3]
noncomputable abbrev C197_4 : LCode := .region true 0 [
 ⟨some 33, .mov (.cp 0), none⟩,
 ⟨some 34, .nilc (.cp 33), none⟩,
 ⟨some 35, .faddr (.cp 34) 2, none⟩,
 ⟨some 36, .load false none (.cp 35), none⟩,
 ⟨some 37, .bin .eql (.cp 36) (.c (.int .i64 0)), none⟩,
 ⟨some 38, .mov (.cp 37), none⟩,
 ⟨some 39, .mov (.cp 0), some (38, true)⟩,
 ⟨some 40, .nilc (.cp 39), some (38, true)⟩,
 ⟨some 41, .faddr (.cp 40) 1, some (38, true)⟩,
 ⟨some 42, .load false none (.cp 41), some (38, true)⟩,
 ⟨some 43, .mov (.cp 0), some (38, true)⟩,
 ⟨some 44, .nilc (.cp 43), some (38, true)⟩,
 ⟨some 45, .faddr (.cp 44) 0, some (38, true)⟩,
 ⟨some 46, .load false none (.cp 45), some (38, true)⟩,
 ⟨some 47, .len true (.cp 46), some (38, true)⟩,
 ⟨some 48, .bin .lss (.cp 42) (.cp 47), some (38, true)⟩,
 ⟨some 49, .pick (.cp 38) (.cp 48) (.c (.bool false)), none⟩,
 ⟨some 50, .mov (.cp 49), none⟩,
 ⟨some 51, .mov (.cp 0), some (50, true)⟩,
 ⟨some 52, .nilc (.cp 51), some (50, true)⟩,
 ⟨some 53, .faddr (.cp 52) 0, some (50, true)⟩,
 ⟨some 54, .load false none (.cp 53), some (50, true)⟩,
 ⟨some 55, .mov (.cp 0), some (50, true)⟩,
 ⟨some 56, .nilc (.cp 55), some (50, true)⟩,
 ⟨some 57, .faddr (.cp 56) 1, some (50, true)⟩,
 ⟨some 58, .load false none (.cp 57), some (50, true)⟩,
 ⟨some 59, .idx (.cp 54) (.cp 58), some (50, true)⟩,
 ⟨some 60, .call N_kind_letter [.cp 59], some (50, true)⟩,
 ⟨some 61, .mov (.cp 60), some (50, true)⟩,
 ⟨some 62, .mov (.cp 0), some (61, false)⟩,
 ⟨some 63, .nilc (.cp 62), some (61, false)⟩,
 ⟨some 64, .faddr (.cp 63) 0, some (61, false)⟩,
 ⟨some 65, .load false none (.cp 64), some (61, false)⟩,
 ⟨some 66, .mov (.cp 0), some (61, false)⟩,
 ⟨some 67, .nilc (.cp 66), some (61, false)⟩,
 ⟨some 68, .faddr (.cp 67) 1, some (61, false)⟩,
 ⟨some 69, .load false none (.cp 68), some (61, false)⟩,
 ⟨some 70, .idx (.cp 65) (.cp 69), some (61, false)⟩,
 ⟨some 71, .bin .geq (.cp 70) (.c (.int .u8 48)), some (61, false)⟩,
 ⟨some 72, .mov (.cp 71), some (61, false)⟩,
 ⟨some 73, .mov (.cp 0), some (72, true)⟩,
 ⟨some 74, .nilc (.cp 73), some (72, true)⟩,
 ⟨some 75, .faddr (.cp 74) 0, some (72, true)⟩,
 ⟨some 76, .load false none (.cp 75), some (72, true)⟩,
 ⟨some 77, .mov (.cp 0), some (72, true)⟩,
 ⟨some 78, .nilc (.cp 77), some (72, true)⟩,
 ⟨some 79, .faddr (.cp 78) 1, some (72, true)⟩,
 ⟨some 80, .load false none (.cp 79), some (72, true)⟩,
 ⟨some 81, .idx (.cp 76) (.cp 80), some (72, true)⟩,
 ⟨some 82, .bin .leq (.cp 81) (.c (.int .u8 57)), some (72, true)⟩,
 ⟨some 83, .pick (.cp 72) (.cp 82) (.c (.bool false)), some (61, false)⟩,
 ⟨some 84, .pick (.cp 61) (.c (.bool true)) (.cp 83), some (50, true)⟩,
 ⟨some 85, .pick (.cp 50) (.cp 84) (.c (.bool false)), none⟩] [(9, 13), (21, 25), (32, 36), (43, 47)] [0, 3, 85]
noncomputable abbrev C197_5 : LCode := .cond (.cp 85) .skip (.exit 0)
noncomputable abbrev C197_6 : LCode := .seq C197_4 C197_5
noncomputable abbrev C197_7 : LCode := .region false 0 [
 ⟨some 86, .mov (.cp 0), none⟩,
 ⟨some 87, .nilc (.cp 86), none⟩,
 ⟨some 88, .faddr (.cp 87) 1, none⟩,
 ⟨some 89, .load false none (.cp 88), none⟩,
 ⟨some 90, .bin .add (.cp 89) (.c (.int .i64 1)), none⟩,
 ⟨some 91, .nilc (.cp 86), none⟩,
 ⟨some 92, .faddr (.cp 91) 1, none⟩,
 ⟨none, .store none (.cp 92) (.cp 90), none⟩] [] [0, 3]
noncomputable abbrev C197_8 : LCode := .block 1 C197_7
noncomputable def C197_9 : LCode := .seq C197_6 C197_8
noncomputable abbrev C197_10 : LCode := .gc (.only [0, 3] C197_9)
noncomputable abbrev C197_11 : LCode := .only [0, 3] (.loop C197_10)
noncomputable abbrev C197_12 : LCode := .block 0 C197_11
noncomputable abbrev C197_13 : LCode := .region true 0 [
 ⟨some 93, .mov (.cp 0), none⟩,
 ⟨some 94, .nilc (.cp 93), none⟩,
 ⟨some 95, .faddr (.cp 94) 0, none⟩,
 ⟨some 96, .load false none (.cp 95), none⟩,
 ⟨some 97, .mov (.cp 3), none⟩,
 ⟨some 98, .mov (.cp 0), none⟩,
 ⟨some 99, .nilc (.cp 98), none⟩,
 ⟨some 100, .faddr (.cp 99) 1, none⟩,
 ⟨some 101, .load false none (.cp 100), none⟩,
 ⟨some 102, .slice none (.cp 96) (some (.cp 97)) (some (.cp 101)), none⟩,
 ⟨some 2, .mov (.cp 102), none⟩] [(3, 8)] [2]
noncomputable abbrev C197_14 : LCode := .seq C197_13 .ret
noncomputable def C197_15 : LCode := .seq C197_12 C197_14
noncomputable abbrev C197_16 : LCode := .only [0, 3] C197_15
noncomputable abbrev C197_17 : LCode := .seq C197_3 C197_16
noncomputable abbrev C197_18 : LCode := .seq C197_2 C197_17
noncomputable abbrev C197_19 : LCode := .seq C197_1 C197_18
noncomputable def L_kind_cursor_part : LF := { np := 1, res := [.tmp 2], keepRes := false, body := C197_19 }
noncomputable abbrev C196_1 : LCode := .region false 0 [
 ⟨some 2, .mov (.c (.int .i64 0)), none⟩] [] [0]
noncomputable abbrev C196_2 : LCode := .region false 0 [
 ⟨some 3, .mov (.cp 0), none⟩] [] [3]
noncomputable abbrev C196_3 : LCode := .region false 0 [
 ⟨some 5, .bin .eql (.cp 3) (.c (.str [98,111,111,108])), none⟩,
 ⟨some 4, .mov (.cp 5), none⟩] [] [3, 4]
noncomputable abbrev C196_4 : LCode := .region false 0 [
 ⟨some 2, .mov (.c (.int .i64 2)), none⟩] [] [2]
noncomputable abbrev C196_5 : LCode := .seq C196_4 .ret
noncomputable abbrev C196_6 : LCode := .region false 0 [
 ⟨some 7, .bin .eql (.cp 3) (.c (.str [105,56])), none⟩,
 ⟨some 6, .mov (.cp 7), none⟩] [] [3, 6]
noncomputable abbrev C196_7 : LCode := .region false 0 [
 ⟨some 2, .mov (.c (.int .i64 3)), none⟩] [] [2]
noncomputable abbrev C196_8 : LCode := .seq C196_7 .ret
noncomputable abbrev C196_9 : LCode := .region false 0 [
 ⟨some 9, .bin .eql (.cp 3) (.c (.str [105,49,54])), none⟩,
 ⟨some 8, .mov (.cp 9), none⟩] [] [3, 8]
noncomputable abbrev C196_10 : LCode := .region false 0 [
 ⟨some 2, .mov (.c (.int .i64 6)), none⟩] [] [2]
noncomputable abbrev C196_11 : LCode := .seq C196_10 .ret
noncomputable abbrev C196_12 : LCode := .region false 0 [
 ⟨some 11, .bin .eql (.cp 3) (.c (.str [105,51,50])), none⟩,
 ⟨some 10, .mov (.cp 11), none⟩] [] [3, 10]
noncomputable abbrev C196_13 : LCode := .region false 0 [
 ⟨some 2, .mov (.c (.int .i64 8)), none⟩] [] [2]
noncomputable abbrev C196_14 : LCode := .seq C196_13 .ret
noncomputable abbrev C196_15 : LCode := .region false 0 [
 ⟨some 13, .bin .eql (.cp 3) (.c (.str [105,54,52])), none⟩,
 ⟨some 12, .mov (.cp 13), none⟩] [] [3, 12]
noncomputable abbrev C196_16 : LCode := .region false 0 [
 ⟨some 2, .mov (.c (.int .i64 10)), none⟩] [] [2]
noncomputable abbrev C196_17 : LCode := .seq C196_16 .ret
noncomputable abbrev C196_18 : LCode := .region false 0 [
 ⟨some 15, .bin .eql (.cp 3) (.c (.str [100,111,117,98,108,101])), none⟩,
 ⟨some 14, .mov (.cp 15), none⟩] [] [3, 14]
noncomputable abbrev C196_19 : LCode := .region false 0 [
 ⟨some 2, .mov (.c (.int .i64 4)), none⟩] [] [2]
noncomputable abbrev C196_20 : LCode := .seq C196_19 .ret
noncomputable abbrev C196_21 : LCode := .region false 0 [
 ⟨some 17, .bin .eql (.cp 3) (.c (.str [115,116,114,105,110,103])), none⟩,
 ⟨some 16, .mov (.cp 17), none⟩] [] [3, 16]
noncomputable abbrev C196_22 : LCode := .region false 0 [
 ⟨some 2, .mov (.c (.int .i64 11)), none⟩] [] [2]
noncomputable abbrev C196_23 : LCode := .seq C196_22 .ret
noncomputable abbrev C196_24 : LCode := .region false 0 [
 ⟨some 19, .bin .eql (.cp 3) (.c (.str [98,105,110,97,114,121])), none⟩,
 ⟨some 18, .mov (.cp 19), none⟩] [] [3, 18]
noncomputable abbrev C196_25 : LCode := .region false 0 [
 ⟨some 2, .mov (.c (.int .i64 16)), none⟩] [] [2]
noncomputable abbrev C196_26 : LCode := .seq C196_25 .ret
noncomputable abbrev C196_27 : LCode := .region false 0 [
 ⟨some 21, .bin .eql (.cp 3) (.c (.str [108,105,115,116])), none⟩,
 ⟨some 20, .mov (.cp 21), none⟩] [] [3, 20]
noncomputable abbrev C196_28 : LCode := .region false 0 [
 ⟨some 2, .mov (.c (.int .i64 15)), none⟩] [] [2]
noncomputable abbrev C196_29 : LCode := .seq C196_28 .ret
noncomputable abbrev C196_30 : LCode := .region false 0 [
 ⟨some 23, .bin .eql (.cp 3) (.c (.str [115,101,116])), none⟩,
 ⟨some 22, .mov (.cp 23), none⟩] [] [3, 22]
noncomputable abbrev C196_31 : LCode := .region false 0 [
 ⟨some 2, .mov (.c (.int .i64 14)), none⟩] [] [2]
noncomputable abbrev C196_32 : LCode := .seq C196_31 .ret
noncomputable abbrev C196_33 : LCode := .region false 0 [
 ⟨some 25, .bin .eql (.cp 3) (.c (.str [109,97,112])), none⟩,
 ⟨some 24, .mov (.cp 25), none⟩] [] [24]
noncomputable abbrev C196_34 : LCode := .region false 0 [
 ⟨some 2, .mov (.c (.int .i64 13)), none⟩] [] [2]
noncomputable abbrev C196_35 : LCode := .seq C196_34 .ret
noncomputable abbrev C196_36 : LCode := .cond (.cp 24) C196_35 .skip
noncomputable abbrev C196_37 : LCode := .seq C196_33 C196_36
noncomputable abbrev C196_38 : LCode := .cond (.cp 22) C196_32 C196_37
noncomputable abbrev C196_39 : LCode := .seq C196_30 C196_38
noncomputable abbrev C196_40 : LCode := .cond (.cp 20) C196_29 C196_39
noncomputable abbrev C196_41 : LCode := .seq C196_27 C196_40
noncomputable abbrev C196_42 : LCode := .cond (.cp 18) C196_26 C196_41
noncomputable abbrev C196_43 : LCode := .seq C196_24 C196_42
noncomputable abbrev C196_44 : LCode := .cond (.cp 16) C196_23 C196_43
noncomputable abbrev C196_45 : LCode := .seq C196_21 C196_44
noncomputable abbrev C196_46 : LCode := .cond (.cp 14) C196_20 C196_45
noncomputable abbrev C196_47 : LCode := .seq C196_18 C196_46
noncomputable abbrev C196_48 : LCode := .cond (.cp 12) C196_17 C196_47
noncomputable abbrev C196_49 : LCode := .seq C196_15 C196_48
noncomputable abbrev C196_50 : LCode := .cond (.cp 10) C196_14 C196_49
noncomputable abbrev C196_51 : LCode := .seq C196_12 C196_50
noncomputable abbrev C196_52 : LCode := .cond (.cp 8) C196_11 C196_51
noncomputable abbrev C196_53 : LCode := .seq C196_9 C196_52
noncomputable abbrev C196_54 : LCode := .cond (.cp 6) C196_8 C196_53
noncomputable abbrev C196_55 : LCode := .seq C196_6 C196_54
noncomputable abbrev C196_56 : LCode := .cond (.cp 4) C196_5 C196_55
noncomputable abbrev C196_57 : LCode := .seq C196_3 C196_56
noncomputable abbrev C196_58 : LCode := .block 0 C196_57
noncomputable abbrev C196_59 : LCode := .seq C196_2 C196_58
noncomputable abbrev C196_60 : LCode := .region false 0 [
 ⟨some 2, .mov (.c (.int .i64 0)), none⟩] [] [2]
noncomputable abbrev C196_61 : LCode := .seq C196_60 .ret
noncomputable abbrev C196_62 : LCode := .seq C196_59 C196_61
noncomputable abbrev C196_63 : LCode := .seq C196_1 C196_62
noncomputable def L_kind_word : LF := { np := 1, res := [.tmp 2], keepRes := false, body := C196_63 }
noncomputable abbrev C198_1 : LCode := .region false 0 [
 ⟨some 2, .mov (.c (.bool false)), none⟩] [] [0]
noncomputable abbrev C198_2 : LCode := .region false 0 [
 ⟨some 4, .mov (.cp 0), none⟩,
 ⟨some 5, .nilc (.cp 4), none⟩,
 ⟨some 6, .faddr (.cp 5) 1, none⟩,
 ⟨some 7, .load false none (.cp 6), none⟩,
 ⟨some 3, .mov (.cp 7), none⟩] [] [0, 3]
noncomputable abbrev C198_3 : LCode := .region true 0 [
 ⟨some 8, .mov (.cp 0), none⟩,
 ⟨some 9, .nilc (.cp 8), none⟩,
 ⟨some 10, .faddr (.cp 9) 2, none⟩,
 ⟨some 11, .load false none (.cp 10), none⟩,
 ⟨some 12, .bin .eql (.cp 11) (.c (.int .i64 0)), none⟩,
 ⟨some 13, .mov (.cp 12), none⟩,
 ⟨some 14, .mov (.cp 0), some (13, true)⟩,
 ⟨some 15, .nilc (.cp 14), some (13, true)⟩,
 ⟨some 16, .faddr (.cp 15) 1, some (13, true)⟩,
 ⟨some 17, .load false none (.cp 16), some (13, true)⟩,
 ⟨some 18, .mov (.cp 0), some (13, true)⟩,
 ⟨some 19, .nilc (.cp 18), some (13, true)⟩,
 ⟨some 20, .faddr (.cp 19) 0, some (13, true)⟩,
 ⟨some 21, .load false none (.cp 20), some (13, true)⟩,
 ⟨some 22, .len true (.cp 21), some (13, true)⟩,
 ⟨some 23, .bin .lss (.cp 17) (.cp 22), some (13, true)⟩,
 ⟨some 24, .pick (.cp 13) (.cp 23) (.c (.bool false)), none⟩,
 ⟨some 25, .mov (.cp 24), none⟩,
 ⟨some 26, .mov (.cp 0), some (25, true)⟩,
 ⟨some 27, .nilc (.cp 26), some (25, true)⟩,
 ⟨some 28, .faddr (.cp 27) 0, some (25, true)⟩,
 ⟨some 29, .load false none (.cp 28), some (25, true)⟩,
 ⟨some 30, .mov (.cp 0), some (25, true)⟩,
 ⟨some 31, .nilc (.cp 30), some (25, true)⟩,
 ⟨some 32, .faddr (.cp 31) 1, some (25, true)⟩,
 ⟨some 33, .load false none (.cp 32), some (25, true)⟩,
 ⟨some 34, .idx (.cp 29) (.cp 33), some (25, true)⟩,
 ⟨some 35, .bin .eql (.cp 34) (.c (.int .u8 46)), some (25, true)⟩,
 ⟨some 36, .pick (.cp 25) (.cp 35) (.c (.bool false)), none⟩] [(9, 13), (21, 25)] [0, 3, 36]
noncomputable abbrev C198_4 : LCode := .cond (.cp 36) .skip (.exit 0)
noncomputable abbrev C198_5 : LCode := .seq C198_3 C198_4
noncomputable abbrev C198_6 : LCode := .region false 0 [
 ⟨some 37, .mov (.cp 0), none⟩,
 ⟨some 38, .nilc (.cp 37), none⟩,
 ⟨some 39, .faddr (.cp 38) 1, none⟩,
 ⟨some 40, .load false none (.cp 39), none⟩,
 ⟨some 41, .bin .add (.cp 40) (.c (.int .i64 1)), none⟩,
 ⟨some 42, .nilc (.cp 37), none⟩,
 ⟨some 43, .faddr (.cp 42) 1, none⟩,
 ⟨none, .store none (.cp 43) (.cp 41), none⟩] [] [0, 3]
noncomputable abbrev C198_7 : LCode := .region false 0 [
 ⟨some 44, .mov (.cp 0), none⟩,
 ⟨some 45, .call N_kind_cursor_part [.cp 44], none⟩] [] [0, 3]
noncomputable abbrev C198_8 : LCode := .seq C198_6 C198_7
noncomputable abbrev C198_9 : LCode := .block 1 C198_8
noncomputable def C198_10 : LCode := .seq C198_5 C198_9
noncomputable abbrev C198_11 : LCode := .gc (.only [0, 3] C198_10)
noncomputable abbrev C198_12 : LCode := .only [0, 3] (.loop C198_11)
noncomputable abbrev C198_13 : LCode := .block 0 C198_12
noncomputable abbrev C198_14 : LCode := .region false 0 [
 ⟨some 46, .mov (.cp 0), none⟩,
 ⟨some 47, .nilc (.cp 46), none⟩,
 ⟨some 48, .faddr (.cp 47) 1, none⟩,
 ⟨some 49, .load false none (.cp 48), none⟩,
 ⟨some 50, .mov (.cp 3), none⟩,
 ⟨some 51, .bin .gtr (.cp 49) (.cp 50), none⟩,
 ⟨some 2, .mov (.cp 51), none⟩] [] [2]
noncomputable abbrev C198_15 : LCode := .seq C198_14 .ret
noncomputable abbrev C198_16 : LCode := .seq C198_13 C198_15
noncomputable abbrev C198_17 : LCode := .seq C198_2 C198_16
noncomputable abbrev C198_18 : LCode := .seq C198_1 C198_17
noncomputable def L_kind_cursor_rest : LF := { np := 1, res := [.tmp 2], keepRes := false, body := C198_18 }
noncomputable abbrev C199_1 : LCode := .region false 0 [
 ⟨some 2, .mov (.c (.int .i64 0)), none⟩] [] [0]
noncomputable abbrev C199_2 : LCode := .region false 0 [
 ⟨some 3, .mov (.cp 0), none⟩] [] [3]
noncomputable abbrev C199_3 : LCode := .region false 0 [
 ⟨some 5, .bin .eql (.cp 3) (.c (.int .i64 15)), none⟩,
 ⟨some 4, .mov (.cp 5), none⟩] [] [3, 4]
noncomputable abbrev C199_4 : LCode := .region false 0 [
 ⟨some 6, .bin .eql (.cp 3) (.c (.int .i64 14)), none⟩,
 ⟨some 4, .mov (.cp 6), none⟩] [] [3, 4]
noncomputable abbrev C199_5 : LCode := .cond (.cp 4) .skip C199_4
noncomputable abbrev C199_6 : LCode := .seq C199_3 C199_5
noncomputable abbrev C199_7 : LCode := .region false 0 [
 ⟨some 2, .mov (.c (.int .i64 1)), none⟩] [] [2]
noncomputable abbrev C199_8 : LCode := .seq C199_7 .ret
noncomputable abbrev C199_9 : LCode := .region false 0 [
 ⟨some 8, .bin .eql (.cp 3) (.c (.int .i64 13)), none⟩,
 ⟨some 7, .mov (.cp 8), none⟩] [] [7]
noncomputable abbrev C199_10 : LCode := .region false 0 [
 ⟨some 2, .mov (.c (.int .i64 2)), none⟩] [] [2]
noncomputable abbrev C199_11 : LCode := .seq C199_10 .ret
noncomputable abbrev C199_12 : LCode := .cond (.cp 7) C199_11 .skip
noncomputable abbrev C199_13 : LCode := .seq C199_9 C199_12
noncomputable abbrev C199_14 : LCode := .cond (.cp 4) C199_8 C199_13
noncomputable abbrev C199_15 : LCode := .seq C199_6 C199_14
noncomputable abbrev C199_16 : LCode := .block 0 C199_15
noncomputable abbrev C199_17 : LCode := .seq C199_2 C199_16
noncomputable abbrev C199_18 : LCode := .region false 0 [
 ⟨some 2, .mov (.c (.int .i64 0)), none⟩] [] [2]
noncomputable abbrev C199_19 : LCode := .seq C199_18 .ret
noncomputable abbrev C199_20 : LCode := .seq C199_17 C199_19
noncomputable abbrev C199_21 : LCode := .seq C199_1 C199_20
noncomputable def L_kind_inner : LF := { np := 1, res := [.tmp 2], keepRes := false, body := C199_21 }
noncomputable abbrev C200_1 : LCode := .region true 0 [
 ⟨some 4, .mov (.cp 0), none⟩,
 ⟨some 5, .mov (.cp 0), none⟩,
 ⟨some 6, .nilc (.cp 5), none⟩,
 ⟨some 7, .faddr (.cp 6) 1, none⟩,
 ⟨some 8, .load false none (.cp 7), none⟩,
 ⟨some 9, .mov (.cp 0), none⟩,
 ⟨some 10, .nilc (.cp 9), none⟩,
 ⟨some 11, .faddr (.cp 10) 0, none⟩,
 ⟨some 12, .load false none (.cp 11), none⟩,
 ⟨some 13, .len true (.cp 12), none⟩,
 ⟨some 14, .bin .geq (.cp 8) (.cp 13), none⟩,
 ⟨some 15, .mov (.cp 14), none⟩,
 ⟨some 16, .mov (.cp 0), some (15, false)⟩,
 ⟨some 17, .nilc (.cp 16), some (15, false)⟩,
 ⟨some 18, .faddr (.cp 17) 0, some (15, false)⟩,
 ⟨some 19, .load false none (.cp 18), some (15, false)⟩,
 ⟨some 20, .mov (.cp 0), some (15, false)⟩,
 ⟨some 21, .nilc (.cp 20), some (15, false)⟩,
 ⟨some 22, .faddr (.cp 21) 1, some (15, false)⟩,
 ⟨some 23, .load false none (.cp 22), some (15, false)⟩,
 ⟨some 24, .idx (.cp 19) (.cp 23), some (15, false)⟩,
 ⟨some 25, .mov (.cp 1), some (15, false)⟩,
 ⟨some 26, .bin .neq (.cp 24) (.cp 25), some (15, false)⟩,
 ⟨some 27, .pick (.cp 15) (.c (.bool true)) (.cp 26), none⟩,
 ⟨some 28, .call N_kind_cursor_fails [.cp 4, .cp 27, .c (.int .i64 2)], none⟩] [(4, 8), (15, 19)] [0]
noncomputable abbrev C200_2 : LCode := .region false 0 [
 ⟨some 29, .mov (.cp 0), none⟩,
 ⟨some 30, .nilc (.cp 29), none⟩,
 ⟨some 31, .faddr (.cp 30) 2, none⟩,
 ⟨some 32, .load false none (.cp 31), none⟩,
 ⟨some 33, .bin .eql (.cp 32) (.c (.int .i64 0)), none⟩] [] [0, 33]
noncomputable abbrev C200_3 : LCode := .region false 0 [
 ⟨some 34, .mov (.cp 0), none⟩,
 ⟨some 35, .nilc (.cp 34), none⟩,
 ⟨some 36, .faddr (.cp 35) 1, none⟩,
 ⟨some 37, .load false none (.cp 36), none⟩,
 ⟨some 38, .bin .add (.cp 37) (.c (.int .i64 1)), none⟩,
 ⟨some 39, .nilc (.cp 34), none⟩,
 ⟨some 40, .faddr (.cp 39) 1, none⟩,
 ⟨none, .store none (.cp 40) (.cp 38), none⟩] [] []
noncomputable abbrev C200_4 : LCode := .cond (.cp 33) C200_3 .skip
noncomputable def C200_5 : LCode := .seq C200_2 C200_4
noncomputable abbrev C200_6 : LCode := .only [0] C200_5
noncomputable abbrev C200_7 : LCode := .seq C200_1 C200_6
noncomputable def L_kind_cursor_sign : LF := { np := 2, res := [], keepRes := false, body := C200_7 }
noncomputable abbrev C170_1 : LCode := .region false 0 [
 ⟨some 4, .mov (.c (.int .i64 0)), none⟩,
 ⟨some 5, .mov (.c (.sl true 1 [])), none⟩] [] [0, 1, 5]
noncomputable abbrev C170_2 : LCode := .region false 0 [
 ⟨some 10, .mov (.cp 0), none⟩,
 ⟨some 11, .nilc (.cp 10), none⟩,
 ⟨some 12, .faddr (.cp 11) 1, none⟩,
 ⟨some 13, .load false none (.cp 12), none⟩,
 ⟨some 6, .mov (.cp 13), none⟩] [] [0, 1, 5, 6]
noncomputable abbrev C170_3 : LCode := .region false 0 [
 ⟨some 14, .mov (.cp 0), none⟩,
 ⟨some 15, .call N_kind_cursor_part [.cp 14], none⟩,
 ⟨some 16, .call N_kind_word [.cp 15], none⟩,
 ⟨some 4, .mov (.cp 16), none⟩] [] [0, 1, 4, 5, 6]
noncomputable abbrev C170_4 : LCode := .region false 0 [
 ⟨some 17, .mov (.cp 0), none⟩,
 ⟨some 18, .call N_kind_cursor_rest [.cp 17], none⟩,
 ⟨some 7, .mov (.cp 18), none⟩] [] [0, 1, 4, 5, 6, 7]
noncomputable abbrev C170_5 : LCode := .region false 0 [
 ⟨some 19, .mov (.cp 7), none⟩,
 ⟨some 20, .mov (.cp 19), none⟩,
 ⟨some 21, .mov (.cp 4), some (20, false)⟩,
 ⟨some 22, .bin .eql (.cp 21) (.c (.int .i64 0)), some (20, false)⟩,
 ⟨some 23, .pick (.cp 20) (.c (.bool true)) (.cp 22), none⟩] [] [0, 1, 4, 5, 6, 23]
noncomputable abbrev C170_6 : LCode := .region false 0 [
 ⟨some 24, .mov (.cp 0), none⟩,
 ⟨some 25, .mov (.cp 4), none⟩,
 ⟨some 26, .bin .neq (.cp 25) (.c (.int .i64 0)), none⟩,
 ⟨some 27, .call N_kind_cursor_fails [.cp 24, .cp 26, .c (.int .i64 2)], none⟩] [] [0, 6]
noncomputable abbrev C170_7 : LCode := .region true 0 [
 ⟨some 28, .mov (.cp 0), none⟩,
 ⟨some 29, .mov (.cp 0), none⟩,
 ⟨some 30, .nilc (.cp 29), none⟩,
 ⟨some 31, .faddr (.cp 30) 3, none⟩,
 ⟨some 32, .load true none (.cp 31), none⟩,
 ⟨some 33, .mov (.cp 0), none⟩,
 ⟨some 34, .nilc (.cp 33), none⟩,
 ⟨some 35, .faddr (.cp 34) 0, none⟩,
 ⟨some 36, .load false none (.cp 35), none⟩,
 ⟨some 37, .mov (.cp 6), none⟩,
 ⟨some 38, .mov (.cp 0), none⟩,
 ⟨some 39, .nilc (.cp 38), none⟩,
 ⟨some 40, .faddr (.cp 39) 1, none⟩,
 ⟨some 41, .load false none (.cp 40), none⟩,
 ⟨some 42, .slice none (.cp 36) (some (.cp 37)) (some (.cp 41)), none⟩,
 ⟨some 43, .bslice 1 (List.replicate 1 (.str [])) [(0, (.cp 42))], none⟩,
 ⟨some 44, .append 1 16 (.mv 32) (.cp 43), none⟩,
 ⟨some 45, .nilc (.cp 28), none⟩,
 ⟨some 46, .faddr (.cp 45) 3, none⟩,
 ⟨none, .store none (.cp 46) (.mv 44), none⟩] [(4, 8), (4, 13), (8, 13)] []
noncomputable abbrev C170_8 : LCode := .region false 0 [
 ⟨some 4, .mov (.c (.int .i64 0)), none⟩,
 ⟨some 5, .mov (.c (.sl true 1 [])), none⟩] [] [4, 5]
noncomputable abbrev C170_9 : LCode := .seq C170_8 .ret
noncomputable abbrev C170_10 : LCode := .seq C170_7 C170_9
noncomputable abbrev C170_11 : LCode := .seq C170_6 C170_10
noncomputable def C170_12 : LCode := .cond (.cp 23) C170_11 .skip
noncomputable abbrev C170_13 : LCode := .only [0, 1, 4, 5, 6, 23] C170_12
noncomputable abbrev C170_14 : LCode := .seq C170_5 C170_13
noncomputable abbrev C170_15 : LCode := .seq C170_4 C170_14
noncomputable abbrev C170_16 : LCode := .region false 0 [
 ⟨some 47, .mov (.cp 4), none⟩,
 ⟨some 48, .call N_kind_inner [.cp 47], none⟩,
 ⟨some 8, .mov (.cp 48), none⟩] [] [0, 1, 4, 5, 8]
noncomputable abbrev C170_17 : LCode := .region false 0 [
 ⟨some 49, .mov (.cp 8), none⟩,
 ⟨some 50, .bin .eql (.cp 49) (.c (.int .i64 0)), none⟩,
 ⟨some 51, .mov (.cp 50), none⟩,
 ⟨some 52, .mov (.cp 0), some (51, false)⟩,
 ⟨some 53, .nilc (.cp 52), some (51, false)⟩,
 ⟨some 54, .faddr (.cp 53) 2, some (51, false)⟩,
 ⟨some 55, .load false none (.cp 54), some (51, false)⟩,
 ⟨some 56, .bin .neq (.cp 55) (.c (.int .i64 0)), some (51, false)⟩,
 ⟨some 57, .pick (.cp 51) (.c (.bool true)) (.cp 56), none⟩] [] [0, 1, 4, 5, 8, 57]
noncomputable abbrev C170_18 : LCode := .region false 0 [
 ⟨some 58, .mov (.cp 4), none⟩,
 ⟨some 4, .mov (.cp 58), none⟩,
 ⟨some 5, .mov (.c (.sl true 1 [])), none⟩] [] [4, 5]
noncomputable abbrev C170_19 : LCode := .seq C170_18 .ret
noncomputable abbrev C170_20 : LCode := .cond (.cp 57) C170_19 .skip
noncomputable abbrev C170_21 : LCode := .seq C170_17 C170_20
noncomputable abbrev C170_22 : LCode := .region false 0 [
 ⟨some 59, .mov (.cp 0), none⟩,
 ⟨some 60, .mov (.cp 1), none⟩,
 ⟨some 61, .bin .geq (.cp 60) (.c (.int .i64 12)), none⟩,
 ⟨some 62, .call N_kind_cursor_fails [.cp 59, .cp 61, .c (.int .i64 6)], none⟩] [] [0, 1, 4, 5, 8]
noncomputable abbrev C170_23 : LCode := .region false 0 [
 ⟨some 63, .mov (.cp 0), none⟩,
 ⟨some 64, .mov (.cp 0), none⟩,
 ⟨some 65, .nilc (.cp 64), none⟩,
 ⟨some 66, .faddr (.cp 65) 4, none⟩,
 ⟨some 67, .load false none (.cp 66), none⟩,
 ⟨some 68, .mov (.cp 1), none⟩,
 ⟨some 69, .bin .add (.cp 68) (.c (.int .i64 1)), none⟩,
 ⟨some 70, .max2 (.cp 67) (.cp 69), none⟩,
 ⟨some 71, .nilc (.cp 63), none⟩,
 ⟨some 72, .faddr (.cp 71) 4, none⟩,
 ⟨none, .store none (.cp 72) (.cp 70), none⟩] [] [0, 1, 4, 5, 8]
noncomputable abbrev C170_24 : LCode := .region false 0 [
 ⟨some 73, .mov (.cp 8), none⟩,
 ⟨some 74, .mov (.c (.int .i64 0)), none⟩] [] [0, 1, 4, 5, 73, 74]
noncomputable abbrev C170_25 : LCode := .region false 0 [
 ⟨some 75, .bin .lss (.cp 74) (.cp 73), none⟩] [] [0, 1, 4, 5, 73, 74, 75]
noncomputable abbrev C170_26 : LCode := .cond (.cp 75) .skip (.exit 0)
noncomputable abbrev C170_27 : LCode := .region false 0 [
 ⟨some 76, .mov (.cp 74), none⟩,
 ⟨some 9, .mov (.cp 76), none⟩] [] [0, 1, 4, 5, 9, 73, 74]
noncomputable abbrev C170_28 : LCode := .region false 0 [
 ⟨some 77, .mov (.cp 0), none⟩,
 ⟨some 78, .mov (.cp 9), none⟩,
 ⟨some 79, .idx (.c (.str [60,44])) (.cp 78), none⟩,
 ⟨some 80, .call N_kind_cursor_sign [.cp 77, .cp 79], none⟩] [] [0, 1, 4, 5, 73, 74]
noncomputable abbrev C170_29 : LCode := .region false 0 [
 ⟨some 81, .mov (.cp 0), none⟩,
 ⟨some 82, .nilc (.cp 81), none⟩,
 ⟨some 83, .faddr (.cp 82) 2, none⟩,
 ⟨some 84, .load false none (.cp 83), none⟩,
 ⟨some 85, .bin .eql (.cp 84) (.c (.int .i64 0)), none⟩] [] [0, 1, 4, 5, 73, 74, 85]
noncomputable abbrev C170_30 : LCode := .region false 0 [
 ⟨some 86, .mov (.cp 0), none⟩,
 ⟨some 87, .mov (.cp 1), none⟩,
 ⟨some 88, .bin .add (.cp 87) (.c (.int .i64 1)), none⟩,
 ⟨some 89, .call N_kind_cursor_one [.cp 86, .cp 88], none⟩] [] [0, 1, 4, 5, 73, 74]
noncomputable abbrev C170_31 : LCode := .cond (.cp 85) C170_30 .skip
noncomputable abbrev C170_32 : LCode := .seq C170_29 C170_31
noncomputable abbrev C170_33 : LCode := .region false 0 [
 ⟨some 90, .mov (.mv 5), none⟩,
 ⟨some 91, .mov (.cp 0), none⟩,
 ⟨some 92, .nilc (.cp 91), none⟩,
 ⟨some 93, .faddr (.cp 92) 1, none⟩,
 ⟨some 94, .load false none (.cp 93), none⟩,
 ⟨some 95, .bslice 1 (List.replicate 1 (.int .i64 0)) [(0, (.cp 94))], none⟩,
 ⟨some 96, .append 1 8 (.mv 90) (.cp 95), none⟩,
 ⟨some 5, .mov (.mv 96), none⟩] [] [0, 1, 4, 5, 73, 74]
noncomputable abbrev C170_34 : LCode := .seq C170_32 C170_33
noncomputable abbrev C170_35 : LCode := .seq C170_28 C170_34
noncomputable abbrev C170_36 : LCode := .seq C170_27 C170_35
noncomputable abbrev C170_37 : LCode := .block 1 C170_36
noncomputable abbrev C170_38 : LCode := .region false 0 [
 ⟨some 97, .bin .add (.cp 74) (.c (.int .i64 1)), none⟩,
 ⟨some 74, .mov (.cp 97), none⟩] [] [0, 1, 4, 5, 73, 74]
noncomputable abbrev C170_39 : LCode := .seq C170_37 C170_38
noncomputable abbrev C170_40 : LCode := .seq C170_26 C170_39
noncomputable def C170_41 : LCode := .seq C170_25 C170_40
noncomputable abbrev C170_42 : LCode := .gc (.only [0, 1, 4, 5, 73, 74] C170_41)
noncomputable abbrev C170_43 : LCode := .only [0, 1, 4, 5, 73, 74] (.loop C170_42)
noncomputable abbrev C170_44 : LCode := .block 0 C170_43
noncomputable abbrev C170_45 : LCode := .seq C170_24 C170_44
noncomputable abbrev C170_46 : LCode := .region false 0 [
 ⟨some 98, .mov (.cp 0), none⟩,
 ⟨some 99, .call N_kind_cursor_sign [.cp 98, .c (.int .u8 62)], none⟩] [] [4, 5]
noncomputable abbrev C170_47 : LCode := .region false 0 [
 ⟨some 100, .mov (.cp 4), none⟩,
 ⟨some 101, .mov (.mv 5), none⟩,
 ⟨some 4, .mov (.cp 100), none⟩,
 ⟨some 5, .mov (.mv 101), none⟩] [] [4, 5]
noncomputable abbrev C170_48 : LCode := .seq C170_47 .ret
noncomputable abbrev C170_49 : LCode := .seq C170_46 C170_48
noncomputable abbrev C170_50 : LCode := .seq C170_45 C170_49
noncomputable abbrev C170_51 : LCode := .seq C170_23 C170_50
noncomputable def C170_52 : LCode := .seq C170_22 C170_51
noncomputable abbrev C170_53 : LCode := .only [0, 1, 4, 5, 8] C170_52
noncomputable abbrev C170_54 : LCode := .seq C170_21 C170_53
noncomputable abbrev C170_55 : LCode := .seq C170_16 C170_54
noncomputable abbrev C170_56 : LCode := .seq C170_15 C170_55
noncomputable abbrev C170_57 : LCode := .seq C170_3 C170_56
noncomputable abbrev C170_58 : LCode := .seq C170_2 C170_57
noncomputable abbrev C170_59 : LCode := .seq C170_1 C170_58
noncomputable def L_kind_cursor_one : LF := { np := 2, res := [.tmp 4, .tmp 5], keepRes := false, body := C170_59 }
noncomputable abbrev C115_1 : LCode := .region false 0 [
 ⟨some 2, .mov (.c (.nilp)), none⟩,
 ⟨some 3, .mov (.c (.int .i64 0)), none⟩,
 ⟨some 4, .mov (.c (.sl true 1 [])), none⟩] [] [0]
noncomputable abbrev C115_2 : LCode := .region false 0 [
 ⟨some 5, .mov (.cp 0), none⟩,
 ⟨some 6, .build [.str [], .int .i64 0, .int .i64 0, .sl true 1 [], .int .i64 0] [(0, 1, (.cp 5))], none⟩,
 ⟨some 7, .box (.mv 6), none⟩,
 ⟨some 2, .mov (.cp 7), none⟩] [] [0, 2]
noncomputable abbrev C115_3 : LCode := .region false 0 [
 ⟨some 9, .mov (.cp 2), none⟩,
 ⟨some 10, .call N_kind_cursor_one [.cp 9, .c (.int .i64 0)], none⟩,
 ⟨some 8, .mov (.cp 10), none⟩,
 ⟨some 11, .ext (.cp 8) 0, none⟩,
 ⟨some 12, .ext (.cp 8) 1, none⟩,
 ⟨some 3, .mov (.cp 11), none⟩,
 ⟨some 4, .mov (.mv 12), none⟩] [] [0, 2, 3, 4]
noncomputable abbrev C115_4 : LCode := .region false 0 [
 ⟨some 13, .mov (.cp 2), none⟩,
 ⟨some 14, .mov (.cp 2), none⟩,
 ⟨some 15, .nilc (.cp 14), none⟩,
 ⟨some 16, .faddr (.cp 15) 1, none⟩,
 ⟨some 17, .load false none (.cp 16), none⟩,
 ⟨some 18, .mov (.cp 0), none⟩,
 ⟨some 19, .len true (.cp 18), none⟩,
 ⟨some 20, .bin .lss (.cp 17) (.cp 19), none⟩,
 ⟨some 21, .call N_kind_cursor_fails [.cp 13, .cp 20, .c (.int .i64 2)], none⟩] [] [2, 3, 4]
noncomputable abbrev C115_5 : LCode := .region false 0 [
 ⟨some 22, .mov (.cp 2), none⟩,
 ⟨some 23, .mov (.cp 3), none⟩,
 ⟨some 24, .mov (.mv 4), none⟩,
 ⟨some 2, .mov (.cp 22), none⟩,
 ⟨some 3, .mov (.cp 23), none⟩,
 ⟨some 4, .mov (.mv 24), none⟩] [] [2, 3, 4]
noncomputable abbrev C115_6 : LCode := .seq C115_5 .ret
noncomputable abbrev C115_7 : LCode := .seq C115_4 C115_6
noncomputable abbrev C115_8 : LCode := .seq C115_3 C115_7
noncomputable abbrev C115_9 : LCode := .seq C115_2 C115_8
noncomputable abbrev C115_10 : LCode := .seq C115_1 C115_9
noncomputable def L_kind_read : LF := { np := 1, res := [.tmp 2, .tmp 3, .tmp 4], keepRes := false, body := C115_10 }
noncomputable abbrev C45_1 : LCode := .region false 0 [
 ⟨some 2, .mov (.c (.bool false)), none⟩] [] [0]
noncomputable abbrev C45_2 : LCode := .region false 0 [
 ⟨some 7, .mov (.cp 0), none⟩,
 ⟨some 8, .call N_kind_read [.cp 7], none⟩,
 ⟨some 6, .mov (.cp 8), none⟩,
 ⟨some 9, .ext (.cp 6) 0, none⟩,
 ⟨some 10, .ext (.cp 6) 1, none⟩,
 ⟨some 11, .ext (.cp 6) 2, none⟩,
 ⟨some 3, .mov (.cp 9), none⟩,
 ⟨some 4, .mov (.cp 10), none⟩,
 ⟨some 5, .mov (.mv 11), none⟩] [] [3]
noncomputable abbrev C45_3 : LCode := .region false 0 [
 ⟨some 12, .mov (.cp 3), none⟩,
 ⟨some 13, .nilc (.cp 12), none⟩,
 ⟨some 14, .faddr (.cp 13) 2, none⟩,
 ⟨some 15, .load false none (.cp 14), none⟩,
 ⟨some 16, .bin .eql (.cp 15) (.c (.int .i64 0)), none⟩,
 ⟨some 2, .mov (.cp 16), none⟩] [] [2]
noncomputable abbrev C45_4 : LCode := .seq C45_3 .ret
noncomputable abbrev C45_5 : LCode := .seq C45_2 C45_4
noncomputable abbrev C45_6 : LCode := .seq C45_1 C45_5
noncomputable def L_kind_May : LF := { np := 1, res := [.tmp 2], keepRes := false, body := C45_6 }
noncomputable abbrev C47_1 : LCode := .region false 0 [
 ⟨some 2, .mov (.c (.sl true 1 [])), none⟩] [] [0]
noncomputable abbrev C47_2 : LCode := .region false 0 [
 ⟨some 7, .mov (.cp 0), none⟩,
 ⟨some 8, .call N_kind_read [.cp 7], none⟩,
 ⟨some 6, .mov (.cp 8), none⟩,
 ⟨some 9, .ext (.cp 6) 0, none⟩,
 ⟨some 10, .ext (.cp 6) 1, none⟩,
 ⟨some 11, .ext (.cp 6) 2, none⟩,
 ⟨some 3, .mov (.cp 9), none⟩,
 ⟨some 4, .mov (.cp 10), none⟩,
 ⟨some 5, .mov (.mv 11), none⟩] [] [3]
noncomputable abbrev C47_3 : LCode := .region false 0 [
 ⟨some 12, .mov (.cp 3), none⟩,
 ⟨some 13, .nilc (.cp 12), none⟩,
 ⟨some 14, .faddr (.cp 13) 2, none⟩,
 ⟨some 15, .load false none (.cp 14), none⟩,
 ⟨some 16, .bin .neq (.cp 15) (.c (.int .i64 0)), none⟩] [] [3, 16]
noncomputable abbrev C47_4 : LCode := .region false 0 [
 ⟨some 2, .mov (.c (.sl true 1 [])), none⟩] [] [2]
noncomputable abbrev C47_5 : LCode := .seq C47_4 .ret
noncomputable abbrev C47_6 : LCode := .cond (.cp 16) C47_5 .skip
noncomputable abbrev C47_7 : LCode := .seq C47_3 C47_6
noncomputable abbrev C47_8 : LCode := .region false 0 [
 ⟨some 17, .mov (.cp 3), none⟩,
 ⟨some 18, .nilc (.cp 17), none⟩,
 ⟨some 19, .faddr (.cp 18) 3, none⟩,
 ⟨some 20, .load false none (.cp 19), none⟩,
 ⟨some 2, .mov (.mv 20), none⟩] [] [2]
noncomputable abbrev C47_9 : LCode := .seq C47_8 .ret
noncomputable abbrev C47_10 : LCode := .seq C47_7 C47_9
noncomputable abbrev C47_11 : LCode := .seq C47_2 C47_10
noncomputable abbrev C47_12 : LCode := .seq C47_1 C47_11
noncomputable def L_kind_Names : LF := { np := 1, res := [.tmp 2], keepRes := false, body := C47_12 }
noncomputable abbrev C116_1 : LCode := .region false 0 [
 ⟨some 4, .mov (.c (.int .i64 0)), none⟩] [] [0, 1]
noncomputable abbrev C116_2 : LCode := .region false 0 [
 ⟨some 6, .mov (.cp 0), none⟩,
 ⟨some 7, .len false (.cp 6), none⟩,
 ⟨some 8, .mov (.c (.int .i64 0)), none⟩] [] [0, 1, 7, 8]
noncomputable abbrev C116_3 : LCode := .region false 0 [
 ⟨some 9, .bin .lss (.cp 8) (.cp 7), none⟩] [] [0, 1, 7, 8, 9]
noncomputable abbrev C116_4 : LCode := .cond (.cp 9) .skip (.exit 0)
noncomputable abbrev C116_5 : LCode := .region false 0 [
 ⟨some 10, .mov (.cp 8), none⟩,
 ⟨some 5, .mov (.cp 10), none⟩] [] [0, 1, 5, 7, 8]
noncomputable abbrev C116_6 : LCode := .region false 0 [
 ⟨some 11, .mov (.cp 1), none⟩,
 ⟨some 12, .mov (.cp 0), none⟩,
 ⟨some 13, .mov (.cp 5), none⟩,
 ⟨some 14, .iaddr 1 none (.cp 12) (.cp 13), none⟩,
 ⟨some 15, .load false none (.cp 14), none⟩,
 ⟨some 16, .callv (.cp 11) [.cp 15], none⟩] [] [0, 1, 5, 7, 8, 16]
noncomputable abbrev C116_7 : LCode := .region false 0 [
 ⟨some 17, .mov (.cp 5), none⟩,
 ⟨some 4, .mov (.cp 17), none⟩] [] [4]
noncomputable abbrev C116_8 : LCode := .seq C116_7 .ret
noncomputable abbrev C116_9 : LCode := .cond (.cp 16) C116_8 .skip
noncomputable abbrev C116_10 : LCode := .seq C116_6 C116_9
noncomputable abbrev C116_11 : LCode := .seq C116_5 C116_10
noncomputable abbrev C116_12 : LCode := .block 1 C116_11
noncomputable abbrev C116_13 : LCode := .region false 0 [
 ⟨some 18, .bin .add (.cp 8) (.c (.int .i64 1)), none⟩,
 ⟨some 8, .mov (.cp 18), none⟩] [] [0, 1, 7, 8]
noncomputable abbrev C116_14 : LCode := .seq C116_12 C116_13
noncomputable abbrev C116_15 : LCode := .seq C116_4 C116_14
noncomputable def C116_16 : LCode := .seq C116_3 C116_15
noncomputable abbrev C116_17 : LCode := .gc (.only [0, 1, 7, 8] C116_16)
noncomputable abbrev C116_18 : LCode := .only [0, 1, 7, 8] (.loop C116_17)
noncomputable abbrev C116_19 : LCode := .block 0 C116_18
noncomputable abbrev C116_20 : LCode := .seq C116_2 C116_19
noncomputable abbrev C116_21 : LCode := .region false 0 [
 ⟨some 4, .mov (.c (.int .i64 (-1))), none⟩] [] [4]
noncomputable abbrev C116_22 : LCode := .seq C116_21 .ret
noncomputable abbrev C116_23 : LCode := .seq C116_20 C116_22
noncomputable abbrev C116_24 : LCode := .seq C116_1 C116_23
noncomputable def L_slices_IndexFunc_string_string : LF := { np := 2, res := [.tmp 4], keepRes := false, body := C116_24 }
noncomputable abbrev C46_1 : LCode := .region false 0 [
 ⟨some 4, .mov (.c (.bool false)), none⟩] [] [0, 1]
noncomputable abbrev C46_2 : LCode := .region false 0 [
 ⟨some 5, .mov (.mv 0), none⟩,
 ⟨some 6, .mov (.cp 1), none⟩,
 ⟨some 7, .call N_slices_IndexFunc_string_string [.cp 5, .cp 6], none⟩,
 ⟨some 8, .bin .geq (.cp 7) (.c (.int .i64 0)), none⟩,
 ⟨some 4, .mov (.cp 8), none⟩] [] [4]
noncomputable abbrev C46_3 : LCode := .seq C46_2 .ret
noncomputable abbrev C46_4 : LCode := .seq C46_1 C46_3
noncomputable def L_slices_ContainsFunc_string_string : LF := { np := 2, res := [.tmp 4], keepRes := false, body := C46_4 }
noncomputable abbrev C175_1 : LCode := .region false 0 [
 ⟨some 4, .mov (.c (.int .i64 0)), none⟩] [] [0, 1]
noncomputable abbrev C175_2 : LCode := .region false 0 [
 ⟨some 5, .mov (.cp 0), none⟩,
 ⟨some 6, .mov (.cp 1), none⟩,
 ⟨some 7, .call N_internal_bytealg_IndexByteString [.cp 5, .cp 6], none⟩,
 ⟨some 4, .mov (.cp 7), none⟩] [] [4]
noncomputable abbrev C175_3 : LCode := .seq C175_2 .ret
noncomputable abbrev C175_4 : LCode := .seq C175_1 C175_3
noncomputable def L_internal_stringslite_IndexByte : LF := { np := 2, res := [.tmp 4], keepRes := false, body := C175_4 }
noncomputable abbrev C121_1 : LCode := .region false 0 [
 ⟨some 4, .mov (.c (.int .i64 0)), none⟩] [] [0, 1]
noncomputable abbrev C121_2 : LCode := .region false 0 [
 ⟨some 5, .mov (.cp 0), none⟩,
 ⟨some 6, .mov (.cp 1), none⟩,
 ⟨some 7, .call N_internal_stringslite_IndexByte [.cp 5, .cp 6], none⟩,
 ⟨some 4, .mov (.cp 7), none⟩] [] [4]
noncomputable abbrev C121_3 : LCode := .seq C121_2 .ret
noncomputable abbrev C121_4 : LCode := .seq C121_1 C121_3
noncomputable def L_strings_IndexByte : LF := { np := 2, res := [.tmp 4], keepRes := false, body := C121_4 }
noncomputable abbrev C56_1 : LCode := .region false 0 [
 ⟨some 2, .mov (.c (.int .i64 0)), none⟩,
 ⟨some 3, .mov (.c (.str [])), none⟩,
 ⟨some 4, .mov (.c (.str [])), none⟩,
 ⟨some 5, .mov (.c (.str [])), none⟩,
 ⟨some 6, .mov (.c (.int .i64 0)), none⟩] [] [0, 5]
noncomputable abbrev C56_2 : LCode := .region false 0 [
 ⟨some 11, .mov (.cp 0), none⟩,
 ⟨some 12, .call N_kind_read [.cp 11], none⟩,
 ⟨some 10, .mov (.cp 12), none⟩,
 ⟨some 13, .ext (.cp 10) 0, none⟩,
 ⟨some 14, .ext (.cp 10) 1, none⟩,
 ⟨some 15, .ext (.cp 10) 2, none⟩,
 ⟨some 7, .mov (.cp 13), none⟩,
 ⟨some 2, .mov (.cp 14), none⟩,
 ⟨some 8, .mov (.mv 15), none⟩] [] [0, 2, 5, 7, 8]
noncomputable abbrev C56_3 : LCode := .region false 0 [
 ⟨some 17, .mov (.cp 7), none⟩,
 ⟨some 18, .nilc (.cp 17), none⟩,
 ⟨some 19, .faddr (.cp 18) 2, none⟩,
 ⟨some 20, .load false none (.cp 19), none⟩,
 ⟨some 21, .bin .neq (.cp 20) (.c (.int .i64 0)), none⟩,
 ⟨some 16, .mov (.cp 21), none⟩] [] [0, 2, 5, 7, 8, 16]
noncomputable abbrev C56_4 : LCode := .region true 0 [
 ⟨some 22, .mov (.cp 7), none⟩,
 ⟨some 23, .nilc (.cp 22), none⟩,
 ⟨some 24, .faddr (.cp 23) 2, none⟩,
 ⟨some 25, .load false none (.cp 24), none⟩,
 ⟨some 2, .mov (.c (.int .i64 0)), none⟩,
 ⟨some 3, .mov (.c (.str [])), none⟩,
 ⟨some 4, .mov (.c (.str [])), none⟩,
 ⟨some 5, .mov (.c (.str [])), none⟩,
 ⟨some 6, .mov (.cp 25), none⟩] [] [2, 3, 4, 5, 6]
noncomputable abbrev C56_5 : LCode := .seq C56_4 .ret
noncomputable abbrev C56_6 : LCode := .region false 0 [
 ⟨some 27, .mov (.cp 2), none⟩,
 ⟨some 28, .bin .eql (.cp 27) (.c (.int .i64 0)), none⟩,
 ⟨some 26, .mov (.cp 28), none⟩] [] [0, 2, 5, 8, 26]
noncomputable abbrev C56_7 : LCode := .region false 0 [
 ⟨some 29, .mov (.cp 0), none⟩,
 ⟨some 2, .mov (.c (.int .i64 0)), none⟩,
 ⟨some 3, .mov (.cp 29), none⟩,
 ⟨some 4, .mov (.c (.str [])), none⟩,
 ⟨some 5, .mov (.c (.str [])), none⟩,
 ⟨some 6, .mov (.c (.int .i64 0)), none⟩] [] [2, 3, 4, 5, 6]
noncomputable abbrev C56_8 : LCode := .seq C56_7 .ret
noncomputable abbrev C56_9 : LCode := .region false 0 [
 ⟨some 31, .mov (.cp 8), none⟩,
 ⟨some 32, .len false (.cp 31), none⟩,
 ⟨some 33, .bin .eql (.cp 32) (.c (.int .i64 0)), none⟩,
 ⟨some 30, .mov (.cp 33), none⟩] [] [0, 2, 5, 8, 30]
noncomputable abbrev C56_10 : LCode := .region false 0 [
 ⟨some 34, .mov (.cp 2), none⟩,
 ⟨some 2, .mov (.cp 34), none⟩,
 ⟨some 3, .mov (.c (.str [])), none⟩,
 ⟨some 4, .mov (.c (.str [])), none⟩,
 ⟨some 5, .mov (.c (.str [])), none⟩,
 ⟨some 6, .mov (.c (.int .i64 0)), none⟩] [] [2, 3, 4, 5, 6]
noncomputable abbrev C56_11 : LCode := .seq C56_10 .ret
noncomputable abbrev C56_12 : LCode := .cond (.cp 30) C56_11 .skip
noncomputable abbrev C56_13 : LCode := .seq C56_9 C56_12
noncomputable abbrev C56_14 : LCode := .cond (.cp 26) C56_8 C56_13
noncomputable abbrev C56_15 : LCode := .seq C56_6 C56_14
noncomputable abbrev C56_16 : LCode := .cond (.cp 16) C56_5 C56_15
noncomputable abbrev C56_17 : LCode := .seq C56_3 C56_16
noncomputable abbrev C56_18 : LCode := .block 0 C56_17
noncomputable abbrev C56_19 : LCode := .region false 0 [
 ⟨some 35, .mov (.cp 0), none⟩,
 ⟨some 36, .call N_strings_IndexByte [.cp 35, .c (.int .u8 60)], none⟩,
 ⟨some 37, .bin .add (.cp 36) (.c (.int .i64 1)), none⟩,
 ⟨some 9, .mov (.cp 37), none⟩] [] [0, 2, 5, 8, 9]
noncomputable abbrev C56_20 : LCode := .region false 0 [
 ⟨some 38, .mov (.cp 0), none⟩,
 ⟨some 39, .mov (.cp 9), none⟩,
 ⟨some 40, .mov (.cp 8), none⟩,
 ⟨some 41, .iaddr 1 none (.cp 40) (.c (.int .i64 0)), none⟩,
 ⟨some 42, .load false none (.cp 41), none⟩,
 ⟨some 43, .slice none (.cp 38) (some (.cp 39)) (some (.cp 42)), none⟩,
 ⟨some 4, .mov (.cp 43), none⟩] [] [0, 2, 4, 5, 8]
noncomputable abbrev C56_21 : LCode := .region false 0 [
 ⟨some 44, .mov (.cp 8), none⟩,
 ⟨some 45, .len false (.cp 44), none⟩,
 ⟨some 46, .bin .eql (.cp 45) (.c (.int .i64 2)), none⟩] [] [0, 2, 4, 5, 8, 46]
noncomputable abbrev C56_22 : LCode := .region true 0 [
 ⟨some 47, .mov (.cp 0), none⟩,
 ⟨some 48, .mov (.cp 8), none⟩,
 ⟨some 49, .iaddr 1 none (.cp 48) (.c (.int .i64 0)), none⟩,
 ⟨some 50, .load false none (.cp 49), none⟩,
 ⟨some 51, .bin .add (.cp 50) (.c (.int .i64 1)), none⟩,
 ⟨some 52, .mov (.cp 8), none⟩,
 ⟨some 53, .iaddr 1 none (.cp 52) (.c (.int .i64 1)), none⟩,
 ⟨some 54, .load false none (.cp 53), none⟩,
 ⟨some 55, .slice none (.cp 47) (some (.cp 51)) (some (.cp 54)), none⟩,
 ⟨some 5, .mov (.cp 55), none⟩] [(3, 7)] [2, 4, 5]
noncomputable abbrev C56_23 : LCode := .cond (.cp 46) C56_22 .skip
noncomputable abbrev C56_24 : LCode := .seq C56_21 C56_23
noncomputable abbrev C56_25 : LCode := .region false 0 [
 ⟨some 56, .mov (.cp 2), none⟩,
 ⟨some 57, .mov (.cp 4), none⟩,
 ⟨some 58, .mov (.cp 5), none⟩,
 ⟨some 2, .mov (.cp 56), none⟩,
 ⟨some 3, .mov (.c (.str [])), none⟩,
 ⟨some 4, .mov (.cp 57), none⟩,
 ⟨some 5, .mov (.cp 58), none⟩,
 ⟨some 6, .mov (.c (.int .i64 0)), none⟩] [] [2, 3, 4, 5, 6]
noncomputable abbrev C56_26 : LCode := .seq C56_25 .ret
noncomputable abbrev C56_27 : LCode := .seq C56_24 C56_26
noncomputable abbrev C56_28 : LCode := .seq C56_20 C56_27
noncomputable abbrev C56_29 : LCode := .seq C56_19 C56_28
noncomputable abbrev C56_30 : LCode := .seq C56_18 C56_29
noncomputable abbrev C56_31 : LCode := .seq C56_2 C56_30
noncomputable abbrev C56_32 : LCode := .seq C56_1 C56_31
noncomputable def L_kind_Head : LF := { np := 1, res := [.tmp 2, .tmp 3, .tmp 4, .tmp 5, .tmp 6], keepRes := false, body := C56_32 }
noncomputable abbrev C126_1 : LCode := .region false 0 [
 ⟨some 4, .mov (.c (.int .i64 0)), none⟩] [] [0, 1]
noncomputable abbrev C126_2 : LCode := .region false 0 [
 ⟨some 6, .mov (.cp 0), none⟩,
 ⟨some 7, .len false (.cp 6), none⟩,
 ⟨some 8, .mov (.c (.int .i64 0)), none⟩] [] [0, 1, 7, 8]
noncomputable abbrev C126_3 : LCode := .region false 0 [
 ⟨some 9, .bin .lss (.cp 8) (.cp 7), none⟩] [] [0, 1, 7, 8, 9]
noncomputable abbrev C126_4 : LCode := .cond (.cp 9) .skip (.exit 0)
noncomputable abbrev C126_5 : LCode := .region false 0 [
 ⟨some 10, .mov (.cp 8), none⟩,
 ⟨some 5, .mov (.cp 10), none⟩] [] [0, 1, 5, 7, 8]
noncomputable abbrev C126_6 : LCode := .region false 0 [
 ⟨some 11, .mov (.cp 1), none⟩,
 ⟨some 12, .mov (.cp 0), none⟩,
 ⟨some 13, .mov (.cp 5), none⟩,
 ⟨some 14, .iaddr 3 none (.cp 12) (.cp 13), none⟩,
 ⟨some 15, .load false (some 3) (.cp 14), none⟩,
 ⟨some 16, .callv (.cp 11) [.cp 15], none⟩] [] [0, 1, 5, 7, 8, 16]
noncomputable abbrev C126_7 : LCode := .region false 0 [
 ⟨some 17, .mov (.cp 5), none⟩,
 ⟨some 4, .mov (.cp 17), none⟩] [] [4]
noncomputable abbrev C126_8 : LCode := .seq C126_7 .ret
noncomputable abbrev C126_9 : LCode := .cond (.cp 16) C126_8 .skip
noncomputable abbrev C126_10 : LCode := .seq C126_6 C126_9
noncomputable abbrev C126_11 : LCode := .seq C126_5 C126_10
noncomputable abbrev C126_12 : LCode := .block 1 C126_11
noncomputable abbrev C126_13 : LCode := .region false 0 [
 ⟨some 18, .bin .add (.cp 8) (.c (.int .i64 1)), none⟩,
 ⟨some 8, .mov (.cp 18), none⟩] [] [0, 1, 7, 8]
noncomputable abbrev C126_14 : LCode := .seq C126_12 C126_13
noncomputable abbrev C126_15 : LCode := .seq C126_4 C126_14
noncomputable def C126_16 : LCode := .seq C126_3 C126_15
noncomputable abbrev C126_17 : LCode := .gc (.only [0, 1, 7, 8] C126_16)
noncomputable abbrev C126_18 : LCode := .only [0, 1, 7, 8] (.loop C126_17)
noncomputable abbrev C126_19 : LCode := .block 0 C126_18
noncomputable abbrev C126_20 : LCode := .seq C126_2 C126_19
noncomputable abbrev C126_21 : LCode := .region false 0 [
 ⟨some 4, .mov (.c (.int .i64 (-1))), none⟩] [] [4]
noncomputable abbrev C126_22 : LCode := .seq C126_21 .ret
noncomputable abbrev C126_23 : LCode := .seq C126_20 C126_22
noncomputable abbrev C126_24 : LCode := .seq C126_1 C126_23
noncomputable def L_slices_IndexFunc_api_SStruct_api_SStruct : LF := { np := 2, res := [.tmp 4], keepRes := false, body := C126_24 }
noncomputable abbrev C127_1 : LCode := .region false 0 [
 ⟨some 2, .box (.mv 0), none⟩,
 ⟨some 3, .mov (.c (.bool false)), none⟩] [] [1, 2]
noncomputable abbrev C127_2 : LCode := .region false 0 [
 ⟨some 4, .faddr (.cp 2) 1, none⟩,
 ⟨some 5, .load false none (.cp 4), none⟩,
 ⟨some 6, .load false none (.cp 1), none⟩,
 ⟨some 7, .bin .eql (.cp 5) (.cp 6), none⟩,
 ⟨some 3, .mov (.cp 7), none⟩] [] [3]
noncomputable abbrev C127_3 : LCode := .seq C127_2 .ret
noncomputable abbrev C127_4 : LCode := .seq C127_1 C127_3
noncomputable def L_value_Struct_1 : LF := { np := 1, res := [.tmp 3], keepRes := false, body := C127_4 }
noncomputable abbrev C62_1 : LCode := .region false 1 [
 ⟨some 2, .box (.mv 0), none⟩,
 ⟨some 3, .box (.cp 1), none⟩,
 ⟨some 4, .alloc 0 [.int .i64 0, .str [], .sl true 10 []], none⟩,
 ⟨some 5, .mov (.c (.bool false)), none⟩] [] [2, 3, 4]
noncomputable abbrev C62_2 : LCode := .region false 0 [
 ⟨some 7, .faddr (.cp 2) 0, none⟩,
 ⟨some 8, .load false none (.cp 7), none⟩,
 ⟨some 9, .mkfn N_value_Struct_1 [.cp 3], none⟩,
 ⟨some 10, .call N_slices_IndexFunc_api_SStruct_api_SStruct [.cp 8, .cp 9], none⟩,
 ⟨some 6, .mov (.cp 10), none⟩] [] [2, 4, 6]
noncomputable abbrev C62_3 : LCode := .region false 0 [
 ⟨some 11, .mov (.cp 6), none⟩,
 ⟨some 12, .bin .lss (.cp 11) (.c (.int .i64 0)), none⟩] [] [2, 4, 6, 12]
noncomputable abbrev C62_4 : LCode := .region false 0 [
 ⟨some 13, .build [.int .i64 0, .str [], .sl true 10 []] [], none⟩,
 ⟨none, .store (some 3) (.cp 4) (.mv 13), none⟩,
 ⟨some 5, .mov (.c (.bool false)), none⟩] [] [4, 5]
noncomputable abbrev C62_5 : LCode := .seq C62_4 .ret
noncomputable abbrev C62_6 : LCode := .cond (.cp 12) C62_5 .skip
noncomputable abbrev C62_7 : LCode := .seq C62_3 C62_6
noncomputable abbrev C62_8 : LCode := .region false 0 [
 ⟨some 14, .faddr (.cp 2) 0, none⟩,
 ⟨some 15, .load false none (.cp 14), none⟩,
 ⟨some 16, .mov (.cp 6), none⟩,
 ⟨some 17, .iaddr 3 none (.cp 15) (.cp 16), none⟩,
 ⟨some 18, .load false (some 3) (.cp 17), none⟩,
 ⟨none, .store (some 3) (.cp 4) (.mv 18), none⟩,
 ⟨some 5, .mov (.c (.bool true)), none⟩] [] [4, 5]
noncomputable abbrev C62_9 : LCode := .seq C62_8 .ret
noncomputable abbrev C62_10 : LCode := .seq C62_7 C62_9
noncomputable abbrev C62_11 : LCode := .seq C62_2 C62_10
noncomputable abbrev C62_12 : LCode := .seq C62_1 C62_11
noncomputable def L_value_Struct : LF := { np := 2, res := [.cell 4 (some 3), .tmp 5], keepRes := false, body := C62_12 }
noncomputable abbrev C124_1 : LCode := .region false 0 [
 ⟨some 4, .mov (.c (.int .i64 0)), none⟩] [] [0, 1]
noncomputable abbrev C124_2 : LCode := .region false 0 [
 ⟨some 6, .mov (.cp 0), none⟩,
 ⟨some 7, .len false (.cp 6), none⟩,
 ⟨some 8, .mov (.c (.int .i64 0)), none⟩] [] [0, 1, 7, 8]
noncomputable abbrev C124_3 : LCode := .region false 0 [
 ⟨some 9, .bin .lss (.cp 8) (.cp 7), none⟩] [] [0, 1, 7, 8, 9]
noncomputable abbrev C124_4 : LCode := .cond (.cp 9) .skip (.exit 0)
noncomputable abbrev C124_5 : LCode := .region false 0 [
 ⟨some 10, .mov (.cp 8), none⟩,
 ⟨some 5, .mov (.cp 10), none⟩] [] [0, 1, 5, 7, 8]
noncomputable abbrev C124_6 : LCode := .region false 0 [
 ⟨some 11, .mov (.cp 1), none⟩,
 ⟨some 12, .mov (.cp 0), none⟩,
 ⟨some 13, .mov (.cp 5), none⟩,
 ⟨some 14, .iaddr 2 none (.cp 12) (.cp 13), none⟩,
 ⟨some 15, .load false (some 2) (.cp 14), none⟩,
 ⟨some 16, .callv (.cp 11) [.cp 15], none⟩] [] [0, 1, 5, 7, 8, 16]
noncomputable abbrev C124_7 : LCode := .region false 0 [
 ⟨some 17, .mov (.cp 5), none⟩,
 ⟨some 4, .mov (.cp 17), none⟩] [] [4]
noncomputable abbrev C124_8 : LCode := .seq C124_7 .ret
noncomputable abbrev C124_9 : LCode := .cond (.cp 16) C124_8 .skip
noncomputable abbrev C124_10 : LCode := .seq C124_6 C124_9
noncomputable abbrev C124_11 : LCode := .seq C124_5 C124_10
noncomputable abbrev C124_12 : LCode := .block 1 C124_11
noncomputable abbrev C124_13 : LCode := .region false 0 [
 ⟨some 18, .bin .add (.cp 8) (.c (.int .i64 1)), none⟩,
 ⟨some 8, .mov (.cp 18), none⟩] [] [0, 1, 7, 8]
noncomputable abbrev C124_14 : LCode := .seq C124_12 C124_13
noncomputable abbrev C124_15 : LCode := .seq C124_4 C124_14
noncomputable def C124_16 : LCode := .seq C124_3 C124_15
noncomputable abbrev C124_17 : LCode := .gc (.only [0, 1, 7, 8] C124_16)
noncomputable abbrev C124_18 : LCode := .only [0, 1, 7, 8] (.loop C124_17)
noncomputable abbrev C124_19 : LCode := .block 0 C124_18
noncomputable abbrev C124_20 : LCode := .seq C124_2 C124_19
noncomputable abbrev C124_21 : LCode := .region false 0 [
 ⟨some 4, .mov (.c (.int .i64 (-1))), none⟩] [] [4]
noncomputable abbrev C124_22 : LCode := .seq C124_21 .ret
noncomputable abbrev C124_23 : LCode := .seq C124_20 C124_22
noncomputable abbrev C124_24 : LCode := .seq C124_1 C124_23
noncomputable def L_slices_IndexFunc_api_SEnum_api_SEnum : LF := { np := 2, res := [.tmp 4], keepRes := false, body := C124_24 }
noncomputable abbrev C125_1 : LCode := .region false 0 [
 ⟨some 2, .box (.mv 0), none⟩,
 ⟨some 3, .mov (.c (.bool false)), none⟩] [] [1, 2]
noncomputable abbrev C125_2 : LCode := .region false 0 [
 ⟨some 4, .faddr (.cp 2) 0, none⟩,
 ⟨some 5, .load false none (.cp 4), none⟩,
 ⟨some 6, .load false none (.cp 1), none⟩,
 ⟨some 7, .bin .eql (.cp 5) (.cp 6), none⟩,
 ⟨some 3, .mov (.cp 7), none⟩] [] [3]
noncomputable abbrev C125_3 : LCode := .seq C125_2 .ret
noncomputable abbrev C125_4 : LCode := .seq C125_1 C125_3
noncomputable def L_value_Enum_1 : LF := { np := 1, res := [.tmp 3], keepRes := false, body := C125_4 }
noncomputable abbrev C58_1 : LCode := .region false 1 [
 ⟨some 2, .box (.mv 0), none⟩,
 ⟨some 3, .box (.cp 1), none⟩,
 ⟨some 4, .alloc 0 [.str [], .sl true 3 []], none⟩,
 ⟨some 5, .mov (.c (.bool false)), none⟩] [] [2, 3, 4]
noncomputable abbrev C58_2 : LCode := .region false 0 [
 ⟨some 7, .faddr (.cp 2) 1, none⟩,
 ⟨some 8, .load false none (.cp 7), none⟩,
 ⟨some 9, .mkfn N_value_Enum_1 [.cp 3], none⟩,
 ⟨some 10, .call N_slices_IndexFunc_api_SEnum_api_SEnum [.cp 8, .cp 9], none⟩,
 ⟨some 6, .mov (.cp 10), none⟩] [] [2, 4, 6]
noncomputable abbrev C58_3 : LCode := .region false 0 [
 ⟨some 11, .mov (.cp 6), none⟩,
 ⟨some 12, .bin .lss (.cp 11) (.c (.int .i64 0)), none⟩] [] [2, 4, 6, 12]
noncomputable abbrev C58_4 : LCode := .region false 0 [
 ⟨some 13, .build [.str [], .sl true 3 []] [], none⟩,
 ⟨none, .store (some 2) (.cp 4) (.mv 13), none⟩,
 ⟨some 5, .mov (.c (.bool false)), none⟩] [] [4, 5]
noncomputable abbrev C58_5 : LCode := .seq C58_4 .ret
noncomputable abbrev C58_6 : LCode := .cond (.cp 12) C58_5 .skip
noncomputable abbrev C58_7 : LCode := .seq C58_3 C58_6
noncomputable abbrev C58_8 : LCode := .region false 0 [
 ⟨some 14, .faddr (.cp 2) 1, none⟩,
 ⟨some 15, .load false none (.cp 14), none⟩,
 ⟨some 16, .mov (.cp 6), none⟩,
 ⟨some 17, .iaddr 2 none (.cp 15) (.cp 16), none⟩,
 ⟨some 18, .load false (some 2) (.cp 17), none⟩,
 ⟨none, .store (some 2) (.cp 4) (.mv 18), none⟩,
 ⟨some 5, .mov (.c (.bool true)), none⟩] [] [4, 5]
noncomputable abbrev C58_9 : LCode := .seq C58_8 .ret
noncomputable abbrev C58_10 : LCode := .seq C58_7 C58_9
noncomputable abbrev C58_11 : LCode := .seq C58_2 C58_10
noncomputable abbrev C58_12 : LCode := .seq C58_1 C58_11
noncomputable def L_value_Enum : LF := { np := 2, res := [.cell 4 (some 2), .tmp 5], keepRes := false, body := C58_12 }
noncomputable abbrev C49_1 : LCode := .region false 0 [
 ⟨some 2, .box (.mv 0), none⟩,
 ⟨some 4, .mov (.c (.int .i64 0)), none⟩] [] [1, 2]
noncomputable abbrev C49_2 : LCode := .region false 0 [
 ⟨some 15, .mov (.cp 1), none⟩,
 ⟨some 16, .call N_kind_Head [.cp 15], none⟩,
 ⟨some 14, .mov (.cp 16), none⟩,
 ⟨some 17, .ext (.cp 14) 0, none⟩,
 ⟨some 18, .ext (.cp 14) 1, none⟩,
 ⟨some 19, .ext (.cp 14) 2, none⟩,
 ⟨some 20, .ext (.cp 14) 3, none⟩,
 ⟨some 21, .ext (.cp 14) 4, none⟩,
 ⟨some 5, .mov (.cp 17), none⟩,
 ⟨some 6, .mov (.cp 18), none⟩,
 ⟨some 7, .mov (.cp 19), none⟩,
 ⟨some 8, .mov (.cp 20), none⟩,
 ⟨some 9, .mov (.cp 21), none⟩] [] [2, 5, 6, 9]
noncomputable abbrev C49_3 : LCode := .region false 0 [
 ⟨some 22, .mov (.cp 9), none⟩,
 ⟨some 23, .bin .neq (.cp 22) (.c (.int .i64 0)), none⟩,
 ⟨some 24, .mov (.cp 23), none⟩,
 ⟨some 25, .mov (.cp 5), some (24, false)⟩,
 ⟨some 26, .bin .neq (.cp 25) (.c (.int .i64 0)), some (24, false)⟩,
 ⟨some 27, .pick (.cp 24) (.c (.bool true)) (.cp 26), none⟩] [] [2, 5, 6, 27]
noncomputable abbrev C49_4 : LCode := .region false 0 [
 ⟨some 28, .mov (.cp 5), none⟩,
 ⟨some 4, .mov (.cp 28), none⟩] [] [4]
noncomputable abbrev C49_5 : LCode := .seq C49_4 .ret
noncomputable abbrev C49_6 : LCode := .cond (.cp 27) C49_5 .skip
noncomputable abbrev C49_7 : LCode := .seq C49_3 C49_6
noncomputable abbrev C49_8 : LCode := .region false 1 [
 ⟨some 30, .load false (some 3) (.cp 2), none⟩,
 ⟨some 31, .mov (.cp 6), none⟩,
 ⟨some 32, .call N_value_Struct [.cp 30, .cp 31], none⟩,
 ⟨some 29, .mov (.cp 32), none⟩,
 ⟨some 33, .ext (.cp 29) 0, none⟩,
 ⟨some 34, .ext (.cp 29) 1, none⟩,
 ⟨some 10, .alloc 0 [.int .i64 0, .str [], .sl true 10 []], none⟩,
 ⟨none, .store (some 3) (.cp 10) (.mv 33), none⟩,
 ⟨some 11, .mov (.cp 34), none⟩] [] [2, 6, 11]
noncomputable abbrev C49_9 : LCode := .region false 0 [
 ⟨some 35, .mov (.cp 11), none⟩] [] [2, 6, 35]
noncomputable abbrev C49_10 : LCode := .region false 0 [
 ⟨some 4, .mov (.c (.int .i64 12)), none⟩] [] [4]
noncomputable abbrev C49_11 : LCode := .seq C49_10 .ret
noncomputable abbrev C49_12 : LCode := .cond (.cp 35) C49_11 .skip
noncomputable abbrev C49_13 : LCode := .seq C49_9 C49_12
noncomputable abbrev C49_14 : LCode := .seq C49_8 C49_13
noncomputable abbrev C49_15 : LCode := .region false 1 [
 ⟨some 37, .load false (some 3) (.cp 2), none⟩,
 ⟨some 38, .mov (.cp 6), none⟩,
 ⟨some 39, .call N_value_Enum [.cp 37, .cp 38], none⟩,
 ⟨some 36, .mov (.cp 39), none⟩,
 ⟨some 40, .ext (.cp 36) 0, none⟩,
 ⟨some 41, .ext (.cp 36) 1, none⟩,
 ⟨some 12, .alloc 0 [.str [], .sl true 3 []], none⟩,
 ⟨none, .store (some 2) (.cp 12) (.mv 40), none⟩,
 ⟨some 13, .mov (.cp 41), none⟩] [] [13]
noncomputable abbrev C49_16 : LCode := .region false 0 [
 ⟨some 42, .mov (.cp 13), none⟩] [] [42]
noncomputable abbrev C49_17 : LCode := .region false 0 [
 ⟨some 4, .mov (.c (.int .i64 17)), none⟩] [] [4]
noncomputable abbrev C49_18 : LCode := .seq C49_17 .ret
noncomputable abbrev C49_19 : LCode := .cond (.cp 42) C49_18 .skip
noncomputable abbrev C49_20 : LCode := .seq C49_16 C49_19
noncomputable abbrev C49_21 : LCode := .seq C49_15 C49_20
noncomputable abbrev C49_22 : LCode := .region false 0 [
 ⟨some 4, .mov (.c (.int .i64 0)), none⟩] [] [4]
noncomputable abbrev C49_23 : LCode := .seq C49_22 .ret
noncomputable abbrev C49_24 : LCode := .seq C49_21 C49_23
noncomputable def C49_25 : LCode := .seq C49_14 C49_24
noncomputable abbrev C49_26 : LCode := .only [2, 6] C49_25
noncomputable abbrev C49_27 : LCode := .seq C49_7 C49_26
noncomputable abbrev C49_28 : LCode := .seq C49_2 C49_27
noncomputable abbrev C49_29 : LCode := .seq C49_1 C49_28
noncomputable def L_value_Kind : LF := { np := 2, res := [.tmp 4], keepRes := false, body := C49_29 }
noncomputable abbrev C103_1 : LCode := .region false 0 [
 ⟨some 3, .mov (.c (.bool false)), none⟩] [] [0, 1]
noncomputable abbrev C103_2 : LCode := .region false 0 [
 ⟨some 4, .load false (some 3) (.cp 1), none⟩,
 ⟨some 5, .mov (.cp 0), none⟩,
 ⟨some 6, .call N_value_Kind [.cp 4, .cp 5], none⟩,
 ⟨some 7, .bin .eql (.cp 6) (.c (.int .i64 0)), none⟩,
 ⟨some 3, .mov (.cp 7), none⟩] [] [3]
noncomputable abbrev C103_3 : LCode := .seq C103_2 .ret
noncomputable abbrev C103_4 : LCode := .seq C103_1 C103_3
noncomputable def L_tcomp_known_1 : LF := { np := 1, res := [.tmp 3], keepRes := false, body := C103_4 }
noncomputable abbrev C39_1 : LCode := .region false 0 [
 ⟨some 2, .box (.mv 0), none⟩,
 ⟨some 4, .mov (.c (.bool false)), none⟩] [] [1, 2]
noncomputable abbrev C39_2 : LCode := .region false 0 [
 ⟨some 5, .mov (.cp 1), none⟩,
 ⟨some 6, .call N_kind_May [.cp 5], none⟩,
 ⟨some 7, .mov (.cp 6), none⟩,
 ⟨some 8, .mov (.cp 1), some (7, true)⟩,
 ⟨some 9, .call N_kind_Names [.cp 8], some (7, true)⟩,
 ⟨some 10, .mkfn N_tcomp_known_1 [.cp 2], some (7, true)⟩,
 ⟨some 11, .call N_slices_ContainsFunc_string_string [.cp 9, .cp 10], some (7, true)⟩,
 ⟨some 12, .un .not (.cp 11), some (7, true)⟩,
 ⟨some 13, .pick (.cp 7) (.cp 12) (.c (.bool false)), none⟩,
 ⟨some 4, .mov (.cp 13), none⟩] [] [4]
noncomputable abbrev C39_3 : LCode := .seq C39_2 .ret
noncomputable abbrev C39_4 : LCode := .seq C39_1 C39_3
noncomputable def L_tcomp_known : LF := { np := 2, res := [.tmp 4], keepRes := false, body := C39_4 }
noncomputable abbrev C77_1 : LCode := .region false 0 [
 ⟨some 4, .mov (.c (.bool false)), none⟩] [] [0, 1]
noncomputable abbrev C77_2 : LCode := .region false 0 [
 ⟨some 5, .mov (.cp 0), none⟩] [] [1, 5]
noncomputable abbrev C77_3 : LCode := .region false 0 [
 ⟨some 7, .bin .eql (.cp 5) (.c (.int .i64 3)), none⟩,
 ⟨some 6, .mov (.cp 7), none⟩] [] [1, 5, 6]
noncomputable abbrev C77_4 : LCode := .region false 0 [
 ⟨some 8, .mov (.cp 1), none⟩,
 ⟨some 9, .mov (.cp 1), none⟩,
 ⟨some 10, .conv .i8 (.cp 9), none⟩,
 ⟨some 11, .conv .i64 (.cp 10), none⟩,
 ⟨some 12, .bin .eql (.cp 8) (.cp 11), none⟩,
 ⟨some 4, .mov (.cp 12), none⟩] [] [4]
noncomputable abbrev C77_5 : LCode := .seq C77_4 .ret
noncomputable abbrev C77_6 : LCode := .region false 0 [
 ⟨some 14, .bin .eql (.cp 5) (.c (.int .i64 6)), none⟩,
 ⟨some 13, .mov (.cp 14), none⟩] [] [1, 5, 13]
noncomputable abbrev C77_7 : LCode := .region false 0 [
 ⟨some 15, .mov (.cp 1), none⟩,
 ⟨some 16, .mov (.cp 1), none⟩,
 ⟨some 17, .conv .i16 (.cp 16), none⟩,
 ⟨some 18, .conv .i64 (.cp 17), none⟩,
 ⟨some 19, .bin .eql (.cp 15) (.cp 18), none⟩,
 ⟨some 4, .mov (.cp 19), none⟩] [] [4]
noncomputable abbrev C77_8 : LCode := .seq C77_7 .ret
noncomputable abbrev C77_9 : LCode := .region false 0 [
 ⟨some 21, .bin .eql (.cp 5) (.c (.int .i64 8)), none⟩,
 ⟨some 20, .mov (.cp 21), none⟩] [] [1, 20]
noncomputable abbrev C77_10 : LCode := .region false 0 [
 ⟨some 22, .mov (.cp 1), none⟩,
 ⟨some 23, .mov (.cp 1), none⟩,
 ⟨some 24, .conv .i32 (.cp 23), none⟩,
 ⟨some 25, .conv .i64 (.cp 24), none⟩,
 ⟨some 26, .bin .eql (.cp 22) (.cp 25), none⟩,
 ⟨some 4, .mov (.cp 26), none⟩] [] [4]
noncomputable abbrev C77_11 : LCode := .seq C77_10 .ret
noncomputable abbrev C77_12 : LCode := .cond (.cp 20) C77_11 .skip
noncomputable abbrev C77_13 : LCode := .seq C77_9 C77_12
noncomputable abbrev C77_14 : LCode := .cond (.cp 13) C77_8 C77_13
noncomputable abbrev C77_15 : LCode := .seq C77_6 C77_14
noncomputable abbrev C77_16 : LCode := .cond (.cp 6) C77_5 C77_15
noncomputable abbrev C77_17 : LCode := .seq C77_3 C77_16
noncomputable abbrev C77_18 : LCode := .block 0 C77_17
noncomputable abbrev C77_19 : LCode := .seq C77_2 C77_18
noncomputable abbrev C77_20 : LCode := .region false 0 [
 ⟨some 4, .mov (.c (.bool true)), none⟩] [] [4]
noncomputable abbrev C77_21 : LCode := .seq C77_20 .ret
noncomputable abbrev C77_22 : LCode := .seq C77_19 C77_21
noncomputable abbrev C77_23 : LCode := .seq C77_1 C77_22
noncomputable def L_value_fits : LF := { np := 2, res := [.tmp 4], keepRes := false, body := C77_23 }
noncomputable abbrev C137_1 : LCode := .region false 0 [
 ⟨some 2, .mov (.c (.int .i64 0)), none⟩] [] [0]
noncomputable abbrev C137_2 : LCode := .region false 0 [
 ⟨some 8, .mov (.cp 0), none⟩,
 ⟨some 9, .idx (.cp 8) (.c (.int .i64 0)), none⟩,
 ⟨some 3, .mov (.cp 9), none⟩] [] [0, 3]
noncomputable abbrev C137_3 : LCode := .region false 0 [
 ⟨some 4, .mov (.c (.int .i64 0)), none⟩,
 ⟨some 5, .mov (.c (.int .i32 0)), none⟩] [] [0, 3, 4, 5]
noncomputable abbrev C137_4 : LCode := .region false 0 [
 ⟨some 11, .mov (.cp 3), none⟩,
 ⟨some 12, .bin .lss (.cp 11) (.c (.int .u8 128)), none⟩,
 ⟨some 10, .mov (.cp 12), none⟩] [] [0, 3, 4, 5, 10]
noncomputable abbrev C137_5 : LCode := .region false 0 [
 ⟨some 2, .mov (.c (.int .i64 1)), none⟩] [] [2]
noncomputable abbrev C137_6 : LCode := .seq C137_5 .ret
noncomputable abbrev C137_7 : LCode := .region false 0 [
 ⟨some 14, .mov (.cp 3), none⟩,
 ⟨some 15, .bin .shr (.cp 14) (.c (.int .u64 5)), none⟩,
 ⟨some 16, .bin .eql (.cp 15) (.c (.int .u8 6)), none⟩,
 ⟨some 13, .mov (.cp 16), none⟩] [] [0, 3, 4, 5, 13]
noncomputable abbrev C137_8 : LCode := .region false 0 [
 ⟨some 4, .mov (.c (.int .i64 2)), none⟩,
 ⟨some 5, .mov (.c (.int .i32 128)), none⟩] [] [0, 3, 4, 5]
noncomputable abbrev C137_9 : LCode := .region false 0 [
 ⟨some 18, .mov (.cp 3), none⟩,
 ⟨some 19, .bin .shr (.cp 18) (.c (.int .u64 4)), none⟩,
 ⟨some 20, .bin .eql (.cp 19) (.c (.int .u8 14)), none⟩,
 ⟨some 17, .mov (.cp 20), none⟩] [] [0, 3, 4, 5, 17]
noncomputable abbrev C137_10 : LCode := .region false 0 [
 ⟨some 4, .mov (.c (.int .i64 3)), none⟩,
 ⟨some 5, .mov (.c (.int .i32 2048)), none⟩] [] [0, 3, 4, 5]
noncomputable abbrev C137_11 : LCode := .region false 0 [
 ⟨some 22, .mov (.cp 3), none⟩,
 ⟨some 23, .bin .shr (.cp 22) (.c (.int .u64 3)), none⟩,
 ⟨some 24, .bin .eql (.cp 23) (.c (.int .u8 30)), none⟩,
 ⟨some 21, .mov (.cp 24), none⟩] [] [0, 3, 4, 5, 21]
noncomputable abbrev C137_12 : LCode := .region false 0 [
 ⟨some 4, .mov (.c (.int .i64 4)), none⟩,
 ⟨some 5, .mov (.c (.int .i32 65536)), none⟩] [] [0, 3, 4, 5]
noncomputable abbrev C137_13 : LCode := .cond (.cp 21) C137_12 .skip
noncomputable abbrev C137_14 : LCode := .seq C137_11 C137_13
noncomputable abbrev C137_15 : LCode := .cond (.cp 17) C137_10 C137_14
noncomputable abbrev C137_16 : LCode := .seq C137_9 C137_15
noncomputable abbrev C137_17 : LCode := .cond (.cp 13) C137_8 C137_16
noncomputable abbrev C137_18 : LCode := .seq C137_7 C137_17
noncomputable abbrev C137_19 : LCode := .cond (.cp 10) C137_6 C137_18
noncomputable abbrev C137_20 : LCode := .seq C137_4 C137_19
noncomputable abbrev C137_21 : LCode := .block 0 C137_20
noncomputable abbrev C137_22 : LCode := .region false 0 [
 ⟨some 25, .mov (.cp 4), none⟩,
 ⟨some 26, .bin .eql (.cp 25) (.c (.int .i64 0)), none⟩,
 ⟨some 27, .mov (.cp 26), none⟩,
 ⟨some 28, .mov (.cp 0), some (27, false)⟩,
 ⟨some 29, .len true (.cp 28), some (27, false)⟩,
 ⟨some 30, .mov (.cp 4), some (27, false)⟩,
 ⟨some 31, .bin .lss (.cp 29) (.cp 30), some (27, false)⟩,
 ⟨some 32, .pick (.cp 27) (.c (.bool true)) (.cp 31), none⟩] [] [0, 3, 4, 5, 32]
noncomputable abbrev C137_23 : LCode := .region false 0 [
 ⟨some 2, .mov (.c (.int .i64 0)), none⟩] [] [2]
noncomputable abbrev C137_24 : LCode := .seq C137_23 .ret
noncomputable abbrev C137_25 : LCode := .cond (.cp 32) C137_24 .skip
noncomputable abbrev C137_26 : LCode := .seq C137_22 C137_25
noncomputable abbrev C137_27 : LCode := .region false 0 [
 ⟨some 33, .mov (.cp 3), none⟩,
 ⟨some 34, .conv .i32 (.cp 33), none⟩,
 ⟨some 35, .mov (.cp 4), none⟩,
 ⟨some 36, .bin .shr (.c (.int .i32 127)) (.cp 35), none⟩,
 ⟨some 37, .bin .and (.cp 34) (.cp 36), none⟩,
 ⟨some 6, .mov (.cp 37), none⟩] [] [0, 4, 5, 6]
noncomputable abbrev C137_28 : LCode := .region false 0 [
 ⟨some 7, .mov (.c (.int .i64 1)), none⟩] [] [0, 4, 5, 6, 7]
noncomputable abbrev C137_29 : LCode := .region false 0 [
 ⟨some 38, .mov (.cp 7), none⟩,
 ⟨some 39, .mov (.cp 4), none⟩,
 ⟨some 40, .bin .lss (.cp 38) (.cp 39), none⟩] [] [0, 4, 5, 6, 7, 40]
noncomputable abbrev C137_30 : LCode := .cond (.cp 40) .skip (.exit 1)
noncomputable abbrev C137_31 : LCode := .seq C137_29 C137_30
noncomputable abbrev C137_32 : LCode := .region false 0 [
 ⟨some 43, .mov (.cp 0), none⟩,
 ⟨some 44, .mov (.cp 7), none⟩,
 ⟨some 45, .idx (.cp 43) (.cp 44), none⟩,
 ⟨some 46, .bin .shr (.cp 45) (.c (.int .u64 6)), none⟩,
 ⟨some 47, .bin .neq (.cp 46) (.c (.int .u8 2)), none⟩] [] [0, 4, 5, 6, 7, 47]
noncomputable abbrev C137_33 : LCode := .region false 0 [
 ⟨some 2, .mov (.c (.int .i64 0)), none⟩] [] [2]
noncomputable abbrev C137_34 : LCode := .seq C137_33 .ret
noncomputable abbrev C137_35 : LCode := .cond (.cp 47) C137_34 .skip
noncomputable abbrev C137_36 : LCode := .seq C137_32 C137_35
noncomputable abbrev C137_37 : LCode := .region false 0 [
 ⟨some 48, .mov (.cp 6), none⟩,
 ⟨some 49, .bin .shl (.cp 48) (.c (.int .u64 6)), none⟩,
 ⟨some 50, .mov (.cp 0), none⟩,
 ⟨some 51, .mov (.cp 7), none⟩,
 ⟨some 52, .idx (.cp 50) (.cp 51), none⟩,
 ⟨some 53, .bin .and (.cp 52) (.c (.int .u8 63)), none⟩,
 ⟨some 54, .conv .i32 (.cp 53), none⟩,
 ⟨some 55, .bin .or (.cp 49) (.cp 54), none⟩,
 ⟨some 6, .mov (.cp 55), none⟩] [] [0, 4, 5, 6, 7]
noncomputable abbrev C137_38 : LCode := .seq C137_36 C137_37
noncomputable abbrev C137_39 : LCode := .block 2 C137_38
noncomputable abbrev C137_40 : LCode := .region false 0 [
 ⟨some 41, .mov (.cp 7), none⟩,
 ⟨some 42, .bin .add (.cp 41) (.c (.int .i64 1)), none⟩,
 ⟨some 7, .mov (.cp 42), none⟩] [] [0, 4, 5, 6, 7]
noncomputable abbrev C137_41 : LCode := .seq C137_39 C137_40
noncomputable def C137_42 : LCode := .seq C137_31 C137_41
noncomputable abbrev C137_43 : LCode := .gc (.only [0, 4, 5, 6, 7] C137_42)
noncomputable abbrev C137_44 : LCode := .only [0, 4, 5, 6, 7] (.loop C137_43)
noncomputable abbrev C137_45 : LCode := .block 1 C137_44
noncomputable abbrev C137_46 : LCode := .seq C137_28 C137_45
noncomputable abbrev C137_47 : LCode := .region false 0 [
 ⟨some 56, .mov (.cp 6), none⟩,
 ⟨some 57, .mov (.cp 5), none⟩,
 ⟨some 58, .bin .lss (.cp 56) (.cp 57), none⟩,
 ⟨some 59, .mov (.cp 58), none⟩,
 ⟨some 60, .mov (.cp 6), some (59, false)⟩,
 ⟨some 61, .bin .gtr (.cp 60) (.c (.int .i32 1114111)), some (59, false)⟩,
 ⟨some 62, .pick (.cp 59) (.c (.bool true)) (.cp 61), none⟩,
 ⟨some 63, .mov (.cp 62), none⟩,
 ⟨some 64, .mov (.cp 6), some (63, false)⟩,
 ⟨some 65, .bin .geq (.cp 64) (.c (.int .i32 55296)), some (63, false)⟩,
 ⟨some 66, .mov (.cp 65), some (63, false)⟩,
 ⟨some 67, .mov (.cp 6), some (66, true)⟩,
 ⟨some 68, .bin .leq (.cp 67) (.c (.int .i32 57343)), some (66, true)⟩,
 ⟨some 69, .pick (.cp 66) (.cp 68) (.c (.bool false)), some (63, false)⟩,
 ⟨some 70, .pick (.cp 63) (.c (.bool true)) (.cp 69), none⟩] [] [4, 70]
noncomputable abbrev C137_48 : LCode := .region false 0 [
 ⟨some 2, .mov (.c (.int .i64 0)), none⟩] [] [2]
noncomputable abbrev C137_49 : LCode := .seq C137_48 .ret
noncomputable abbrev C137_50 : LCode := .cond (.cp 70) C137_49 .skip
noncomputable abbrev C137_51 : LCode := .seq C137_47 C137_50
noncomputable abbrev C137_52 : LCode := .region false 0 [
 ⟨some 71, .mov (.cp 4), none⟩,
 ⟨some 2, .mov (.cp 71), none⟩] [] [2]
noncomputable abbrev C137_53 : LCode := .seq C137_52 .ret
noncomputable abbrev C137_54 : LCode := .seq C137_51 C137_53
noncomputable abbrev C137_55 : LCode := .seq C137_46 C137_54
noncomputable def C137_56 : LCode := .seq C137_27 C137_55
noncomputable abbrev C137_57 : LCode := .only [0, 3, 4, 5] C137_56
noncomputable def C137_58 : LCode := .seq C137_26 C137_57
noncomputable abbrev C137_59 : LCode := .only [0, 3, 4, 5] C137_58
noncomputable abbrev C137_60 : LCode := .seq C137_21 C137_59
noncomputable abbrev C137_61 : LCode := .seq C137_3 C137_60
noncomputable abbrev C137_62 : LCode := .seq C137_2 C137_61
noncomputable abbrev C137_63 : LCode := .seq C137_1 C137_62
noncomputable def L_value_size : LF := { np := 1, res := [.tmp 2], keepRes := false, body := C137_63 }
noncomputable abbrev C78_1 : LCode := .region false 0 [
 ⟨some 2, .mov (.c (.bool false)), none⟩] [] [0]
noncomputable abbrev C78_2 : LCode := .region false 0 [
 ⟨some 4, .mov (.cp 0), none⟩,
 ⟨some 5, .bin .neq (.cp 4) (.c (.str [])), none⟩] [] [0, 5]
noncomputable abbrev C78_3 : LCode := .cond (.cp 5) .skip (.exit 0)
noncomputable abbrev C78_4 : LCode := .seq C78_2 C78_3
noncomputable abbrev C78_5 : LCode := .region false 0 [
 ⟨some 6, .mov (.cp 0), none⟩,
 ⟨some 7, .call N_value_size [.cp 6], none⟩,
 ⟨some 3, .mov (.cp 7), none⟩] [] [0, 3]
noncomputable abbrev C78_6 : LCode := .region false 0 [
 ⟨some 8, .mov (.cp 3), none⟩,
 ⟨some 9, .bin .eql (.cp 8) (.c (.int .i64 0)), none⟩] [] [0, 3, 9]
noncomputable abbrev C78_7 : LCode := .region false 0 [
 ⟨some 2, .mov (.c (.bool false)), none⟩] [] [2]
noncomputable abbrev C78_8 : LCode := .seq C78_7 .ret
noncomputable abbrev C78_9 : LCode := .cond (.cp 9) C78_8 .skip
noncomputable abbrev C78_10 : LCode := .seq C78_6 C78_9
noncomputable abbrev C78_11 : LCode := .region false 0 [
 ⟨some 10, .mov (.cp 0), none⟩,
 ⟨some 11, .mov (.cp 3), none⟩,
 ⟨some 12, .slice none (.cp 10) (some (.cp 11)) none, none⟩,
 ⟨some 0, .mov (.cp 12), none⟩] [] [0]
noncomputable abbrev C78_12 : LCode := .seq C78_10 C78_11
noncomputable abbrev C78_13 : LCode := .seq C78_5 C78_12
noncomputable abbrev C78_14 : LCode := .block 1 C78_13
noncomputable def C78_15 : LCode := .seq C78_4 C78_14
noncomputable abbrev C78_16 : LCode := .gc (.only [0] C78_15)
noncomputable abbrev C78_17 : LCode := .only [0] (.loop C78_16)
noncomputable abbrev C78_18 : LCode := .block 0 C78_17
noncomputable abbrev C78_19 : LCode := .region false 0 [
 ⟨some 2, .mov (.c (.bool true)), none⟩] [] [2]
noncomputable abbrev C78_20 : LCode := .seq C78_19 .ret
noncomputable abbrev C78_21 : LCode := .seq C78_18 C78_20
noncomputable abbrev C78_22 : LCode := .seq C78_1 C78_21
noncomputable def L_value_Valid : LF := { np := 1, res := [.tmp 2], keepRes := false, body := C78_22 }
noncomputable abbrev C79_1 : LCode := .region false 0 [
 ⟨some 5, .box (.mv 0), none⟩,
 ⟨some 10, .mov (.c (.bool false)), none⟩] [] [1, 2, 3, 4, 5]
noncomputable abbrev C79_2 : LCode := .region false 0 [
 ⟨some 12, .mov (.cp 3), none⟩,
 ⟨some 11, .mov (.cp 12), none⟩] [] [1, 2, 4, 5, 11]
noncomputable abbrev C79_3 : LCode := .region false 0 [
 ⟨some 13, .mov (.cp 11), none⟩,
 ⟨some 14, .mov (.cp 2), none⟩,
 ⟨some 15, .len false (.cp 14), none⟩,
 ⟨some 16, .bin .lss (.cp 13) (.cp 15), none⟩] [] [1, 2, 4, 5, 11, 16]
noncomputable abbrev C79_4 : LCode := .cond (.cp 16) .skip (.exit 0)
noncomputable abbrev C79_5 : LCode := .seq C79_3 C79_4
noncomputable abbrev C79_6 : LCode := .region true 0 [
 ⟨some 20, .load false (some 3) (.cp 5), none⟩,
 ⟨some 21, .mov (.cp 1), none⟩,
 ⟨some 22, .mov (.cp 2), none⟩,
 ⟨some 23, .mov (.cp 11), none⟩,
 ⟨some 24, .iaddr 5 none (.cp 22) (.cp 23), none⟩,
 ⟨some 25, .load false (some 5) (.cp 24), none⟩,
 ⟨some 26, .call N_value_Check [.cp 20, .cp 21, .cp 25], none⟩,
 ⟨some 27, .un .not (.cp 26), none⟩] [(0, 5)] [1, 2, 4, 5, 11, 27]
noncomputable abbrev C79_7 : LCode := .region false 0 [
 ⟨some 10, .mov (.c (.bool false)), none⟩] [] [10]
noncomputable abbrev C79_8 : LCode := .seq C79_7 .ret
noncomputable abbrev C79_9 : LCode := .cond (.cp 27) C79_8 .skip
noncomputable abbrev C79_10 : LCode := .seq C79_6 C79_9
noncomputable abbrev C79_11 : LCode := .block 1 C79_10
noncomputable abbrev C79_12 : LCode := .region false 0 [
 ⟨some 17, .mov (.cp 11), none⟩,
 ⟨some 18, .mov (.cp 4), none⟩,
 ⟨some 19, .bin .add (.cp 17) (.cp 18), none⟩,
 ⟨some 11, .mov (.cp 19), none⟩] [] [1, 2, 4, 5, 11]
noncomputable abbrev C79_13 : LCode := .seq C79_11 C79_12
noncomputable def C79_14 : LCode := .seq C79_5 C79_13
noncomputable abbrev C79_15 : LCode := .gc (.only [1, 2, 4, 5, 11] C79_14)
noncomputable abbrev C79_16 : LCode := .only [1, 2, 4, 5, 11] (.loop C79_15)
noncomputable abbrev C79_17 : LCode := .block 0 C79_16
noncomputable abbrev C79_18 : LCode := .seq C79_2 C79_17
noncomputable abbrev C79_19 : LCode := .region false 0 [
 ⟨some 10, .mov (.c (.bool true)), none⟩] [] [10]
noncomputable abbrev C79_20 : LCode := .seq C79_19 .ret
noncomputable abbrev C79_21 : LCode := .seq C79_18 C79_20
noncomputable abbrev C79_22 : LCode := .seq C79_1 C79_21
noncomputable def L_value_each : LF := { np := 5, res := [.tmp 10], keepRes := false, body := C79_22 }
noncomputable abbrev C202_1 : LCode := .region false 0 [
 ⟨some 2, .mov (.c (.bool false)), none⟩] [] [0]
noncomputable abbrev C202_2 : LCode := .region false 0 [
 ⟨some 3, .mov (.cp 0), none⟩,
 ⟨some 4, .mov (.cp 0), none⟩,
 ⟨some 5, .bin .neq (.cp 3) (.cp 4), none⟩,
 ⟨some 2, .mov (.cp 5), none⟩] [] [2]
noncomputable abbrev C202_3 : LCode := .seq C202_2 .ret
noncomputable abbrev C202_4 : LCode := .seq C202_1 C202_3
noncomputable def L_cmp_isNaN_int : LF := { np := 1, res := [.tmp 2], keepRes := false, body := C202_4 }
noncomputable abbrev C184_1 : LCode := .region false 0 [
 ⟨some 4, .mov (.c (.int .i64 0)), none⟩] [] [0, 1]
noncomputable abbrev C184_2 : LCode := .region false 0 [
 ⟨some 7, .mov (.cp 0), none⟩,
 ⟨some 8, .call N_cmp_isNaN_int [.cp 7], none⟩,
 ⟨some 5, .mov (.cp 8), none⟩] [] [0, 1, 5]
noncomputable abbrev C184_3 : LCode := .region false 0 [
 ⟨some 9, .mov (.cp 1), none⟩,
 ⟨some 10, .call N_cmp_isNaN_int [.cp 9], none⟩,
 ⟨some 6, .mov (.cp 10), none⟩] [] [0, 1, 5, 6]
noncomputable abbrev C184_4 : LCode := .region false 0 [
 ⟨some 11, .mov (.cp 5), none⟩] [] [0, 1, 6, 11]
noncomputable abbrev C184_5 : LCode := .region false 0 [
 ⟨some 12, .mov (.cp 6), none⟩] [] [12]
noncomputable abbrev C184_6 : LCode := .region false 0 [
 ⟨some 4, .mov (.c (.int .i64 0)), none⟩] [] [4]
noncomputable abbrev C184_7 : LCode := .seq C184_6 .ret
noncomputable abbrev C184_8 : LCode := .cond (.cp 12) C184_7 .skip
noncomputable abbrev C184_9 : LCode := .seq C184_5 C184_8
noncomputable abbrev C184_10 : LCode := .region false 0 [
 ⟨some 4, .mov (.c (.int .i64 (-1))), none⟩] [] [4]
noncomputable abbrev C184_11 : LCode := .seq C184_10 .ret
noncomputable abbrev C184_12 : LCode := .seq C184_9 C184_11
noncomputable abbrev C184_13 : LCode := .cond (.cp 11) C184_12 .skip
noncomputable abbrev C184_14 : LCode := .seq C184_4 C184_13
noncomputable abbrev C184_15 : LCode := .region false 0 [
 ⟨some 13, .mov (.cp 6), none⟩] [] [0, 1, 13]
noncomputable abbrev C184_16 : LCode := .region false 0 [
 ⟨some 4, .mov (.c (.int .i64 1)), none⟩] [] [4]
noncomputable abbrev C184_17 : LCode := .seq C184_16 .ret
noncomputable abbrev C184_18 : LCode := .cond (.cp 13) C184_17 .skip
noncomputable abbrev C184_19 : LCode := .seq C184_15 C184_18
noncomputable abbrev C184_20 : LCode := .region false 0 [
 ⟨some 14, .mov (.cp 0), none⟩,
 ⟨some 15, .mov (.cp 1), none⟩,
 ⟨some 16, .bin .lss (.cp 14) (.cp 15), none⟩] [] [0, 1, 16]
noncomputable abbrev C184_21 : LCode := .region false 0 [
 ⟨some 4, .mov (.c (.int .i64 (-1))), none⟩] [] [4]
noncomputable abbrev C184_22 : LCode := .seq C184_21 .ret
noncomputable abbrev C184_23 : LCode := .cond (.cp 16) C184_22 .skip
noncomputable abbrev C184_24 : LCode := .seq C184_20 C184_23
noncomputable abbrev C184_25 : LCode := .region false 0 [
 ⟨some 17, .mov (.cp 0), none⟩,
 ⟨some 18, .mov (.cp 1), none⟩,
 ⟨some 19, .bin .gtr (.cp 17) (.cp 18), none⟩] [] [19]
noncomputable abbrev C184_26 : LCode := .region false 0 [
 ⟨some 4, .mov (.c (.int .i64 1)), none⟩] [] [4]
noncomputable abbrev C184_27 : LCode := .seq C184_26 .ret
noncomputable abbrev C184_28 : LCode := .cond (.cp 19) C184_27 .skip
noncomputable abbrev C184_29 : LCode := .seq C184_25 C184_28
noncomputable abbrev C184_30 : LCode := .region false 0 [
 ⟨some 4, .mov (.c (.int .i64 0)), none⟩] [] [4]
noncomputable abbrev C184_31 : LCode := .seq C184_30 .ret
noncomputable abbrev C184_32 : LCode := .seq C184_29 C184_31
noncomputable abbrev C184_33 : LCode := .seq C184_24 C184_32
noncomputable abbrev C184_34 : LCode := .seq C184_19 C184_33
noncomputable abbrev C184_35 : LCode := .seq C184_14 C184_34
noncomputable abbrev C184_36 : LCode := .seq C184_3 C184_35
noncomputable abbrev C184_37 : LCode := .seq C184_2 C184_36
noncomputable abbrev C184_38 : LCode := .seq C184_1 C184_37
noncomputable def L_cmp_Compare_int : LF := { np := 2, res := [.tmp 4], keepRes := false, body := C184_38 }
noncomputable abbrev C203_1 : LCode := .region false 0 [
 ⟨some 2, .mov (.c (.bool false)), none⟩] [] [0]
noncomputable abbrev C203_2 : LCode := .region false 0 [
 ⟨some 3, .mov (.cp 0), none⟩,
 ⟨some 4, .mov (.cp 0), none⟩,
 ⟨some 5, .bin .neq (.cp 3) (.cp 4), none⟩,
 ⟨some 2, .mov (.cp 5), none⟩] [] [2]
noncomputable abbrev C203_3 : LCode := .seq C203_2 .ret
noncomputable abbrev C203_4 : LCode := .seq C203_1 C203_3
noncomputable def L_cmp_isNaN_int64 : LF := { np := 1, res := [.tmp 2], keepRes := false, body := C203_4 }
noncomputable abbrev C185_1 : LCode := .region false 0 [
 ⟨some 4, .mov (.c (.int .i64 0)), none⟩] [] [0, 1]
noncomputable abbrev C185_2 : LCode := .region false 0 [
 ⟨some 7, .mov (.cp 0), none⟩,
 ⟨some 8, .call N_cmp_isNaN_int64 [.cp 7], none⟩,
 ⟨some 5, .mov (.cp 8), none⟩] [] [0, 1, 5]
noncomputable abbrev C185_3 : LCode := .region false 0 [
 ⟨some 9, .mov (.cp 1), none⟩,
 ⟨some 10, .call N_cmp_isNaN_int64 [.cp 9], none⟩,
 ⟨some 6, .mov (.cp 10), none⟩] [] [0, 1, 5, 6]
noncomputable abbrev C185_4 : LCode := .region false 0 [
 ⟨some 11, .mov (.cp 5), none⟩] [] [0, 1, 6, 11]
noncomputable abbrev C185_5 : LCode := .region false 0 [
 ⟨some 12, .mov (.cp 6), none⟩] [] [12]
noncomputable abbrev C185_6 : LCode := .region false 0 [
 ⟨some 4, .mov (.c (.int .i64 0)), none⟩] [] [4]
noncomputable abbrev C185_7 : LCode := .seq C185_6 .ret
noncomputable abbrev C185_8 : LCode := .cond (.cp 12) C185_7 .skip
noncomputable abbrev C185_9 : LCode := .seq C185_5 C185_8
noncomputable abbrev C185_10 : LCode := .region false 0 [
 ⟨some 4, .mov (.c (.int .i64 (-1))), none⟩] [] [4]
noncomputable abbrev C185_11 : LCode := .seq C185_10 .ret
noncomputable abbrev C185_12 : LCode := .seq C185_9 C185_11
noncomputable abbrev C185_13 : LCode := .cond (.cp 11) C185_12 .skip
noncomputable abbrev C185_14 : LCode := .seq C185_4 C185_13
noncomputable abbrev C185_15 : LCode := .region false 0 [
 ⟨some 13, .mov (.cp 6), none⟩] [] [0, 1, 13]
noncomputable abbrev C185_16 : LCode := .region false 0 [
 ⟨some 4, .mov (.c (.int .i64 1)), none⟩] [] [4]
noncomputable abbrev C185_17 : LCode := .seq C185_16 .ret
noncomputable abbrev C185_18 : LCode := .cond (.cp 13) C185_17 .skip
noncomputable abbrev C185_19 : LCode := .seq C185_15 C185_18
noncomputable abbrev C185_20 : LCode := .region false 0 [
 ⟨some 14, .mov (.cp 0), none⟩,
 ⟨some 15, .mov (.cp 1), none⟩,
 ⟨some 16, .bin .lss (.cp 14) (.cp 15), none⟩] [] [0, 1, 16]
noncomputable abbrev C185_21 : LCode := .region false 0 [
 ⟨some 4, .mov (.c (.int .i64 (-1))), none⟩] [] [4]
noncomputable abbrev C185_22 : LCode := .seq C185_21 .ret
noncomputable abbrev C185_23 : LCode := .cond (.cp 16) C185_22 .skip
noncomputable abbrev C185_24 : LCode := .seq C185_20 C185_23
noncomputable abbrev C185_25 : LCode := .region false 0 [
 ⟨some 17, .mov (.cp 0), none⟩,
 ⟨some 18, .mov (.cp 1), none⟩,
 ⟨some 19, .bin .gtr (.cp 17) (.cp 18), none⟩] [] [19]
noncomputable abbrev C185_26 : LCode := .region false 0 [
 ⟨some 4, .mov (.c (.int .i64 1)), none⟩] [] [4]
noncomputable abbrev C185_27 : LCode := .seq C185_26 .ret
noncomputable abbrev C185_28 : LCode := .cond (.cp 19) C185_27 .skip
noncomputable abbrev C185_29 : LCode := .seq C185_25 C185_28
noncomputable abbrev C185_30 : LCode := .region false 0 [
 ⟨some 4, .mov (.c (.int .i64 0)), none⟩] [] [4]
noncomputable abbrev C185_31 : LCode := .seq C185_30 .ret
noncomputable abbrev C185_32 : LCode := .seq C185_29 C185_31
noncomputable abbrev C185_33 : LCode := .seq C185_24 C185_32
noncomputable abbrev C185_34 : LCode := .seq C185_19 C185_33
noncomputable abbrev C185_35 : LCode := .seq C185_14 C185_34
noncomputable abbrev C185_36 : LCode := .seq C185_3 C185_35
noncomputable abbrev C185_37 : LCode := .seq C185_2 C185_36
noncomputable abbrev C185_38 : LCode := .seq C185_1 C185_37
noncomputable def L_cmp_Compare_int64 : LF := { np := 2, res := [.tmp 4], keepRes := false, body := C185_38 }
noncomputable abbrev C204_1 : LCode := .region false 0 [
 ⟨some 2, .mov (.c (.bool false)), none⟩] [] [0]
noncomputable abbrev C204_2 : LCode := .region false 0 [
 ⟨some 3, .mov (.cp 0), none⟩,
 ⟨some 4, .mov (.cp 0), none⟩,
 ⟨some 5, .bin .neq (.cp 3) (.cp 4), none⟩,
 ⟨some 2, .mov (.cp 5), none⟩] [] [2]
noncomputable abbrev C204_3 : LCode := .seq C204_2 .ret
noncomputable abbrev C204_4 : LCode := .seq C204_1 C204_3
noncomputable def L_cmp_isNaN_uint64 : LF := { np := 1, res := [.tmp 2], keepRes := false, body := C204_4 }
noncomputable abbrev C186_1 : LCode := .region false 0 [
 ⟨some 4, .mov (.c (.int .i64 0)), none⟩] [] [0, 1]
noncomputable abbrev C186_2 : LCode := .region false 0 [
 ⟨some 7, .mov (.cp 0), none⟩,
 ⟨some 8, .call N_cmp_isNaN_uint64 [.cp 7], none⟩,
 ⟨some 5, .mov (.cp 8), none⟩] [] [0, 1, 5]
noncomputable abbrev C186_3 : LCode := .region false 0 [
 ⟨some 9, .mov (.cp 1), none⟩,
 ⟨some 10, .call N_cmp_isNaN_uint64 [.cp 9], none⟩,
 ⟨some 6, .mov (.cp 10), none⟩] [] [0, 1, 5, 6]
noncomputable abbrev C186_4 : LCode := .region false 0 [
 ⟨some 11, .mov (.cp 5), none⟩] [] [0, 1, 6, 11]
noncomputable abbrev C186_5 : LCode := .region false 0 [
 ⟨some 12, .mov (.cp 6), none⟩] [] [12]
noncomputable abbrev C186_6 : LCode := .region false 0 [
 ⟨some 4, .mov (.c (.int .i64 0)), none⟩] [] [4]
noncomputable abbrev C186_7 : LCode := .seq C186_6 .ret
noncomputable abbrev C186_8 : LCode := .cond (.cp 12) C186_7 .skip
noncomputable abbrev C186_9 : LCode := .seq C186_5 C186_8
noncomputable abbrev C186_10 : LCode := .region false 0 [
 ⟨some 4, .mov (.c (.int .i64 (-1))), none⟩] [] [4]
noncomputable abbrev C186_11 : LCode := .seq C186_10 .ret
noncomputable abbrev C186_12 : LCode := .seq C186_9 C186_11
noncomputable abbrev C186_13 : LCode := .cond (.cp 11) C186_12 .skip
noncomputable abbrev C186_14 : LCode := .seq C186_4 C186_13
noncomputable abbrev C186_15 : LCode := .region false 0 [
 ⟨some 13, .mov (.cp 6), none⟩] [] [0, 1, 13]
noncomputable abbrev C186_16 : LCode := .region false 0 [
 ⟨some 4, .mov (.c (.int .i64 1)), none⟩] [] [4]
noncomputable abbrev C186_17 : LCode := .seq C186_16 .ret
noncomputable abbrev C186_18 : LCode := .cond (.cp 13) C186_17 .skip
noncomputable abbrev C186_19 : LCode := .seq C186_15 C186_18
noncomputable abbrev C186_20 : LCode := .region false 0 [
 ⟨some 14, .mov (.cp 0), none⟩,
 ⟨some 15, .mov (.cp 1), none⟩,
 ⟨some 16, .bin .lss (.cp 14) (.cp 15), none⟩] [] [0, 1, 16]
noncomputable abbrev C186_21 : LCode := .region false 0 [
 ⟨some 4, .mov (.c (.int .i64 (-1))), none⟩] [] [4]
noncomputable abbrev C186_22 : LCode := .seq C186_21 .ret
noncomputable abbrev C186_23 : LCode := .cond (.cp 16) C186_22 .skip
noncomputable abbrev C186_24 : LCode := .seq C186_20 C186_23
noncomputable abbrev C186_25 : LCode := .region false 0 [
 ⟨some 17, .mov (.cp 0), none⟩,
 ⟨some 18, .mov (.cp 1), none⟩,
 ⟨some 19, .bin .gtr (.cp 17) (.cp 18), none⟩] [] [19]
noncomputable abbrev C186_26 : LCode := .region false 0 [
 ⟨some 4, .mov (.c (.int .i64 1)), none⟩] [] [4]
noncomputable abbrev C186_27 : LCode := .seq C186_26 .ret
noncomputable abbrev C186_28 : LCode := .cond (.cp 19) C186_27 .skip
noncomputable abbrev C186_29 : LCode := .seq C186_25 C186_28
noncomputable abbrev C186_30 : LCode := .region false 0 [
 ⟨some 4, .mov (.c (.int .i64 0)), none⟩] [] [4]
noncomputable abbrev C186_31 : LCode := .seq C186_30 .ret
noncomputable abbrev C186_32 : LCode := .seq C186_29 C186_31
noncomputable abbrev C186_33 : LCode := .seq C186_24 C186_32
noncomputable abbrev C186_34 : LCode := .seq C186_19 C186_33
noncomputable abbrev C186_35 : LCode := .seq C186_14 C186_34
noncomputable abbrev C186_36 : LCode := .seq C186_3 C186_35
noncomputable abbrev C186_37 : LCode := .seq C186_2 C186_36
noncomputable abbrev C186_38 : LCode := .seq C186_1 C186_37
noncomputable def L_cmp_Compare_uint64 : LF := { np := 2, res := [.tmp 4], keepRes := false, body := C186_38 }
noncomputable abbrev C205_1 : LCode := .region false 0 [
 ⟨some 4, .mov (.c (.int .i64 0)), none⟩] [] [0, 1]
noncomputable abbrev C205_2 : LCode := .region false 0 [
 ⟨some 5, .mov (.cp 0), none⟩,
 ⟨some 6, .mov (.cp 1), none⟩,
 ⟨some 7, .call N_internal_bytealg_abigen_runtime_cmpstring [.cp 5, .cp 6], none⟩,
 ⟨some 4, .mov (.cp 7), none⟩] [] [4]
noncomputable abbrev C205_3 : LCode := .seq C205_2 .ret
noncomputable abbrev C205_4 : LCode := .seq C205_1 C205_3
noncomputable def L_internal_bytealg_CompareString : LF := { np := 2, res := [.tmp 4], keepRes := false, body := C205_4 }
noncomputable abbrev C187_1 : LCode := .region false 0 [
 ⟨some 4, .mov (.c (.int .i64 0)), none⟩] [] [0, 1]
noncomputable abbrev C187_2 : LCode := .region false 0 [
 ⟨some 5, .mov (.cp 0), none⟩,
 ⟨some 6, .mov (.cp 1), none⟩,
 ⟨some 7, .call N_internal_bytealg_CompareString [.cp 5, .cp 6], none⟩,
 ⟨some 4, .mov (.cp 7), none⟩] [] [4]
noncomputable abbrev C187_3 : LCode := .seq C187_2 .ret
noncomputable abbrev C187_4 : LCode := .seq C187_1 C187_3
noncomputable def L_strings_Compare : LF := { np := 2, res := [.tmp 4], keepRes := false, body := C187_4 }
noncomputable abbrev C188_1 : LCode := .region false 0 [
 ⟨some 4, .mov (.c (.int .i64 0)), none⟩] [] [0, 1]
noncomputable abbrev C188_2 : LCode := .region false 0 [
 ⟨some 5, .mov (.mv 0), none⟩,
 ⟨some 6, .mov (.mv 1), none⟩,
 ⟨some 7, .call N_slices_CompareFunc_api_Value_api_Value_api_Value_api_Value [.cp 5, .cp 6, .c (.fn N_order_Cmp [])], none⟩,
 ⟨some 4, .mov (.cp 7), none⟩] [] [4]
noncomputable abbrev C188_3 : LCode := .seq C188_2 .ret
noncomputable abbrev C188_4 : LCode := .seq C188_1 C188_3
noncomputable def L_order_places : LF := { np := 2, res := [.tmp 4], keepRes := false, body := C188_4 }
noncomputable abbrev C189_1 : LCode := .region false 0 [
 ⟨some 2, .box (.mv 0), none⟩,
 ⟨some 3, .box (.mv 1), none⟩,
 ⟨some 4, .mov (.c (.int .i64 0)), none⟩] [] [2, 3]
noncomputable abbrev C189_2 : LCode := .region true 0 [
 ⟨some 10, .faddr (.cp 2) 4, none⟩,
 ⟨some 11, .load false none (.cp 10), none⟩,
 ⟨some 12, .len false (.cp 11), none⟩,
 ⟨some 13, .faddr (.cp 2) 3, none⟩,
 ⟨some 14, .load false none (.cp 13), none⟩,
 ⟨some 15, .len false (.cp 14), none⟩,
 ⟨some 16, .min2 (.cp 12) (.cp 15), none⟩,
 ⟨some 17, .faddr (.cp 3) 4, none⟩,
 ⟨some 18, .load false none (.cp 17), none⟩,
 ⟨some 19, .len false (.cp 18), none⟩,
 ⟨some 20, .faddr (.cp 3) 3, none⟩,
 ⟨some 21, .load false none (.cp 20), none⟩,
 ⟨some 22, .len false (.cp 21), none⟩,
 ⟨some 23, .min2 (.cp 19) (.cp 22), none⟩,
 ⟨some 5, .mov (.cp 16), none⟩,
 ⟨some 6, .mov (.cp 23), none⟩] [(1, 4), (1, 8), (4, 8), (1, 11), (4, 11), (8, 11)] [2, 3, 5, 6]
noncomputable abbrev C189_3 : LCode := .region false 0 [
 ⟨some 24, .mov (.cp 5), none⟩,
 ⟨some 25, .mov (.cp 6), none⟩,
 ⟨some 26, .min2 (.cp 24) (.cp 25), none⟩,
 ⟨some 27, .mov (.c (.int .i64 0)), none⟩] [] [2, 3, 26, 27]
noncomputable abbrev C189_4 : LCode := .region false 0 [
 ⟨some 28, .bin .lss (.cp 27) (.cp 26), none⟩] [] [2, 3, 26, 27, 28]
noncomputable abbrev C189_5 : LCode := .cond (.cp 28) .skip (.exit 0)
noncomputable abbrev C189_6 : LCode := .region false 0 [
 ⟨some 29, .mov (.cp 27), none⟩,
 ⟨some 7, .mov (.cp 29), none⟩] [] [2, 3, 7, 26, 27]
noncomputable abbrev C189_7 : LCode := .region true 0 [
 ⟨some 30, .faddr (.cp 2) 4, none⟩,
 ⟨some 31, .load false none (.cp 30), none⟩,
 ⟨some 32, .mov (.cp 7), none⟩,
 ⟨some 33, .iaddr 1 none (.cp 31) (.cp 32), none⟩,
 ⟨some 34, .load false none (.cp 33), none⟩,
 ⟨some 35, .faddr (.cp 3) 4, none⟩,
 ⟨some 36, .load false none (.cp 35), none⟩,
 ⟨some 37, .mov (.cp 7), none⟩,
 ⟨some 38, .iaddr 1 none (.cp 36) (.cp 37), none⟩,
 ⟨some 39, .load false none (.cp 38), none⟩,
 ⟨some 40, .call N_cmp_Compare_int [.cp 34, .cp 39], none⟩,
 ⟨some 8, .mov (.cp 40), none⟩] [(1, 6), (4, 6), (1, 9), (4, 9)] [2, 3, 7, 8, 26, 27]
noncomputable abbrev C189_8 : LCode := .region false 0 [
 ⟨some 41, .mov (.cp 8), none⟩,
 ⟨some 42, .bin .neq (.cp 41) (.c (.int .i64 0)), none⟩] [] [2, 3, 7, 8, 26, 27, 42]
noncomputable abbrev C189_9 : LCode := .region false 0 [
 ⟨some 43, .mov (.cp 8), none⟩,
 ⟨some 4, .mov (.cp 43), none⟩] [] [4]
noncomputable abbrev C189_10 : LCode := .seq C189_9 .ret
noncomputable abbrev C189_11 : LCode := .cond (.cp 42) C189_10 .skip
noncomputable abbrev C189_12 : LCode := .seq C189_8 C189_11
noncomputable abbrev C189_13 : LCode := .seq C189_7 C189_12
noncomputable abbrev C189_14 : LCode := .region true 0 [
 ⟨some 44, .faddr (.cp 2) 3, none⟩,
 ⟨some 45, .load false none (.cp 44), none⟩,
 ⟨some 46, .mov (.cp 7), none⟩,
 ⟨some 47, .iaddr 5 none (.cp 45) (.cp 46), none⟩,
 ⟨some 48, .load false (some 5) (.cp 47), none⟩,
 ⟨some 49, .faddr (.cp 3) 3, none⟩,
 ⟨some 50, .load false none (.cp 49), none⟩,
 ⟨some 51, .mov (.cp 7), none⟩,
 ⟨some 52, .iaddr 5 none (.cp 50) (.cp 51), none⟩,
 ⟨some 53, .load false (some 5) (.cp 52), none⟩,
 ⟨some 54, .call N_order_Cmp [.cp 48, .cp 53], none⟩,
 ⟨some 9, .mov (.cp 54), none⟩] [(1, 6), (4, 6), (1, 9), (4, 9)] [2, 3, 9, 26, 27]
noncomputable abbrev C189_15 : LCode := .region false 0 [
 ⟨some 55, .mov (.cp 9), none⟩,
 ⟨some 56, .bin .neq (.cp 55) (.c (.int .i64 0)), none⟩] [] [2, 3, 9, 26, 27, 56]
noncomputable abbrev C189_16 : LCode := .region false 0 [
 ⟨some 57, .mov (.cp 9), none⟩,
 ⟨some 4, .mov (.cp 57), none⟩] [] [4]
noncomputable abbrev C189_17 : LCode := .seq C189_16 .ret
noncomputable abbrev C189_18 : LCode := .cond (.cp 56) C189_17 .skip
noncomputable abbrev C189_19 : LCode := .seq C189_15 C189_18
noncomputable abbrev C189_20 : LCode := .seq C189_14 C189_19
noncomputable abbrev C189_21 : LCode := .seq C189_13 C189_20
noncomputable abbrev C189_22 : LCode := .seq C189_6 C189_21
noncomputable abbrev C189_23 : LCode := .block 1 C189_22
noncomputable abbrev C189_24 : LCode := .region false 0 [
 ⟨some 58, .bin .add (.cp 27) (.c (.int .i64 1)), none⟩,
 ⟨some 27, .mov (.cp 58), none⟩] [] [2, 3, 26, 27]
noncomputable abbrev C189_25 : LCode := .seq C189_23 C189_24
noncomputable abbrev C189_26 : LCode := .seq C189_5 C189_25
noncomputable def C189_27 : LCode := .seq C189_4 C189_26
noncomputable abbrev C189_28 : LCode := .gc (.only [2, 3, 26, 27] C189_27)
noncomputable abbrev C189_29 : LCode := .only [2, 3, 26, 27] (.loop C189_28)
noncomputable abbrev C189_30 : LCode := .block 0 C189_29
noncomputable abbrev C189_31 : LCode := .seq C189_3 C189_30
noncomputable abbrev C189_32 : LCode := .region false 0 [
 ⟨some 59, .faddr (.cp 2) 3, none⟩,
 ⟨some 60, .load false none (.cp 59), none⟩,
 ⟨some 61, .len false (.cp 60), none⟩,
 ⟨some 62, .faddr (.cp 3) 3, none⟩,
 ⟨some 63, .load false none (.cp 62), none⟩,
 ⟨some 64, .len false (.cp 63), none⟩,
 ⟨some 65, .call N_cmp_Compare_int [.cp 61, .cp 64], none⟩,
 ⟨some 4, .mov (.cp 65), none⟩] [] [4]
noncomputable abbrev C189_33 : LCode := .seq C189_32 .ret
noncomputable abbrev C189_34 : LCode := .seq C189_31 C189_33
noncomputable abbrev C189_35 : LCode := .seq C189_2 C189_34
noncomputable abbrev C189_36 : LCode := .seq C189_1 C189_35
noncomputable def L_order_structs : LF := { np := 2, res := [.tmp 4], keepRes := false, body := C189_36 }
noncomputable abbrev C138_1 : LCode := .region false 0 [
 ⟨some 2, .box (.mv 0), none⟩,
 ⟨some 3, .box (.mv 1), none⟩,
 ⟨some 4, .mov (.c (.int .i64 0)), none⟩] [] [2, 3]
noncomputable abbrev C138_2 : LCode := .region false 0 [
 ⟨some 6, .faddr (.cp 2) 0, none⟩,
 ⟨some 7, .load false none (.cp 6), none⟩,
 ⟨some 8, .faddr (.cp 3) 0, none⟩,
 ⟨some 9, .load false none (.cp 8), none⟩,
 ⟨some 10, .call N_cmp_Compare_int [.cp 7, .cp 9], none⟩,
 ⟨some 5, .mov (.cp 10), none⟩] [] [2, 3, 5]
noncomputable abbrev C138_3 : LCode := .region false 0 [
 ⟨some 11, .mov (.cp 5), none⟩,
 ⟨some 12, .bin .neq (.cp 11) (.c (.int .i64 0)), none⟩] [] [2, 3, 5, 12]
noncomputable abbrev C138_4 : LCode := .region false 0 [
 ⟨some 13, .mov (.cp 5), none⟩,
 ⟨some 4, .mov (.cp 13), none⟩] [] [4]
noncomputable abbrev C138_5 : LCode := .seq C138_4 .ret
noncomputable abbrev C138_6 : LCode := .cond (.cp 12) C138_5 .skip
noncomputable abbrev C138_7 : LCode := .seq C138_3 C138_6
noncomputable abbrev C138_8 : LCode := .seq C138_2 C138_7
noncomputable abbrev C138_9 : LCode := .region false 0 [
 ⟨some 14, .faddr (.cp 2) 0, none⟩,
 ⟨some 15, .load false none (.cp 14), none⟩] [] [2, 3, 15]
noncomputable abbrev C138_10 : LCode := .region false 0 [
 ⟨some 17, .bin .eql (.cp 15) (.c (.int .i64 2)), none⟩,
 ⟨some 16, .mov (.cp 17), none⟩] [] [2, 3, 15, 16]
noncomputable abbrev C138_11 : LCode := .region false 0 [
 ⟨some 18, .bin .eql (.cp 15) (.c (.int .i64 3)), none⟩,
 ⟨some 16, .mov (.cp 18), none⟩] [] [2, 3, 15, 16]
noncomputable abbrev C138_12 : LCode := .region false 0 [
 ⟨some 19, .bin .eql (.cp 15) (.c (.int .i64 6)), none⟩,
 ⟨some 16, .mov (.cp 19), none⟩] [] [2, 3, 15, 16]
noncomputable abbrev C138_13 : LCode := .region false 0 [
 ⟨some 20, .bin .eql (.cp 15) (.c (.int .i64 8)), none⟩,
 ⟨some 16, .mov (.cp 20), none⟩] [] [2, 3, 15, 16]
noncomputable abbrev C138_14 : LCode := .region false 0 [
 ⟨some 21, .bin .eql (.cp 15) (.c (.int .i64 10)), none⟩,
 ⟨some 16, .mov (.cp 21), none⟩] [] [2, 3, 15, 16]
noncomputable abbrev C138_15 : LCode := .region false 0 [
 ⟨some 22, .bin .eql (.cp 15) (.c (.int .i64 17)), none⟩,
 ⟨some 16, .mov (.cp 22), none⟩] [] [2, 3, 15, 16]
noncomputable abbrev C138_16 : LCode := .cond (.cp 16) .skip C138_15
noncomputable abbrev C138_17 : LCode := .seq C138_14 C138_16
noncomputable abbrev C138_18 : LCode := .cond (.cp 16) .skip C138_17
noncomputable abbrev C138_19 : LCode := .seq C138_13 C138_18
noncomputable abbrev C138_20 : LCode := .cond (.cp 16) .skip C138_19
noncomputable abbrev C138_21 : LCode := .seq C138_12 C138_20
noncomputable abbrev C138_22 : LCode := .cond (.cp 16) .skip C138_21
noncomputable abbrev C138_23 : LCode := .seq C138_11 C138_22
noncomputable abbrev C138_24 : LCode := .cond (.cp 16) .skip C138_23
noncomputable abbrev C138_25 : LCode := .seq C138_10 C138_24
noncomputable abbrev C138_26 : LCode := .region false 0 [
 ⟨some 23, .faddr (.cp 2) 1, none⟩,
 ⟨some 24, .load false none (.cp 23), none⟩,
 ⟨some 25, .faddr (.cp 3) 1, none⟩,
 ⟨some 26, .load false none (.cp 25), none⟩,
 ⟨some 27, .call N_cmp_Compare_int64 [.cp 24, .cp 26], none⟩,
 ⟨some 4, .mov (.cp 27), none⟩] [] [4]
noncomputable abbrev C138_27 : LCode := .seq C138_26 .ret
noncomputable abbrev C138_28 : LCode := .region false 0 [
 ⟨some 29, .bin .eql (.cp 15) (.c (.int .i64 4)), none⟩,
 ⟨some 28, .mov (.cp 29), none⟩] [] [2, 3, 15, 28]
noncomputable abbrev C138_29 : LCode := .region false 0 [
 ⟨some 30, .faddr (.cp 2) 1, none⟩,
 ⟨some 31, .load false none (.cp 30), none⟩,
 ⟨some 32, .conv .u64 (.cp 31), none⟩,
 ⟨some 33, .faddr (.cp 3) 1, none⟩,
 ⟨some 34, .load false none (.cp 33), none⟩,
 ⟨some 35, .conv .u64 (.cp 34), none⟩,
 ⟨some 36, .call N_cmp_Compare_uint64 [.cp 32, .cp 35], none⟩,
 ⟨some 4, .mov (.cp 36), none⟩] [] [4]
noncomputable abbrev C138_30 : LCode := .seq C138_29 .ret
noncomputable abbrev C138_31 : LCode := .region false 0 [
 ⟨some 38, .bin .eql (.cp 15) (.c (.int .i64 11)), none⟩,
 ⟨some 37, .mov (.cp 38), none⟩] [] [2, 3, 15, 37]
noncomputable abbrev C138_32 : LCode := .region false 0 [
 ⟨some 39, .bin .eql (.cp 15) (.c (.int .i64 16)), none⟩,
 ⟨some 37, .mov (.cp 39), none⟩] [] [2, 3, 15, 37]
noncomputable abbrev C138_33 : LCode := .cond (.cp 37) .skip C138_32
noncomputable abbrev C138_34 : LCode := .seq C138_31 C138_33
noncomputable abbrev C138_35 : LCode := .region false 0 [
 ⟨some 40, .faddr (.cp 2) 2, none⟩,
 ⟨some 41, .load false none (.cp 40), none⟩,
 ⟨some 42, .faddr (.cp 3) 2, none⟩,
 ⟨some 43, .load false none (.cp 42), none⟩,
 ⟨some 44, .call N_strings_Compare [.cp 41, .cp 43], none⟩,
 ⟨some 4, .mov (.cp 44), none⟩] [] [4]
noncomputable abbrev C138_36 : LCode := .seq C138_35 .ret
noncomputable abbrev C138_37 : LCode := .region false 0 [
 ⟨some 46, .bin .eql (.cp 15) (.c (.int .i64 15)), none⟩,
 ⟨some 45, .mov (.cp 46), none⟩] [] [2, 3, 15, 45]
noncomputable abbrev C138_38 : LCode := .region false 0 [
 ⟨some 47, .bin .eql (.cp 15) (.c (.int .i64 14)), none⟩,
 ⟨some 45, .mov (.cp 47), none⟩] [] [2, 3, 15, 45]
noncomputable abbrev C138_39 : LCode := .region false 0 [
 ⟨some 48, .bin .eql (.cp 15) (.c (.int .i64 13)), none⟩,
 ⟨some 45, .mov (.cp 48), none⟩] [] [2, 3, 15, 45]
noncomputable abbrev C138_40 : LCode := .cond (.cp 45) .skip C138_39
noncomputable abbrev C138_41 : LCode := .seq C138_38 C138_40
noncomputable abbrev C138_42 : LCode := .cond (.cp 45) .skip C138_41
noncomputable abbrev C138_43 : LCode := .seq C138_37 C138_42
noncomputable abbrev C138_44 : LCode := .region false 0 [
 ⟨some 49, .faddr (.cp 2) 3, none⟩,
 ⟨some 50, .load false none (.cp 49), none⟩,
 ⟨some 51, .faddr (.cp 3) 3, none⟩,
 ⟨some 52, .load false none (.cp 51), none⟩,
 ⟨some 53, .call N_order_places [.cp 50, .cp 52], none⟩,
 ⟨some 4, .mov (.cp 53), none⟩] [] [4]
noncomputable abbrev C138_45 : LCode := .seq C138_44 .ret
noncomputable abbrev C138_46 : LCode := .region false 0 [
 ⟨some 55, .bin .eql (.cp 15) (.c (.int .i64 12)), none⟩,
 ⟨some 54, .mov (.cp 55), none⟩] [] [2, 3, 54]
noncomputable abbrev C138_47 : LCode := .region false 0 [
 ⟨some 56, .load false (some 5) (.cp 2), none⟩,
 ⟨some 57, .load false (some 5) (.cp 3), none⟩,
 ⟨some 58, .call N_order_structs [.cp 56, .cp 57], none⟩,
 ⟨some 4, .mov (.cp 58), none⟩] [] [4]
noncomputable abbrev C138_48 : LCode := .seq C138_47 .ret
noncomputable abbrev C138_49 : LCode := .cond (.cp 54) C138_48 .skip
noncomputable abbrev C138_50 : LCode := .seq C138_46 C138_49
noncomputable def C138_51 : LCode := .cond (.cp 45) C138_45 C138_50
noncomputable abbrev C138_52 : LCode := .only [2, 3, 15, 45] C138_51
noncomputable abbrev C138_53 : LCode := .seq C138_43 C138_52
noncomputable def C138_54 : LCode := .cond (.cp 37) C138_36 C138_53
noncomputable abbrev C138_55 : LCode := .only [2, 3, 15, 37] C138_54
noncomputable abbrev C138_56 : LCode := .seq C138_34 C138_55
noncomputable abbrev C138_57 : LCode := .cond (.cp 28) C138_30 C138_56
noncomputable abbrev C138_58 : LCode := .seq C138_28 C138_57
noncomputable def C138_59 : LCode := .cond (.cp 16) C138_27 C138_58
noncomputable abbrev C138_60 : LCode := .only [2, 3, 15, 16] C138_59
noncomputable abbrev C138_61 : LCode := .seq C138_25 C138_60
noncomputable abbrev C138_62 : LCode := .block 0 C138_61
noncomputable abbrev C138_63 : LCode := .seq C138_9 C138_62
noncomputable abbrev C138_64 : LCode := .region false 0 [
 ⟨some 4, .mov (.c (.int .i64 0)), none⟩] [] [4]
noncomputable abbrev C138_65 : LCode := .seq C138_64 .ret
noncomputable abbrev C138_66 : LCode := .seq C138_63 C138_65
noncomputable abbrev C138_67 : LCode := .seq C138_8 C138_66
noncomputable abbrev C138_68 : LCode := .seq C138_1 C138_67
noncomputable def L_order_Cmp : LF := { np := 2, res := [.tmp 4], keepRes := false, body := C138_68 }
noncomputable abbrev C80_1 : LCode := .region false 0 [
 ⟨some 4, .mov (.c (.bool false)), none⟩] [] [0, 1]
noncomputable abbrev C80_2 : LCode := .region false 0 [
 ⟨some 6, .mov (.cp 1), none⟩,
 ⟨some 5, .mov (.cp 6), none⟩] [] [0, 1, 5]
noncomputable abbrev C80_3 : LCode := .region false 0 [
 ⟨some 7, .mov (.cp 5), none⟩,
 ⟨some 8, .mov (.cp 0), none⟩,
 ⟨some 9, .len false (.cp 8), none⟩,
 ⟨some 10, .bin .lss (.cp 7) (.cp 9), none⟩] [] [0, 1, 5, 10]
noncomputable abbrev C80_4 : LCode := .cond (.cp 10) .skip (.exit 0)
noncomputable abbrev C80_5 : LCode := .seq C80_3 C80_4
noncomputable abbrev C80_6 : LCode := .region true 0 [
 ⟨some 14, .mov (.cp 0), none⟩,
 ⟨some 15, .mov (.cp 5), none⟩,
 ⟨some 16, .mov (.cp 1), none⟩,
 ⟨some 17, .bin .sub (.cp 15) (.cp 16), none⟩,
 ⟨some 18, .iaddr 5 none (.cp 14) (.cp 17), none⟩,
 ⟨some 19, .load false (some 5) (.cp 18), none⟩,
 ⟨some 20, .mov (.cp 0), none⟩,
 ⟨some 21, .mov (.cp 5), none⟩,
 ⟨some 22, .iaddr 5 none (.cp 20) (.cp 21), none⟩,
 ⟨some 23, .load false (some 5) (.cp 22), none⟩,
 ⟨some 24, .call N_order_Cmp [.cp 19, .cp 23], none⟩,
 ⟨some 25, .bin .geq (.cp 24) (.c (.int .i64 0)), none⟩] [(5, 9)] [0, 1, 5, 25]
noncomputable abbrev C80_7 : LCode := .region false 0 [
 ⟨some 4, .mov (.c (.bool false)), none⟩] [] [4]
noncomputable abbrev C80_8 : LCode := .seq C80_7 .ret
noncomputable abbrev C80_9 : LCode := .cond (.cp 25) C80_8 .skip
noncomputable abbrev C80_10 : LCode := .seq C80_6 C80_9
noncomputable abbrev C80_11 : LCode := .block 1 C80_10
noncomputable abbrev C80_12 : LCode := .region false 0 [
 ⟨some 11, .mov (.cp 5), none⟩,
 ⟨some 12, .mov (.cp 1), none⟩,
 ⟨some 13, .bin .add (.cp 11) (.cp 12), none⟩,
 ⟨some 5, .mov (.cp 13), none⟩] [] [0, 1, 5]
noncomputable abbrev C80_13 : LCode := .seq C80_11 C80_12
noncomputable def C80_14 : LCode := .seq C80_5 C80_13
noncomputable abbrev C80_15 : LCode := .gc (.only [0, 1, 5] C80_14)
noncomputable abbrev C80_16 : LCode := .only [0, 1, 5] (.loop C80_15)
noncomputable abbrev C80_17 : LCode := .block 0 C80_16
noncomputable abbrev C80_18 : LCode := .seq C80_2 C80_17
noncomputable abbrev C80_19 : LCode := .region false 0 [
 ⟨some 4, .mov (.c (.bool true)), none⟩] [] [4]
noncomputable abbrev C80_20 : LCode := .seq C80_19 .ret
noncomputable abbrev C80_21 : LCode := .seq C80_18 C80_20
noncomputable abbrev C80_22 : LCode := .seq C80_1 C80_21
noncomputable def L_value_rise : LF := { np := 2, res := [.tmp 4], keepRes := false, body := C80_22 }
noncomputable abbrev C139_1 : LCode := .region false 0 [
 ⟨some 4, .mov (.c (.int .i64 0)), none⟩] [] [0, 1]
noncomputable abbrev C139_2 : LCode := .region false 0 [
 ⟨some 6, .mov (.cp 0), none⟩,
 ⟨some 7, .len false (.cp 6), none⟩,
 ⟨some 8, .mov (.c (.int .i64 0)), none⟩] [] [0, 1, 7, 8]
noncomputable abbrev C139_3 : LCode := .region false 0 [
 ⟨some 9, .bin .lss (.cp 8) (.cp 7), none⟩] [] [0, 1, 7, 8, 9]
noncomputable abbrev C139_4 : LCode := .cond (.cp 9) .skip (.exit 0)
noncomputable abbrev C139_5 : LCode := .region false 0 [
 ⟨some 10, .mov (.cp 8), none⟩,
 ⟨some 5, .mov (.cp 10), none⟩] [] [0, 1, 5, 7, 8]
noncomputable abbrev C139_6 : LCode := .region false 0 [
 ⟨some 11, .mov (.cp 1), none⟩,
 ⟨some 12, .mov (.cp 0), none⟩,
 ⟨some 13, .mov (.cp 5), none⟩,
 ⟨some 14, .iaddr 3 none (.cp 12) (.cp 13), none⟩,
 ⟨some 15, .load false (some 3) (.cp 14), none⟩,
 ⟨some 16, .callv (.cp 11) [.cp 15], none⟩] [] [0, 1, 5, 7, 8, 16]
noncomputable abbrev C139_7 : LCode := .region false 0 [
 ⟨some 17, .mov (.cp 5), none⟩,
 ⟨some 4, .mov (.cp 17), none⟩] [] [4]
noncomputable abbrev C139_8 : LCode := .seq C139_7 .ret
noncomputable abbrev C139_9 : LCode := .cond (.cp 16) C139_8 .skip
noncomputable abbrev C139_10 : LCode := .seq C139_6 C139_9
noncomputable abbrev C139_11 : LCode := .seq C139_5 C139_10
noncomputable abbrev C139_12 : LCode := .block 1 C139_11
noncomputable abbrev C139_13 : LCode := .region false 0 [
 ⟨some 18, .bin .add (.cp 8) (.c (.int .i64 1)), none⟩,
 ⟨some 8, .mov (.cp 18), none⟩] [] [0, 1, 7, 8]
noncomputable abbrev C139_14 : LCode := .seq C139_12 C139_13
noncomputable abbrev C139_15 : LCode := .seq C139_4 C139_14
noncomputable def C139_16 : LCode := .seq C139_3 C139_15
noncomputable abbrev C139_17 : LCode := .gc (.only [0, 1, 7, 8] C139_16)
noncomputable abbrev C139_18 : LCode := .only [0, 1, 7, 8] (.loop C139_17)
noncomputable abbrev C139_19 : LCode := .block 0 C139_18
noncomputable abbrev C139_20 : LCode := .seq C139_2 C139_19
noncomputable abbrev C139_21 : LCode := .region false 0 [
 ⟨some 4, .mov (.c (.int .i64 (-1))), none⟩] [] [4]
noncomputable abbrev C139_22 : LCode := .seq C139_21 .ret
noncomputable abbrev C139_23 : LCode := .seq C139_20 C139_22
noncomputable abbrev C139_24 : LCode := .seq C139_1 C139_23
noncomputable def L_slices_IndexFunc_api_Member_api_Member : LF := { np := 2, res := [.tmp 4], keepRes := false, body := C139_24 }
noncomputable abbrev C81_1 : LCode := .region false 0 [
 ⟨some 4, .mov (.c (.bool false)), none⟩] [] [0, 1]
noncomputable abbrev C81_2 : LCode := .region false 0 [
 ⟨some 5, .mov (.mv 0), none⟩,
 ⟨some 6, .mov (.cp 1), none⟩,
 ⟨some 7, .call N_slices_IndexFunc_api_Member_api_Member [.cp 5, .cp 6], none⟩,
 ⟨some 8, .bin .geq (.cp 7) (.c (.int .i64 0)), none⟩,
 ⟨some 4, .mov (.cp 8), none⟩] [] [4]
noncomputable abbrev C81_3 : LCode := .seq C81_2 .ret
noncomputable abbrev C81_4 : LCode := .seq C81_1 C81_3
noncomputable def L_slices_ContainsFunc_api_Member_api_Member : LF := { np := 2, res := [.tmp 4], keepRes := false, body := C81_4 }
noncomputable abbrev C82_1 : LCode := .region false 0 [
 ⟨some 2, .box (.cp 0), none⟩,
 ⟨some 3, .mov (.c (.bool false)), none⟩] [] [1, 2]
noncomputable abbrev C82_2 : LCode := .region false 0 [
 ⟨some 4, .faddr (.cp 2) 2, none⟩,
 ⟨some 5, .load false none (.cp 4), none⟩,
 ⟨some 6, .faddr (.cp 1) 1, none⟩,
 ⟨some 7, .load false none (.cp 6), none⟩,
 ⟨some 8, .bin .eql (.cp 5) (.cp 7), none⟩,
 ⟨some 3, .mov (.cp 8), none⟩] [] [3]
noncomputable abbrev C82_3 : LCode := .seq C82_2 .ret
noncomputable abbrev C82_4 : LCode := .seq C82_1 C82_3
noncomputable def L_value_Check_1 : LF := { np := 1, res := [.tmp 3], keepRes := false, body := C82_4 }
noncomputable abbrev C143_1 : LCode := .region false 0 [
 ⟨some 4, .mov (.c (.int .i64 0)), none⟩] [] [0, 1]
noncomputable abbrev C143_2 : LCode := .region false 0 [
 ⟨some 6, .mov (.cp 0), none⟩,
 ⟨some 7, .len false (.cp 6), none⟩,
 ⟨some 8, .mov (.c (.int .i64 0)), none⟩] [] [0, 1, 7, 8]
noncomputable abbrev C143_3 : LCode := .region false 0 [
 ⟨some 9, .bin .lss (.cp 8) (.cp 7), none⟩] [] [0, 1, 7, 8, 9]
noncomputable abbrev C143_4 : LCode := .cond (.cp 9) .skip (.exit 0)
noncomputable abbrev C143_5 : LCode := .region false 0 [
 ⟨some 10, .mov (.cp 8), none⟩,
 ⟨some 5, .mov (.cp 10), none⟩] [] [0, 1, 5, 7, 8]
noncomputable abbrev C143_6 : LCode := .region false 0 [
 ⟨some 11, .mov (.cp 1), none⟩,
 ⟨some 12, .mov (.cp 0), none⟩,
 ⟨some 13, .mov (.cp 5), none⟩,
 ⟨some 14, .iaddr 10 none (.cp 12) (.cp 13), none⟩,
 ⟨some 15, .load false (some 10) (.cp 14), none⟩,
 ⟨some 16, .callv (.cp 11) [.cp 15], none⟩] [] [0, 1, 5, 7, 8, 16]
noncomputable abbrev C143_7 : LCode := .region false 0 [
 ⟨some 17, .mov (.cp 5), none⟩,
 ⟨some 4, .mov (.cp 17), none⟩] [] [4]
noncomputable abbrev C143_8 : LCode := .seq C143_7 .ret
noncomputable abbrev C143_9 : LCode := .cond (.cp 16) C143_8 .skip
noncomputable abbrev C143_10 : LCode := .seq C143_6 C143_9
noncomputable abbrev C143_11 : LCode := .seq C143_5 C143_10
noncomputable abbrev C143_12 : LCode := .block 1 C143_11
noncomputable abbrev C143_13 : LCode := .region false 0 [
 ⟨some 18, .bin .add (.cp 8) (.c (.int .i64 1)), none⟩,
 ⟨some 8, .mov (.cp 18), none⟩] [] [0, 1, 7, 8]
noncomputable abbrev C143_14 : LCode := .seq C143_12 C143_13
noncomputable abbrev C143_15 : LCode := .seq C143_4 C143_14
noncomputable def C143_16 : LCode := .seq C143_3 C143_15
noncomputable abbrev C143_17 : LCode := .gc (.only [0, 1, 7, 8] C143_16)
noncomputable abbrev C143_18 : LCode := .only [0, 1, 7, 8] (.loop C143_17)
noncomputable abbrev C143_19 : LCode := .block 0 C143_18
noncomputable abbrev C143_20 : LCode := .seq C143_2 C143_19
noncomputable abbrev C143_21 : LCode := .region false 0 [
 ⟨some 4, .mov (.c (.int .i64 (-1))), none⟩] [] [4]
noncomputable abbrev C143_22 : LCode := .seq C143_21 .ret
noncomputable abbrev C143_23 : LCode := .seq C143_20 C143_22
noncomputable abbrev C143_24 : LCode := .seq C143_1 C143_23
noncomputable def L_slices_IndexFunc_api_SField_api_SField : LF := { np := 2, res := [.tmp 4], keepRes := false, body := C143_24 }
noncomputable abbrev C144_1 : LCode := .region false 0 [
 ⟨some 2, .box (.mv 0), none⟩,
 ⟨some 3, .mov (.c (.bool false)), none⟩] [] [1, 2]
noncomputable abbrev C144_2 : LCode := .region false 0 [
 ⟨some 4, .faddr (.cp 2) 0, none⟩,
 ⟨some 5, .load false none (.cp 4), none⟩,
 ⟨some 6, .load false none (.cp 1), none⟩,
 ⟨some 7, .bin .eql (.cp 5) (.cp 6), none⟩,
 ⟨some 3, .mov (.cp 7), none⟩] [] [3]
noncomputable abbrev C144_3 : LCode := .seq C144_2 .ret
noncomputable abbrev C144_4 : LCode := .seq C144_1 C144_3
noncomputable def L_value_Field_1 : LF := { np := 1, res := [.tmp 3], keepRes := false, body := C144_4 }
noncomputable abbrev C92_1 : LCode := .region false 1 [
 ⟨some 2, .box (.mv 0), none⟩,
 ⟨some 3, .box (.cp 1), none⟩,
 ⟨some 4, .alloc 0 [.int .i64 0, .int .i64 0, .str [], .str [], .bool false, .int .i64 0, .int .i64 0, .str [], .sl true 5 [], .sl true 1 []], none⟩,
 ⟨some 5, .mov (.c (.bool false)), none⟩] [] [2, 3, 4]
noncomputable abbrev C92_2 : LCode := .region false 0 [
 ⟨some 7, .faddr (.cp 2) 2, none⟩,
 ⟨some 8, .load false none (.cp 7), none⟩,
 ⟨some 9, .mkfn N_value_Field_1 [.cp 3], none⟩,
 ⟨some 10, .call N_slices_IndexFunc_api_SField_api_SField [.cp 8, .cp 9], none⟩,
 ⟨some 6, .mov (.cp 10), none⟩] [] [2, 4, 6]
noncomputable abbrev C92_3 : LCode := .region false 0 [
 ⟨some 11, .mov (.cp 6), none⟩,
 ⟨some 12, .bin .lss (.cp 11) (.c (.int .i64 0)), none⟩] [] [2, 4, 6, 12]
noncomputable abbrev C92_4 : LCode := .region false 0 [
 ⟨some 13, .build [.int .i64 0, .int .i64 0, .str [], .str [], .bool false, .int .i64 0, .int .i64 0, .str [], .sl true 5 [], .sl true 1 []] [], none⟩,
 ⟨none, .store (some 10) (.cp 4) (.mv 13), none⟩,
 ⟨some 5, .mov (.c (.bool false)), none⟩] [] [4, 5]
noncomputable abbrev C92_5 : LCode := .seq C92_4 .ret
noncomputable abbrev C92_6 : LCode := .cond (.cp 12) C92_5 .skip
noncomputable abbrev C92_7 : LCode := .seq C92_3 C92_6
noncomputable abbrev C92_8 : LCode := .region false 0 [
 ⟨some 14, .faddr (.cp 2) 2, none⟩,
 ⟨some 15, .load false none (.cp 14), none⟩,
 ⟨some 16, .mov (.cp 6), none⟩,
 ⟨some 17, .iaddr 10 none (.cp 15) (.cp 16), none⟩,
 ⟨some 18, .load false (some 10) (.cp 17), none⟩,
 ⟨none, .store (some 10) (.cp 4) (.mv 18), none⟩,
 ⟨some 5, .mov (.c (.bool true)), none⟩] [] [4, 5]
noncomputable abbrev C92_9 : LCode := .seq C92_8 .ret
noncomputable abbrev C92_10 : LCode := .seq C92_7 C92_9
noncomputable abbrev C92_11 : LCode := .seq C92_2 C92_10
noncomputable abbrev C92_12 : LCode := .seq C92_1 C92_11
noncomputable def L_value_Field : LF := { np := 2, res := [.cell 4 (some 10), .tmp 5], keepRes := false, body := C92_12 }
noncomputable abbrev C145_1 : LCode := .region false 0 [
 ⟨some 4, .mov (.c (.int .i64 0)), none⟩] [] [0, 1]
noncomputable abbrev C145_2 : LCode := .region false 0 [
 ⟨some 6, .mov (.cp 0), none⟩,
 ⟨some 7, .len false (.cp 6), none⟩,
 ⟨some 8, .mov (.c (.int .i64 0)), none⟩] [] [0, 1, 7, 8]
noncomputable abbrev C145_3 : LCode := .region false 0 [
 ⟨some 9, .bin .lss (.cp 8) (.cp 7), none⟩] [] [0, 1, 7, 8, 9]
noncomputable abbrev C145_4 : LCode := .cond (.cp 9) .skip (.exit 0)
noncomputable abbrev C145_5 : LCode := .region false 0 [
 ⟨some 10, .mov (.cp 8), none⟩,
 ⟨some 5, .mov (.cp 10), none⟩] [] [0, 1, 5, 7, 8]
noncomputable abbrev C145_6 : LCode := .region false 0 [
 ⟨some 11, .mov (.cp 1), none⟩,
 ⟨some 12, .mov (.cp 0), none⟩,
 ⟨some 13, .mov (.cp 5), none⟩,
 ⟨some 14, .iaddr 1 none (.cp 12) (.cp 13), none⟩,
 ⟨some 15, .load false none (.cp 14), none⟩,
 ⟨some 16, .bin .eql (.cp 11) (.cp 15), none⟩] [] [0, 1, 5, 7, 8, 16]
noncomputable abbrev C145_7 : LCode := .region false 0 [
 ⟨some 17, .mov (.cp 5), none⟩,
 ⟨some 4, .mov (.cp 17), none⟩] [] [4]
noncomputable abbrev C145_8 : LCode := .seq C145_7 .ret
noncomputable abbrev C145_9 : LCode := .cond (.cp 16) C145_8 .skip
noncomputable abbrev C145_10 : LCode := .seq C145_6 C145_9
noncomputable abbrev C145_11 : LCode := .seq C145_5 C145_10
noncomputable abbrev C145_12 : LCode := .block 1 C145_11
noncomputable abbrev C145_13 : LCode := .region false 0 [
 ⟨some 18, .bin .add (.cp 8) (.c (.int .i64 1)), none⟩,
 ⟨some 8, .mov (.cp 18), none⟩] [] [0, 1, 7, 8]
noncomputable abbrev C145_14 : LCode := .seq C145_12 C145_13
noncomputable abbrev C145_15 : LCode := .seq C145_4 C145_14
noncomputable def C145_16 : LCode := .seq C145_3 C145_15
noncomputable abbrev C145_17 : LCode := .gc (.only [0, 1, 7, 8] C145_16)
noncomputable abbrev C145_18 : LCode := .only [0, 1, 7, 8] (.loop C145_17)
noncomputable abbrev C145_19 : LCode := .block 0 C145_18
noncomputable abbrev C145_20 : LCode := .seq C145_2 C145_19
noncomputable abbrev C145_21 : LCode := .region false 0 [
 ⟨some 4, .mov (.c (.int .i64 (-1))), none⟩] [] [4]
noncomputable abbrev C145_22 : LCode := .seq C145_21 .ret
noncomputable abbrev C145_23 : LCode := .seq C145_20 C145_22
noncomputable abbrev C145_24 : LCode := .seq C145_1 C145_23
noncomputable def L_slices_Index_int_int : LF := { np := 2, res := [.tmp 4], keepRes := false, body := C145_24 }
noncomputable abbrev C94_1 : LCode := .region false 0 [
 ⟨some 4, .mov (.c (.bool false)), none⟩] [] [0, 1]
noncomputable abbrev C94_2 : LCode := .region false 0 [
 ⟨some 5, .mov (.mv 0), none⟩,
 ⟨some 6, .mov (.cp 1), none⟩,
 ⟨some 7, .call N_slices_Index_int_int [.cp 5, .cp 6], none⟩,
 ⟨some 8, .bin .geq (.cp 7) (.c (.int .i64 0)), none⟩,
 ⟨some 4, .mov (.cp 8), none⟩] [] [4]
noncomputable abbrev C94_3 : LCode := .seq C94_2 .ret
noncomputable abbrev C94_4 : LCode := .seq C94_1 C94_3
noncomputable def L_slices_Contains_int_int : LF := { np := 2, res := [.tmp 4], keepRes := false, body := C94_4 }
noncomputable abbrev C72_1 : LCode := .region false 0 [
 ⟨some 3, .box (.mv 0), none⟩,
 ⟨some 4, .box (.mv 1), none⟩,
 ⟨some 5, .box (.mv 2), none⟩,
 ⟨some 6, .mov (.c (.bool false)), none⟩] [] [3, 4, 5]
noncomputable abbrev C72_2 : LCode := .region false 0 [
 ⟨some 13, .faddr (.cp 5) 0, none⟩,
 ⟨some 14, .load false none (.cp 13), none⟩,
 ⟨some 15, .bin .neq (.cp 14) (.c (.int .i64 12)), none⟩,
 ⟨some 16, .mov (.cp 15), none⟩,
 ⟨some 17, .faddr (.cp 5) 4, some (16, false)⟩,
 ⟨some 18, .load false none (.cp 17), some (16, false)⟩,
 ⟨some 19, .len false (.cp 18), some (16, false)⟩,
 ⟨some 20, .faddr (.cp 5) 3, some (16, false)⟩,
 ⟨some 21, .load false none (.cp 20), some (16, false)⟩,
 ⟨some 22, .len false (.cp 21), some (16, false)⟩,
 ⟨some 23, .bin .neq (.cp 19) (.cp 22), some (16, false)⟩,
 ⟨some 24, .pick (.cp 16) (.c (.bool true)) (.cp 23), none⟩] [] [3, 4, 5, 24]
noncomputable abbrev C72_3 : LCode := .region false 0 [
 ⟨some 6, .mov (.c (.bool false)), none⟩] [] [6]
noncomputable abbrev C72_4 : LCode := .seq C72_3 .ret
noncomputable abbrev C72_5 : LCode := .cond (.cp 24) C72_4 .skip
noncomputable abbrev C72_6 : LCode := .seq C72_2 C72_5
noncomputable abbrev C72_7 : LCode := .region false 0 [
 ⟨some 25, .faddr (.cp 5) 4, none⟩,
 ⟨some 26, .load false none (.cp 25), none⟩,
 ⟨some 27, .len false (.cp 26), none⟩,
 ⟨some 28, .mov (.c (.int .i64 0)), none⟩] [] [3, 4, 5, 26, 27, 28]
noncomputable abbrev C72_8 : LCode := .region false 0 [
 ⟨some 29, .bin .lss (.cp 28) (.cp 27), none⟩] [] [3, 4, 5, 26, 27, 28, 29]
noncomputable abbrev C72_9 : LCode := .cond (.cp 29) .skip (.exit 0)
noncomputable abbrev C72_10 : LCode := .region false 0 [
 ⟨some 30, .mov (.cp 28), none⟩,
 ⟨some 31, .iaddr 1 none (.cp 26) (.cp 28), none⟩,
 ⟨some 32, .load false none (.cp 31), none⟩,
 ⟨some 7, .mov (.cp 30), none⟩,
 ⟨some 8, .mov (.cp 32), none⟩] [] [3, 4, 5, 7, 8, 26, 27, 28]
noncomputable abbrev C72_11 : LCode := .region false 1 [
 ⟨some 34, .load false (some 3) (.cp 4), none⟩,
 ⟨some 35, .mov (.cp 8), none⟩,
 ⟨some 36, .call N_value_Field [.cp 34, .cp 35], none⟩,
 ⟨some 33, .mov (.cp 36), none⟩,
 ⟨some 37, .ext (.cp 33) 0, none⟩,
 ⟨some 38, .ext (.cp 33) 1, none⟩,
 ⟨some 9, .alloc 0 [.int .i64 0, .int .i64 0, .str [], .str [], .bool false, .int .i64 0, .int .i64 0, .str [], .sl true 5 [], .sl true 1 []], none⟩,
 ⟨none, .store (some 10) (.cp 9) (.mv 37), none⟩,
 ⟨some 10, .mov (.cp 38), none⟩] [] [3, 4, 5, 7, 8, 9, 10, 26, 27, 28]
noncomputable abbrev C72_12 : LCode := .region true 0 [
 ⟨some 39, .mov (.cp 10), none⟩,
 ⟨some 40, .un .not (.cp 39), none⟩,
 ⟨some 41, .mov (.cp 40), none⟩,
 ⟨some 42, .mov (.cp 7), some (41, false)⟩,
 ⟨some 43, .bin .gtr (.cp 42) (.c (.int .i64 0)), some (41, false)⟩,
 ⟨some 44, .mov (.cp 43), some (41, false)⟩,
 ⟨some 45, .faddr (.cp 5) 4, some (44, true)⟩,
 ⟨some 46, .load false none (.cp 45), some (44, true)⟩,
 ⟨some 47, .mov (.cp 7), some (44, true)⟩,
 ⟨some 48, .bin .sub (.cp 47) (.c (.int .i64 1)), some (44, true)⟩,
 ⟨some 49, .iaddr 1 none (.cp 46) (.cp 48), some (44, true)⟩,
 ⟨some 50, .load false none (.cp 49), some (44, true)⟩,
 ⟨some 51, .mov (.cp 8), some (44, true)⟩,
 ⟨some 52, .bin .geq (.cp 50) (.cp 51), some (44, true)⟩,
 ⟨some 53, .pick (.cp 44) (.cp 52) (.c (.bool false)), some (41, false)⟩,
 ⟨some 54, .pick (.cp 41) (.c (.bool true)) (.cp 53), none⟩,
 ⟨some 55, .mov (.cp 54), none⟩,
 ⟨some 56, .load false (some 3) (.cp 3), some (55, false)⟩,
 ⟨some 57, .faddr (.cp 9) 2, some (55, false)⟩,
 ⟨some 58, .load false none (.cp 57), some (55, false)⟩,
 ⟨some 59, .faddr (.cp 5) 3, some (55, false)⟩,
 ⟨some 60, .load false none (.cp 59), some (55, false)⟩,
 ⟨some 61, .mov (.cp 7), some (55, false)⟩,
 ⟨some 62, .iaddr 5 none (.cp 60) (.cp 61), some (55, false)⟩,
 ⟨some 63, .load false (some 5) (.cp 62), some (55, false)⟩,
 ⟨some 64, .call N_value_Check [.cp 56, .cp 58, .cp 63], some (55, false)⟩,
 ⟨some 65, .un .not (.cp 64), some (55, false)⟩,
 ⟨some 66, .pick (.cp 55) (.c (.bool true)) (.cp 65), none⟩] [(17, 19), (17, 21), (19, 21), (17, 24), (19, 24)] [3, 4, 5, 26, 27, 28, 66]
noncomputable abbrev C72_13 : LCode := .region false 0 [
 ⟨some 6, .mov (.c (.bool false)), none⟩] [] [6]
noncomputable abbrev C72_14 : LCode := .seq C72_13 .ret
noncomputable abbrev C72_15 : LCode := .cond (.cp 66) C72_14 .skip
noncomputable abbrev C72_16 : LCode := .seq C72_12 C72_15
noncomputable abbrev C72_17 : LCode := .seq C72_11 C72_16
noncomputable abbrev C72_18 : LCode := .seq C72_10 C72_17
noncomputable abbrev C72_19 : LCode := .block 1 C72_18
noncomputable abbrev C72_20 : LCode := .region false 0 [
 ⟨some 67, .bin .add (.cp 28) (.c (.int .i64 1)), none⟩,
 ⟨some 28, .mov (.cp 67), none⟩] [] [3, 4, 5, 26, 27, 28]
noncomputable abbrev C72_21 : LCode := .seq C72_19 C72_20
noncomputable abbrev C72_22 : LCode := .seq C72_9 C72_21
noncomputable def C72_23 : LCode := .seq C72_8 C72_22
noncomputable abbrev C72_24 : LCode := .gc (.only [3, 4, 5, 26, 27, 28] C72_23)
noncomputable abbrev C72_25 : LCode := .only [3, 4, 5, 26, 27, 28] (.loop C72_24)
noncomputable abbrev C72_26 : LCode := .block 0 C72_25
noncomputable abbrev C72_27 : LCode := .seq C72_7 C72_26
noncomputable abbrev C72_28 : LCode := .region false 0 [
 ⟨some 68, .faddr (.cp 4) 2, none⟩,
 ⟨some 69, .load false none (.cp 68), none⟩,
 ⟨some 70, .len false (.cp 69), none⟩,
 ⟨some 71, .mov (.c (.int .i64 0)), none⟩] [] [4, 5, 69, 70, 71]
noncomputable abbrev C72_29 : LCode := .region false 0 [
 ⟨some 72, .bin .lss (.cp 71) (.cp 70), none⟩] [] [4, 5, 69, 70, 71, 72]
noncomputable abbrev C72_30 : LCode := .cond (.cp 72) .skip (.exit 2)
noncomputable abbrev C72_31 : LCode := .region false 1 [
 ⟨some 73, .iaddr 10 none (.cp 69) (.cp 71), none⟩,
 ⟨some 74, .load false (some 10) (.cp 73), none⟩,
 ⟨some 12, .alloc 0 [.int .i64 0, .int .i64 0, .str [], .str [], .bool false, .int .i64 0, .int .i64 0, .str [], .sl true 5 [], .sl true 1 []], none⟩,
 ⟨none, .store (some 10) (.cp 12) (.mv 74), none⟩] [] [4, 5, 12, 69, 70, 71]
noncomputable abbrev C72_32 : LCode := .region false 0 [
 ⟨some 75, .faddr (.cp 12) 1, none⟩,
 ⟨some 76, .load false none (.cp 75), none⟩,
 ⟨some 77, .bin .eql (.cp 76) (.c (.int .i64 1)), none⟩,
 ⟨some 78, .mov (.cp 77), none⟩,
 ⟨some 79, .faddr (.cp 5) 4, some (78, true)⟩,
 ⟨some 80, .load false none (.cp 79), some (78, true)⟩,
 ⟨some 81, .faddr (.cp 12) 0, some (78, true)⟩,
 ⟨some 82, .load false none (.cp 81), some (78, true)⟩,
 ⟨some 83, .call N_slices_Contains_int_int [.cp 80, .cp 82], some (78, true)⟩,
 ⟨some 84, .un .not (.cp 83), some (78, true)⟩,
 ⟨some 85, .pick (.cp 78) (.cp 84) (.c (.bool false)), none⟩] [] [4, 5, 69, 70, 71, 85]
noncomputable abbrev C72_33 : LCode := .region false 0 [
 ⟨some 6, .mov (.c (.bool false)), none⟩] [] [6]
noncomputable abbrev C72_34 : LCode := .seq C72_33 .ret
noncomputable abbrev C72_35 : LCode := .cond (.cp 85) C72_34 .skip
noncomputable abbrev C72_36 : LCode := .seq C72_32 C72_35
noncomputable abbrev C72_37 : LCode := .seq C72_31 C72_36
noncomputable abbrev C72_38 : LCode := .block 3 C72_37
noncomputable abbrev C72_39 : LCode := .region false 0 [
 ⟨some 86, .bin .add (.cp 71) (.c (.int .i64 1)), none⟩,
 ⟨some 71, .mov (.cp 86), none⟩] [] [4, 5, 69, 70, 71]
noncomputable abbrev C72_40 : LCode := .seq C72_38 C72_39
noncomputable abbrev C72_41 : LCode := .seq C72_30 C72_40
noncomputable def C72_42 : LCode := .seq C72_29 C72_41
noncomputable abbrev C72_43 : LCode := .gc (.only [4, 5, 69, 70, 71] C72_42)
noncomputable abbrev C72_44 : LCode := .only [4, 5, 69, 70, 71] (.loop C72_43)
noncomputable abbrev C72_45 : LCode := .block 2 C72_44
noncomputable abbrev C72_46 : LCode := .seq C72_28 C72_45
noncomputable abbrev C72_47 : LCode := .region false 0 [
 ⟨some 87, .faddr (.cp 4) 0, none⟩,
 ⟨some 88, .load false none (.cp 87), none⟩] [] [5, 88]
noncomputable abbrev C72_48 : LCode := .region false 0 [
 ⟨some 90, .bin .eql (.cp 88) (.c (.int .i64 5)), none⟩,
 ⟨some 89, .mov (.cp 90), none⟩] [] [5, 88, 89]
noncomputable abbrev C72_49 : LCode := .region false 0 [
 ⟨some 91, .faddr (.cp 5) 4, none⟩,
 ⟨some 92, .load false none (.cp 91), none⟩,
 ⟨some 93, .len false (.cp 92), none⟩,
 ⟨some 94, .bin .eql (.cp 93) (.c (.int .i64 1)), none⟩,
 ⟨some 6, .mov (.cp 94), none⟩] [] [6]
noncomputable abbrev C72_50 : LCode := .seq C72_49 .ret
noncomputable abbrev C72_51 : LCode := .region false 0 [
 ⟨some 96, .bin .eql (.cp 88) (.c (.int .i64 8)), none⟩,
 ⟨some 95, .mov (.cp 96), none⟩] [] [5, 95]
noncomputable abbrev C72_52 : LCode := .region false 0 [
 ⟨some 97, .faddr (.cp 5) 4, none⟩,
 ⟨some 98, .load false none (.cp 97), none⟩,
 ⟨some 99, .len false (.cp 98), none⟩,
 ⟨some 100, .bin .leq (.cp 99) (.c (.int .i64 1)), none⟩,
 ⟨some 6, .mov (.cp 100), none⟩] [] [6]
noncomputable abbrev C72_53 : LCode := .seq C72_52 .ret
noncomputable abbrev C72_54 : LCode := .cond (.cp 95) C72_53 .skip
noncomputable abbrev C72_55 : LCode := .seq C72_51 C72_54
noncomputable abbrev C72_56 : LCode := .cond (.cp 89) C72_50 C72_55
noncomputable abbrev C72_57 : LCode := .seq C72_48 C72_56
noncomputable abbrev C72_58 : LCode := .block 4 C72_57
noncomputable abbrev C72_59 : LCode := .seq C72_47 C72_58
noncomputable abbrev C72_60 : LCode := .region false 0 [
 ⟨some 6, .mov (.c (.bool true)), none⟩] [] [6]
noncomputable abbrev C72_61 : LCode := .seq C72_60 .ret
noncomputable abbrev C72_62 : LCode := .seq C72_59 C72_61
noncomputable abbrev C72_63 : LCode := .seq C72_46 C72_62
noncomputable def C72_64 : LCode := .seq C72_27 C72_63
noncomputable abbrev C72_65 : LCode := .only [3, 4, 5] C72_64
noncomputable abbrev C72_66 : LCode := .seq C72_6 C72_65
noncomputable abbrev C72_67 : LCode := .seq C72_1 C72_66
noncomputable def L_value_Fields : LF := { np := 3, res := [.tmp 6], keepRes := false, body := C72_67 }
noncomputable abbrev C29_1 : LCode := .region false 0 [
 ⟨some 3, .box (.mv 0), none⟩,
 ⟨some 5, .box (.mv 2), none⟩,
 ⟨some 6, .mov (.c (.bool false)), none⟩] [] [1, 3, 5]
noncomputable abbrev C29_2 : LCode := .region false 0 [
 ⟨some 17, .load false (some 3) (.cp 3), none⟩,
 ⟨some 18, .mov (.cp 1), none⟩,
 ⟨some 19, .call N_value_Kind [.cp 17, .cp 18], none⟩,
 ⟨some 7, .mov (.cp 19), none⟩] [] [1, 3, 5, 7]
noncomputable abbrev C29_3 : LCode := .region false 0 [
 ⟨some 21, .mov (.cp 1), none⟩,
 ⟨some 22, .call N_kind_Head [.cp 21], none⟩,
 ⟨some 20, .mov (.cp 22), none⟩,
 ⟨some 23, .ext (.cp 20) 0, none⟩,
 ⟨some 24, .ext (.cp 20) 1, none⟩,
 ⟨some 25, .ext (.cp 20) 2, none⟩,
 ⟨some 26, .ext (.cp 20) 3, none⟩,
 ⟨some 27, .ext (.cp 20) 4, none⟩,
 ⟨some 8, .mov (.cp 23), none⟩,
 ⟨some 9, .mov (.cp 24), none⟩,
 ⟨some 10, .mov (.cp 25), none⟩,
 ⟨some 11, .mov (.cp 26), none⟩,
 ⟨some 12, .mov (.cp 27), none⟩] [] [3, 5, 7, 9, 10, 11]
noncomputable abbrev C29_4 : LCode := .region false 0 [
 ⟨some 28, .mov (.cp 7), none⟩,
 ⟨some 29, .bin .eql (.cp 28) (.c (.int .i64 0)), none⟩,
 ⟨some 30, .mov (.cp 29), none⟩,
 ⟨some 31, .faddr (.cp 5) 0, some (30, false)⟩,
 ⟨some 32, .load false none (.cp 31), some (30, false)⟩,
 ⟨some 33, .mov (.cp 7), some (30, false)⟩,
 ⟨some 34, .bin .neq (.cp 32) (.cp 33), some (30, false)⟩,
 ⟨some 35, .pick (.cp 30) (.c (.bool true)) (.cp 34), none⟩] [] [3, 5, 7, 9, 10, 11, 35]
noncomputable abbrev C29_5 : LCode := .region false 0 [
 ⟨some 6, .mov (.c (.bool false)), none⟩] [] [6]
noncomputable abbrev C29_6 : LCode := .seq C29_5 .ret
noncomputable abbrev C29_7 : LCode := .cond (.cp 35) C29_6 .skip
noncomputable abbrev C29_8 : LCode := .seq C29_4 C29_7
noncomputable abbrev C29_9 : LCode := .region false 0 [
 ⟨some 36, .mov (.cp 7), none⟩] [] [3, 5, 7, 9, 10, 11, 36]
noncomputable abbrev C29_10 : LCode := .region false 0 [
 ⟨some 38, .bin .eql (.cp 36) (.c (.int .i64 2)), none⟩,
 ⟨some 37, .mov (.cp 38), none⟩] [] [3, 5, 7, 9, 10, 11, 36, 37]
noncomputable abbrev C29_11 : LCode := .region false 0 [
 ⟨some 39, .faddr (.cp 5) 1, none⟩,
 ⟨some 40, .load false none (.cp 39), none⟩,
 ⟨some 41, .bin .eql (.cp 40) (.c (.int .i64 0)), none⟩,
 ⟨some 42, .mov (.cp 41), none⟩,
 ⟨some 43, .faddr (.cp 5) 1, some (42, false)⟩,
 ⟨some 44, .load false none (.cp 43), some (42, false)⟩,
 ⟨some 45, .bin .eql (.cp 44) (.c (.int .i64 1)), some (42, false)⟩,
 ⟨some 46, .pick (.cp 42) (.c (.bool true)) (.cp 45), none⟩,
 ⟨some 6, .mov (.cp 46), none⟩] [] [6]
noncomputable abbrev C29_12 : LCode := .seq C29_11 .ret
noncomputable abbrev C29_13 : LCode := .region false 0 [
 ⟨some 48, .bin .eql (.cp 36) (.c (.int .i64 3)), none⟩,
 ⟨some 47, .mov (.cp 48), none⟩] [] [3, 5, 7, 9, 10, 11, 36, 47]
noncomputable abbrev C29_14 : LCode := .region false 0 [
 ⟨some 49, .bin .eql (.cp 36) (.c (.int .i64 6)), none⟩,
 ⟨some 47, .mov (.cp 49), none⟩] [] [3, 5, 7, 9, 10, 11, 36, 47]
noncomputable abbrev C29_15 : LCode := .region false 0 [
 ⟨some 50, .bin .eql (.cp 36) (.c (.int .i64 8)), none⟩,
 ⟨some 47, .mov (.cp 50), none⟩] [] [3, 5, 7, 9, 10, 11, 36, 47]
noncomputable abbrev C29_16 : LCode := .region false 0 [
 ⟨some 51, .bin .eql (.cp 36) (.c (.int .i64 10)), none⟩,
 ⟨some 47, .mov (.cp 51), none⟩] [] [3, 5, 7, 9, 10, 11, 36, 47]
noncomputable abbrev C29_17 : LCode := .cond (.cp 47) .skip C29_16
noncomputable abbrev C29_18 : LCode := .seq C29_15 C29_17
noncomputable abbrev C29_19 : LCode := .cond (.cp 47) .skip C29_18
noncomputable abbrev C29_20 : LCode := .seq C29_14 C29_19
noncomputable abbrev C29_21 : LCode := .cond (.cp 47) .skip C29_20
noncomputable abbrev C29_22 : LCode := .seq C29_13 C29_21
noncomputable abbrev C29_23 : LCode := .region false 0 [
 ⟨some 52, .mov (.cp 7), none⟩,
 ⟨some 53, .faddr (.cp 5) 1, none⟩,
 ⟨some 54, .load false none (.cp 53), none⟩,
 ⟨some 55, .call N_value_fits [.cp 52, .cp 54], none⟩,
 ⟨some 6, .mov (.cp 55), none⟩] [] [6]
noncomputable abbrev C29_24 : LCode := .seq C29_23 .ret
noncomputable abbrev C29_25 : LCode := .region false 0 [
 ⟨some 57, .bin .eql (.cp 36) (.c (.int .i64 11)), none⟩,
 ⟨some 56, .mov (.cp 57), none⟩] [] [3, 5, 9, 10, 11, 36, 56]
noncomputable abbrev C29_26 : LCode := .region false 0 [
 ⟨some 58, .faddr (.cp 5) 2, none⟩,
 ⟨some 59, .load false none (.cp 58), none⟩,
 ⟨some 60, .call N_value_Valid [.cp 59], none⟩,
 ⟨some 6, .mov (.cp 60), none⟩] [] [6]
noncomputable abbrev C29_27 : LCode := .seq C29_26 .ret
noncomputable abbrev C29_28 : LCode := .region false 0 [
 ⟨some 62, .bin .eql (.cp 36) (.c (.int .i64 15)), none⟩,
 ⟨some 61, .mov (.cp 62), none⟩] [] [3, 5, 9, 10, 11, 36, 61]
noncomputable abbrev C29_29 : LCode := .region false 0 [
 ⟨some 63, .load false (some 3) (.cp 3), none⟩,
 ⟨some 64, .mov (.cp 10), none⟩,
 ⟨some 65, .faddr (.cp 5) 3, none⟩,
 ⟨some 66, .load false none (.cp 65), none⟩,
 ⟨some 67, .call N_value_each [.cp 63, .cp 64, .cp 66, .c (.int .i64 0), .c (.int .i64 1)], none⟩,
 ⟨some 6, .mov (.cp 67), none⟩] [] [6]
noncomputable abbrev C29_30 : LCode := .seq C29_29 .ret
noncomputable abbrev C29_31 : LCode := .region false 0 [
 ⟨some 69, .bin .eql (.cp 36) (.c (.int .i64 14)), none⟩,
 ⟨some 68, .mov (.cp 69), none⟩] [] [3, 5, 9, 10, 11, 36, 68]
noncomputable abbrev C29_32 : LCode := .region false 0 [
 ⟨some 70, .load false (some 3) (.cp 3), none⟩,
 ⟨some 71, .mov (.cp 10), none⟩,
 ⟨some 72, .faddr (.cp 5) 3, none⟩,
 ⟨some 73, .load false none (.cp 72), none⟩,
 ⟨some 74, .call N_value_each [.cp 70, .cp 71, .cp 73, .c (.int .i64 0), .c (.int .i64 1)], none⟩,
 ⟨some 75, .mov (.cp 74), none⟩,
 ⟨some 76, .faddr (.cp 5) 3, some (75, true)⟩,
 ⟨some 77, .load false none (.cp 76), some (75, true)⟩,
 ⟨some 78, .call N_value_rise [.cp 77, .c (.int .i64 1)], some (75, true)⟩,
 ⟨some 79, .pick (.cp 75) (.cp 78) (.c (.bool false)), none⟩,
 ⟨some 6, .mov (.cp 79), none⟩] [] [6]
noncomputable abbrev C29_33 : LCode := .seq C29_32 .ret
noncomputable abbrev C29_34 : LCode := .region false 0 [
 ⟨some 81, .bin .eql (.cp 36) (.c (.int .i64 13)), none⟩,
 ⟨some 80, .mov (.cp 81), none⟩] [] [3, 5, 9, 10, 11, 36, 80]
noncomputable abbrev C29_35 : LCode := .region false 0 [
 ⟨some 82, .faddr (.cp 5) 3, none⟩,
 ⟨some 83, .load false none (.cp 82), none⟩,
 ⟨some 84, .len false (.cp 83), none⟩,
 ⟨some 85, .bin .rem (.cp 84) (.c (.int .i64 2)), none⟩,
 ⟨some 86, .bin .eql (.cp 85) (.c (.int .i64 0)), none⟩,
 ⟨some 87, .mov (.cp 86), none⟩,
 ⟨some 88, .load false (some 3) (.cp 3), some (87, true)⟩,
 ⟨some 89, .mov (.cp 10), some (87, true)⟩,
 ⟨some 90, .faddr (.cp 5) 3, some (87, true)⟩,
 ⟨some 91, .load false none (.cp 90), some (87, true)⟩,
 ⟨some 92, .call N_value_each [.cp 88, .cp 89, .cp 91, .c (.int .i64 0), .c (.int .i64 2)], some (87, true)⟩,
 ⟨some 93, .pick (.cp 87) (.cp 92) (.c (.bool false)), none⟩,
 ⟨some 94, .mov (.cp 93), none⟩,
 ⟨some 95, .load false (some 3) (.cp 3), some (94, true)⟩,
 ⟨some 96, .mov (.cp 11), some (94, true)⟩,
 ⟨some 97, .faddr (.cp 5) 3, some (94, true)⟩,
 ⟨some 98, .load false none (.cp 97), some (94, true)⟩,
 ⟨some 99, .call N_value_each [.cp 95, .cp 96, .cp 98, .c (.int .i64 1), .c (.int .i64 2)], some (94, true)⟩,
 ⟨some 100, .pick (.cp 94) (.cp 99) (.c (.bool false)), none⟩,
 ⟨some 101, .mov (.cp 100), none⟩,
 ⟨some 102, .faddr (.cp 5) 3, some (101, true)⟩,
 ⟨some 103, .load false none (.cp 102), some (101, true)⟩,
 ⟨some 104, .call N_value_rise [.cp 103, .c (.int .i64 2)], some (101, true)⟩,
 ⟨some 105, .pick (.cp 101) (.cp 104) (.c (.bool false)), none⟩,
 ⟨some 6, .mov (.cp 105), none⟩] [] [6]
noncomputable abbrev C29_36 : LCode := .seq C29_35 .ret
noncomputable abbrev C29_37 : LCode := .region false 0 [
 ⟨some 107, .bin .eql (.cp 36) (.c (.int .i64 17)), none⟩,
 ⟨some 106, .mov (.cp 107), none⟩] [] [3, 5, 9, 36, 106]
noncomputable abbrev C29_38 : LCode := .region false 1 [
 ⟨some 109, .load false (some 3) (.cp 3), none⟩,
 ⟨some 110, .mov (.cp 9), none⟩,
 ⟨some 111, .call N_value_Enum [.cp 109, .cp 110], none⟩,
 ⟨some 108, .mov (.cp 111), none⟩,
 ⟨some 112, .ext (.cp 108) 0, none⟩,
 ⟨some 113, .ext (.cp 108) 1, none⟩,
 ⟨some 13, .alloc 0 [.str [], .sl true 3 []], none⟩,
 ⟨none, .store (some 2) (.cp 13) (.mv 112), none⟩,
 ⟨some 14, .mov (.cp 113), none⟩] [] [5, 13]
noncomputable abbrev C29_39 : LCode := .region false 0 [
 ⟨some 114, .faddr (.cp 13) 1, none⟩,
 ⟨some 115, .load false none (.cp 114), none⟩,
 ⟨some 116, .mkfn N_value_Check_1 [.cp 5], none⟩,
 ⟨some 117, .call N_slices_ContainsFunc_api_Member_api_Member [.cp 115, .cp 116], none⟩,
 ⟨some 6, .mov (.cp 117), none⟩] [] [6]
noncomputable abbrev C29_40 : LCode := .seq C29_39 .ret
noncomputable abbrev C29_41 : LCode := .seq C29_38 C29_40
noncomputable abbrev C29_42 : LCode := .region false 0 [
 ⟨some 119, .bin .eql (.cp 36) (.c (.int .i64 12)), none⟩,
 ⟨some 118, .mov (.cp 119), none⟩] [] [3, 5, 9, 118]
noncomputable abbrev C29_43 : LCode := .region false 1 [
 ⟨some 121, .load false (some 3) (.cp 3), none⟩,
 ⟨some 122, .mov (.cp 9), none⟩,
 ⟨some 123, .call N_value_Struct [.cp 121, .cp 122], none⟩,
 ⟨some 120, .mov (.cp 123), none⟩,
 ⟨some 124, .ext (.cp 120) 0, none⟩,
 ⟨some 125, .ext (.cp 120) 1, none⟩,
 ⟨some 15, .alloc 0 [.int .i64 0, .str [], .sl true 10 []], none⟩,
 ⟨none, .store (some 3) (.cp 15) (.mv 124), none⟩,
 ⟨some 16, .mov (.cp 125), none⟩] [] [3, 5, 15]
noncomputable abbrev C29_44 : LCode := .region false 0 [
 ⟨some 126, .load false (some 3) (.cp 3), none⟩,
 ⟨some 127, .load false (some 3) (.cp 15), none⟩,
 ⟨some 128, .load false (some 5) (.cp 5), none⟩,
 ⟨some 129, .call N_value_Fields [.cp 126, .cp 127, .cp 128], none⟩,
 ⟨some 6, .mov (.cp 129), none⟩] [] [6]
noncomputable abbrev C29_45 : LCode := .seq C29_44 .ret
noncomputable abbrev C29_46 : LCode := .seq C29_43 C29_45
noncomputable abbrev C29_47 : LCode := .cond (.cp 118) C29_46 .skip
noncomputable abbrev C29_48 : LCode := .seq C29_42 C29_47
noncomputable abbrev C29_49 : LCode := .cond (.cp 106) C29_41 C29_48
noncomputable abbrev C29_50 : LCode := .seq C29_37 C29_49
noncomputable abbrev C29_51 : LCode := .cond (.cp 80) C29_36 C29_50
noncomputable abbrev C29_52 : LCode := .seq C29_34 C29_51
noncomputable abbrev C29_53 : LCode := .cond (.cp 68) C29_33 C29_52
noncomputable abbrev C29_54 : LCode := .seq C29_31 C29_53
noncomputable abbrev C29_55 : LCode := .cond (.cp 61) C29_30 C29_54
noncomputable abbrev C29_56 : LCode := .seq C29_28 C29_55
noncomputable abbrev C29_57 : LCode := .cond (.cp 56) C29_27 C29_56
noncomputable abbrev C29_58 : LCode := .seq C29_25 C29_57
noncomputable def C29_59 : LCode := .cond (.cp 47) C29_24 C29_58
noncomputable abbrev C29_60 : LCode := .only [3, 5, 7, 9, 10, 11, 36, 47] C29_59
noncomputable abbrev C29_61 : LCode := .seq C29_22 C29_60
noncomputable abbrev C29_62 : LCode := .cond (.cp 37) C29_12 C29_61
noncomputable abbrev C29_63 : LCode := .seq C29_10 C29_62
noncomputable abbrev C29_64 : LCode := .block 0 C29_63
noncomputable abbrev C29_65 : LCode := .seq C29_9 C29_64
noncomputable abbrev C29_66 : LCode := .region false 0 [
 ⟨some 6, .mov (.c (.bool true)), none⟩] [] [6]
noncomputable abbrev C29_67 : LCode := .seq C29_66 .ret
noncomputable def C29_68 : LCode := .seq C29_65 C29_67
noncomputable abbrev C29_69 : LCode := .only [3, 5, 7, 9, 10, 11] C29_68
noncomputable abbrev C29_70 : LCode := .seq C29_8 C29_69
noncomputable abbrev C29_71 : LCode := .seq C29_3 C29_70
noncomputable abbrev C29_72 : LCode := .seq C29_2 C29_71
noncomputable abbrev C29_73 : LCode := .seq C29_1 C29_72
noncomputable def L_value_Check : LF := { np := 3, res := [.tmp 6], keepRes := false, body := C29_73 }
noncomputable abbrev C104_1 : LCode := .region false 0 [
 ⟨some 4, .mov (.cp 0), none⟩,
 ⟨some 5, .mov (.cp 0), none⟩,
 ⟨some 6, .nilc (.cp 5), none⟩,
 ⟨some 7, .faddr (.cp 6) 3, none⟩,
 ⟨some 8, .load true none (.cp 7), none⟩,
 ⟨some 9, .mov (.cp 1), none⟩,
 ⟨some 10, .conv .u8 (.cp 9), none⟩,
 ⟨some 11, .bslice 1 (List.replicate 1 (.int .u8 0)) [(0, (.cp 10))], none⟩,
 ⟨some 12, .append 1 1 (.mv 8) (.cp 11), none⟩,
 ⟨some 13, .nilc (.cp 4), none⟩,
 ⟨some 14, .faddr (.cp 13) 3, none⟩,
 ⟨none, .store none (.cp 14) (.mv 12), none⟩] [] []
noncomputable def L_tcomp_writer_byte : LF := { np := 2, res := [], keepRes := false, body := C104_1 }
noncomputable abbrev C106_1 : LCode := .region false 0 [
 ⟨some 2, .mov (.c (.int .u32 0)), none⟩] [] [0]
noncomputable abbrev C106_2 : LCode := .region false 0 [
 ⟨some 3, .mov (.cp 0), none⟩,
 ⟨some 4, .conv .u32 (.cp 3), none⟩,
 ⟨some 5, .bin .shl (.cp 4) (.c (.int .u64 1)), none⟩,
 ⟨some 6, .mov (.cp 0), none⟩,
 ⟨some 7, .bin .shr (.cp 6) (.c (.int .u64 31)), none⟩,
 ⟨some 8, .conv .u32 (.cp 7), none⟩,
 ⟨some 9, .bin .xor (.cp 5) (.cp 8), none⟩,
 ⟨some 2, .mov (.cp 9), none⟩] [] [2]
noncomputable abbrev C106_3 : LCode := .seq C106_2 .ret
noncomputable abbrev C106_4 : LCode := .seq C106_1 C106_3
noncomputable def L_zig_Zig32 : LF := { np := 1, res := [.tmp 2], keepRes := false, body := C106_4 }
noncomputable abbrev C162_1 : LCode := .region false 0 [
 ⟨some 4, .mov (.c (.sl true 1 [])), none⟩] [] [0, 1]
noncomputable abbrev C162_2 : LCode := .region false 0 [
 ⟨some 6, .mov (.mv 0), none⟩,
 ⟨some 7, .call N_slices_Clone_byte_byte [.cp 6], none⟩,
 ⟨some 5, .mov (.mv 7), none⟩] [] [1, 5]
noncomputable abbrev C162_3 : LCode := .region false 0 [
 ⟨some 8, .mov (.cp 1), none⟩,
 ⟨some 9, .bin .gtr (.cp 8) (.c (.int .u64 127)), none⟩] [] [1, 5, 9]
noncomputable abbrev C162_4 : LCode := .cond (.cp 9) .skip (.exit 0)
noncomputable abbrev C162_5 : LCode := .seq C162_3 C162_4
noncomputable abbrev C162_6 : LCode := .region false 0 [
 ⟨some 10, .mov (.mv 5), none⟩,
 ⟨some 11, .mov (.cp 1), none⟩,
 ⟨some 12, .conv .u8 (.cp 11), none⟩,
 ⟨some 13, .bin .or (.cp 12) (.c (.int .u8 128)), none⟩,
 ⟨some 14, .bslice 1 (List.replicate 1 (.int .u8 0)) [(0, (.cp 13))], none⟩,
 ⟨some 15, .append 1 1 (.mv 10) (.cp 14), none⟩,
 ⟨some 5, .mov (.mv 15), none⟩] [] [1, 5]
noncomputable abbrev C162_7 : LCode := .region false 0 [
 ⟨some 16, .mov (.cp 1), none⟩,
 ⟨some 17, .bin .shr (.cp 16) (.c (.int .u64 7)), none⟩,
 ⟨some 1, .mov (.cp 17), none⟩] [] [1, 5]
noncomputable abbrev C162_8 : LCode := .seq C162_6 C162_7
noncomputable abbrev C162_9 : LCode := .block 1 C162_8
noncomputable def C162_10 : LCode := .seq C162_5 C162_9
noncomputable abbrev C162_11 : LCode := .gc (.only [1, 5] C162_10)
noncomputable abbrev C162_12 : LCode := .only [1, 5] (.loop C162_11)
noncomputable abbrev C162_13 : LCode := .block 0 C162_12
noncomputable abbrev C162_14 : LCode := .region false 0 [
 ⟨some 18, .mov (.mv 5), none⟩,
 ⟨some 19, .mov (.cp 1), none⟩,
 ⟨some 20, .conv .u8 (.cp 19), none⟩,
 ⟨some 21, .bslice 1 (List.replicate 1 (.int .u8 0)) [(0, (.cp 20))], none⟩,
 ⟨some 22, .append 1 1 (.mv 18) (.cp 21), none⟩,
 ⟨some 4, .mov (.mv 22), none⟩] [] [4]
noncomputable abbrev C162_15 : LCode := .seq C162_14 .ret
noncomputable abbrev C162_16 : LCode := .seq C162_13 C162_15
noncomputable abbrev C162_17 : LCode := .seq C162_2 C162_16
noncomputable abbrev C162_18 : LCode := .seq C162_1 C162_17
noncomputable def L_zig_Put : LF := { np := 2, res := [.tmp 4], keepRes := true, body := C162_18 }
noncomputable abbrev C105_1 : LCode := .region false 0 [
 ⟨some 4, .mov (.cp 0), none⟩,
 ⟨some 5, .mov (.cp 0), none⟩,
 ⟨some 6, .nilc (.cp 5), none⟩,
 ⟨some 7, .faddr (.cp 6) 3, none⟩,
 ⟨some 8, .load false none (.cp 7), none⟩,
 ⟨some 9, .mov (.cp 1), none⟩,
 ⟨some 10, .call N_zig_Put [.cp 8, .cp 9], none⟩,
 ⟨some 11, .nilc (.cp 4), none⟩,
 ⟨some 12, .faddr (.cp 11) 3, none⟩,
 ⟨none, .store none (.cp 12) (.mv 10), none⟩] [] []
noncomputable def L_tcomp_writer_num : LF := { np := 2, res := [], keepRes := false, body := C105_1 }
noncomputable abbrev C107_1 : LCode := .region false 0 [
 ⟨some 2, .mov (.c (.int .u64 0)), none⟩] [] [0]
noncomputable abbrev C107_2 : LCode := .region false 0 [
 ⟨some 3, .mov (.cp 0), none⟩,
 ⟨some 4, .conv .u64 (.cp 3), none⟩,
 ⟨some 5, .bin .shl (.cp 4) (.c (.int .u64 1)), none⟩,
 ⟨some 6, .mov (.cp 0), none⟩,
 ⟨some 7, .bin .shr (.cp 6) (.c (.int .u64 63)), none⟩,
 ⟨some 8, .conv .u64 (.cp 7), none⟩,
 ⟨some 9, .bin .xor (.cp 5) (.cp 8), none⟩,
 ⟨some 2, .mov (.cp 9), none⟩] [] [2]
noncomputable abbrev C107_3 : LCode := .seq C107_2 .ret
noncomputable abbrev C107_4 : LCode := .seq C107_1 C107_3
noncomputable def L_zig_Zig64 : LF := { np := 1, res := [.tmp 2], keepRes := false, body := C107_4 }
noncomputable abbrev C38_1 : LCode := .region false 0 [
 ⟨some 2, .mov (.c (.int .i64 0)), none⟩] [] [0]
noncomputable abbrev C38_2 : LCode := .region false 0 [
 ⟨some 3, .mov (.cp 0), none⟩] [] [3]
noncomputable abbrev C38_3 : LCode := .region false 0 [
 ⟨some 5, .bin .eql (.cp 3) (.c (.int .i64 2)), none⟩,
 ⟨some 4, .mov (.cp 5), none⟩] [] [3, 4]
noncomputable abbrev C38_4 : LCode := .region false 0 [
 ⟨some 2, .mov (.c (.int .i64 1)), none⟩] [] [2]
noncomputable abbrev C38_5 : LCode := .seq C38_4 .ret
noncomputable abbrev C38_6 : LCode := .region false 0 [
 ⟨some 7, .bin .eql (.cp 3) (.c (.int .i64 3)), none⟩,
 ⟨some 6, .mov (.cp 7), none⟩] [] [3, 6]
noncomputable abbrev C38_7 : LCode := .region false 0 [
 ⟨some 2, .mov (.c (.int .i64 3)), none⟩] [] [2]
noncomputable abbrev C38_8 : LCode := .seq C38_7 .ret
noncomputable abbrev C38_9 : LCode := .region false 0 [
 ⟨some 9, .bin .eql (.cp 3) (.c (.int .i64 6)), none⟩,
 ⟨some 8, .mov (.cp 9), none⟩] [] [3, 8]
noncomputable abbrev C38_10 : LCode := .region false 0 [
 ⟨some 2, .mov (.c (.int .i64 4)), none⟩] [] [2]
noncomputable abbrev C38_11 : LCode := .seq C38_10 .ret
noncomputable abbrev C38_12 : LCode := .region false 0 [
 ⟨some 11, .bin .eql (.cp 3) (.c (.int .i64 8)), none⟩,
 ⟨some 10, .mov (.cp 11), none⟩] [] [3, 10]
noncomputable abbrev C38_13 : LCode := .region false 0 [
 ⟨some 12, .bin .eql (.cp 3) (.c (.int .i64 17)), none⟩,
 ⟨some 10, .mov (.cp 12), none⟩] [] [3, 10]
noncomputable abbrev C38_14 : LCode := .cond (.cp 10) .skip C38_13
noncomputable abbrev C38_15 : LCode := .seq C38_12 C38_14
noncomputable abbrev C38_16 : LCode := .region false 0 [
 ⟨some 2, .mov (.c (.int .i64 5)), none⟩] [] [2]
noncomputable abbrev C38_17 : LCode := .seq C38_16 .ret
noncomputable abbrev C38_18 : LCode := .region false 0 [
 ⟨some 14, .bin .eql (.cp 3) (.c (.int .i64 10)), none⟩,
 ⟨some 13, .mov (.cp 14), none⟩] [] [3, 13]
noncomputable abbrev C38_19 : LCode := .region false 0 [
 ⟨some 2, .mov (.c (.int .i64 6)), none⟩] [] [2]
noncomputable abbrev C38_20 : LCode := .seq C38_19 .ret
noncomputable abbrev C38_21 : LCode := .region false 0 [
 ⟨some 16, .bin .eql (.cp 3) (.c (.int .i64 4)), none⟩,
 ⟨some 15, .mov (.cp 16), none⟩] [] [3, 15]
noncomputable abbrev C38_22 : LCode := .region false 0 [
 ⟨some 2, .mov (.c (.int .i64 7)), none⟩] [] [2]
noncomputable abbrev C38_23 : LCode := .seq C38_22 .ret
noncomputable abbrev C38_24 : LCode := .region false 0 [
 ⟨some 18, .bin .eql (.cp 3) (.c (.int .i64 11)), none⟩,
 ⟨some 17, .mov (.cp 18), none⟩] [] [3, 17]
noncomputable abbrev C38_25 : LCode := .region false 0 [
 ⟨some 19, .bin .eql (.cp 3) (.c (.int .i64 16)), none⟩,
 ⟨some 17, .mov (.cp 19), none⟩] [] [3, 17]
noncomputable abbrev C38_26 : LCode := .cond (.cp 17) .skip C38_25
noncomputable abbrev C38_27 : LCode := .seq C38_24 C38_26
noncomputable abbrev C38_28 : LCode := .region false 0 [
 ⟨some 2, .mov (.c (.int .i64 8)), none⟩] [] [2]
noncomputable abbrev C38_29 : LCode := .seq C38_28 .ret
noncomputable abbrev C38_30 : LCode := .region false 0 [
 ⟨some 21, .bin .eql (.cp 3) (.c (.int .i64 15)), none⟩,
 ⟨some 20, .mov (.cp 21), none⟩] [] [3, 20]
noncomputable abbrev C38_31 : LCode := .region false 0 [
 ⟨some 2, .mov (.c (.int .i64 9)), none⟩] [] [2]
noncomputable abbrev C38_32 : LCode := .seq C38_31 .ret
noncomputable abbrev C38_33 : LCode := .region false 0 [
 ⟨some 23, .bin .eql (.cp 3) (.c (.int .i64 14)), none⟩,
 ⟨some 22, .mov (.cp 23), none⟩] [] [3, 22]
noncomputable abbrev C38_34 : LCode := .region false 0 [
 ⟨some 2, .mov (.c (.int .i64 10)), none⟩] [] [2]
noncomputable abbrev C38_35 : LCode := .seq C38_34 .ret
noncomputable abbrev C38_36 : LCode := .region false 0 [
 ⟨some 25, .bin .eql (.cp 3) (.c (.int .i64 13)), none⟩,
 ⟨some 24, .mov (.cp 25), none⟩] [] [3, 24]
noncomputable abbrev C38_37 : LCode := .region false 0 [
 ⟨some 2, .mov (.c (.int .i64 11)), none⟩] [] [2]
noncomputable abbrev C38_38 : LCode := .seq C38_37 .ret
noncomputable abbrev C38_39 : LCode := .region false 0 [
 ⟨some 27, .bin .eql (.cp 3) (.c (.int .i64 12)), none⟩,
 ⟨some 26, .mov (.cp 27), none⟩] [] [26]
noncomputable abbrev C38_40 : LCode := .region false 0 [
 ⟨some 2, .mov (.c (.int .i64 12)), none⟩] [] [2]
noncomputable abbrev C38_41 : LCode := .seq C38_40 .ret
noncomputable abbrev C38_42 : LCode := .cond (.cp 26) C38_41 .skip
noncomputable abbrev C38_43 : LCode := .seq C38_39 C38_42
noncomputable abbrev C38_44 : LCode := .cond (.cp 24) C38_38 C38_43
noncomputable abbrev C38_45 : LCode := .seq C38_36 C38_44
noncomputable abbrev C38_46 : LCode := .cond (.cp 22) C38_35 C38_45
noncomputable abbrev C38_47 : LCode := .seq C38_33 C38_46
noncomputable abbrev C38_48 : LCode := .cond (.cp 20) C38_32 C38_47
noncomputable abbrev C38_49 : LCode := .seq C38_30 C38_48
noncomputable def C38_50 : LCode := .cond (.cp 17) C38_29 C38_49
noncomputable abbrev C38_51 : LCode := .only [3, 17] C38_50
noncomputable abbrev C38_52 : LCode := .seq C38_27 C38_51
noncomputable abbrev C38_53 : LCode := .cond (.cp 15) C38_23 C38_52
noncomputable abbrev C38_54 : LCode := .seq C38_21 C38_53
noncomputable abbrev C38_55 : LCode := .cond (.cp 13) C38_20 C38_54
noncomputable abbrev C38_56 : LCode := .seq C38_18 C38_55
noncomputable def C38_57 : LCode := .cond (.cp 10) C38_17 C38_56
noncomputable abbrev C38_58 : LCode := .only [3, 10] C38_57
noncomputable abbrev C38_59 : LCode := .seq C38_15 C38_58
noncomputable abbrev C38_60 : LCode := .cond (.cp 8) C38_11 C38_59
noncomputable abbrev C38_61 : LCode := .seq C38_9 C38_60
noncomputable abbrev C38_62 : LCode := .cond (.cp 6) C38_8 C38_61
noncomputable abbrev C38_63 : LCode := .seq C38_6 C38_62
noncomputable abbrev C38_64 : LCode := .cond (.cp 4) C38_5 C38_63
noncomputable abbrev C38_65 : LCode := .seq C38_3 C38_64
noncomputable abbrev C38_66 : LCode := .block 0 C38_65
noncomputable abbrev C38_67 : LCode := .seq C38_2 C38_66
noncomputable abbrev C38_68 : LCode := .region false 0 [
 ⟨some 2, .mov (.c (.int .i64 0)), none⟩] [] [2]
noncomputable abbrev C38_69 : LCode := .seq C38_68 .ret
noncomputable abbrev C38_70 : LCode := .seq C38_67 C38_69
noncomputable abbrev C38_71 : LCode := .seq C38_1 C38_70
noncomputable def L_tcomp_Short : LF := { np := 1, res := [.tmp 2], keepRes := false, body := C38_71 }
end Go.Proofs.YtfihinodhhhllaaGreat

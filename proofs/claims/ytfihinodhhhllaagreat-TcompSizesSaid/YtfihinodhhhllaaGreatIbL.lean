/- The small code of the functions; printed by lift.py. -/
import Derived.Test.YtfihinodhhhllaaGreatIbL0
import Derived.Test.YtfihinodhhhllaaGreatIbL1
import Derived.Test.YtfihinodhhhllaaGreatIbL2
set_option linter.unusedVariables false
set_option linter.unusedSimpArgs false
namespace Go.Proofs.YtfihinodhhhllaaGreat
open Go
noncomputable def T0 : Tab := [
  (N_kind_cursor_fails, .code L_kind_cursor_fails),
  (N_kind_letter, .code L_kind_letter),
  (N_kind_cursor_part, .code L_kind_cursor_part),
  (N_kind_word, .code L_kind_word),
  (N_kind_cursor_rest, .code L_kind_cursor_rest),
  (N_kind_inner, .code L_kind_inner),
  (N_kind_cursor_sign, .code L_kind_cursor_sign),
  (N_kind_cursor_one, .code L_kind_cursor_one),
  (N_kind_read, .code L_kind_read),
  (N_kind_May, .code L_kind_May),
  (N_kind_Names, .code L_kind_Names),
  (N_slices_IndexFunc_string_string, .code L_slices_IndexFunc_string_string),
  (N_slices_ContainsFunc_string_string, .code L_slices_ContainsFunc_string_string),
  (N_internal_stringslite_IndexByte, .code L_internal_stringslite_IndexByte),
  (N_strings_IndexByte, .code L_strings_IndexByte),
  (N_kind_Head, .code L_kind_Head),
  (N_slices_IndexFunc_api_SStruct_api_SStruct, .code L_slices_IndexFunc_api_SStruct_api_SStruct),
  (N_value_Struct_1, .code L_value_Struct_1),
  (N_value_Struct, .code L_value_Struct),
  (N_slices_IndexFunc_api_SEnum_api_SEnum, .code L_slices_IndexFunc_api_SEnum_api_SEnum),
  (N_value_Enum_1, .code L_value_Enum_1),
  (N_value_Enum, .code L_value_Enum),
  (N_value_Kind, .code L_value_Kind),
  (N_tcomp_known_1, .code L_tcomp_known_1),
  (N_tcomp_known, .code L_tcomp_known),
  (N_value_fits, .code L_value_fits),
  (N_value_size, .code L_value_size),
  (N_value_Valid, .code L_value_Valid),
  (N_value_each, .code L_value_each),
  (N_cmp_isNaN_int, .code L_cmp_isNaN_int),
  (N_cmp_Compare_int, .code L_cmp_Compare_int),
  (N_cmp_isNaN_int64, .code L_cmp_isNaN_int64),
  (N_cmp_Compare_int64, .code L_cmp_Compare_int64),
  (N_cmp_isNaN_uint64, .code L_cmp_isNaN_uint64),
  (N_cmp_Compare_uint64, .code L_cmp_Compare_uint64),
  (N_internal_bytealg_CompareString, .code L_internal_bytealg_CompareString),
  (N_strings_Compare, .code L_strings_Compare),
  (N_order_places, .code L_order_places),
  (N_order_structs, .code L_order_structs),
  (N_order_Cmp, .code L_order_Cmp),
  (N_value_rise, .code L_value_rise),
  (N_slices_IndexFunc_api_Member_api_Member, .code L_slices_IndexFunc_api_Member_api_Member),
  (N_slices_ContainsFunc_api_Member_api_Member, .code L_slices_ContainsFunc_api_Member_api_Member),
  (N_value_Check_1, .code L_value_Check_1),
  (N_slices_IndexFunc_api_SField_api_SField, .code L_slices_IndexFunc_api_SField_api_SField),
  (N_value_Field_1, .code L_value_Field_1),
  (N_value_Field, .code L_value_Field),
  (N_slices_Index_int_int, .code L_slices_Index_int_int),
  (N_slices_Contains_int_int, .code L_slices_Contains_int_int),
  (N_value_Fields, .code L_value_Fields),
  (N_value_Check, .code L_value_Check),
  (N_tcomp_writer_byte, .code L_tcomp_writer_byte),
  (N_zig_Zig32, .code L_zig_Zig32),
  (N_zig_Put, .code L_zig_Put),
  (N_tcomp_writer_num, .code L_tcomp_writer_num),
  (N_zig_Zig64, .code L_zig_Zig64),
  (N_tcomp_Short, .code L_tcomp_Short),
  (N_tcomp_writer_short, .code L_tcomp_writer_short),
  (N_tcomp_writer_list, .code L_tcomp_writer_list),
  (N_tcomp_writer_pairs, .code L_tcomp_writer_pairs),
  (N_tcomp_writer_fields, .code L_tcomp_writer_fields),
  (N_tcomp_writer_value, .code L_tcomp_writer_value),
  (N_measure_holds, .code L_measure_holds),
  (N_measure_Depth, .code L_measure_Depth),
  (N_tcomp_writer_done, .code L_tcomp_writer_done),
  (N_tcomp_Encode, .code L_tcomp_Encode),
  (N_law20_TcompSizes, .code L_law20_TcompSizes),
  (N_law20_begun, .code L_law20_begun),
  (N_tcomp_Decode, .code L_tcomp_Decode),
  (N_tcomp_EncodeAs, .code L_tcomp_EncodeAs),
  (N_tcomp_DecodeAs, .code L_tcomp_DecodeAs),
  (N_tcomp_Skip, .code L_tcomp_Skip),
  (N_tcomp_reader_value, .code L_tcomp_reader_value),
  (N_tcomp_reader_done, .code L_tcomp_reader_done),
  (N_tcomp_reader_fields, .code L_tcomp_reader_fields),
  (N_tcomp_cursor_skip, .code L_tcomp_cursor_skip),
  (N_tcomp_cursor_ok, .code L_tcomp_cursor_ok),
  (N_tcomp_cursor_byte, .code L_tcomp_cursor_byte),
  (N_tcomp_cursor_fails, .code L_tcomp_cursor_fails),
  (N_tcomp_cursor_num, .code L_tcomp_cursor_num),
  (N_zig_Zag32, .code L_zig_Zag32),
  (N_tcomp_reader_value_1, .code L_tcomp_reader_value_1),
  (N_zig_Zag64, .code L_zig_Zag64),
  (N_tcomp_cursor_bytes, .code L_tcomp_cursor_bytes),
  (N_tcomp_cursor_count, .code L_tcomp_cursor_count),
  (N_tcomp_reader_list, .code L_tcomp_reader_list),
  (N_tcomp_reader_pairs, .code L_tcomp_reader_pairs),
  (N_tcomp_cursor_head, .code L_tcomp_cursor_head),
  (N_tcomp_reader_field, .code L_tcomp_reader_field),
  (N_tcomp_reader_whole, .code L_tcomp_reader_whole),
  (N_tcomp_reader_normal, .code L_tcomp_reader_normal),
  (N_tcomp_cursor_skips, .code L_tcomp_cursor_skips),
  (N_zig_Take, .code L_zig_Take),
  (N_tcomp_cursor_element, .code L_tcomp_cursor_element),
  (N_tcomp_reader_is, .code L_tcomp_reader_is),
  (N_order_Normal, .code L_order_Normal),
  (N_tcomp_cursor_list, .code L_tcomp_cursor_list),
  (N_tcomp_none, .code L_tcomp_none),
  (N_order_within, .code L_order_within),
  (N_slices_CompareFunc_api_Value_api_Value_api_Value_api_Value, .code L_slices_CompareFunc_api_Value_api_Value_api_Value_api_Value),
  (N_order_holds, .code L_order_holds),
  (N_order_Copy, .code L_order_Copy),
  (N_order_within_1, .code L_order_within_1),
  (N_order_fields, .code L_order_fields),
  (N_order_fields_1, .code L_order_fields_1),
  (N_slices_SortStableFunc_int_int, .code L_slices_SortStableFunc_int_int),
  (N_slices_stableCmpFunc_int, .code L_slices_stableCmpFunc_int),
  (N_slices_insertionSortCmpFunc_int, .code L_slices_insertionSortCmpFunc_int),
  (N_slices_Clone_byte_byte, .spec (cloneA 1 1)),
  (N_internal_bytealg_IndexByteString, .spec (indexA)),
  (N_slices_Clone_int_int, .spec (cloneA 1 8)),
  (N_internal_bytealg_abigen_runtime_cmpstring, .spec (compareA))]
theorem at_kind_cursor_fails : T0.lookup N_kind_cursor_fails = some (.code L_kind_cursor_fails) := by rfl
theorem at_kind_letter : T0.lookup N_kind_letter = some (.code L_kind_letter) := by rfl
theorem at_kind_cursor_part : T0.lookup N_kind_cursor_part = some (.code L_kind_cursor_part) := by rfl
theorem at_kind_word : T0.lookup N_kind_word = some (.code L_kind_word) := by rfl
theorem at_kind_cursor_rest : T0.lookup N_kind_cursor_rest = some (.code L_kind_cursor_rest) := by rfl
theorem at_kind_inner : T0.lookup N_kind_inner = some (.code L_kind_inner) := by rfl
theorem at_kind_cursor_sign : T0.lookup N_kind_cursor_sign = some (.code L_kind_cursor_sign) := by rfl
theorem at_kind_cursor_one : T0.lookup N_kind_cursor_one = some (.code L_kind_cursor_one) := by rfl
theorem at_kind_read : T0.lookup N_kind_read = some (.code L_kind_read) := by rfl
theorem at_kind_May : T0.lookup N_kind_May = some (.code L_kind_May) := by rfl
theorem at_kind_Names : T0.lookup N_kind_Names = some (.code L_kind_Names) := by rfl
theorem at_slices_IndexFunc_string_string : T0.lookup N_slices_IndexFunc_string_string = some (.code L_slices_IndexFunc_string_string) := by rfl
theorem at_slices_ContainsFunc_string_string : T0.lookup N_slices_ContainsFunc_string_string = some (.code L_slices_ContainsFunc_string_string) := by rfl
theorem at_internal_stringslite_IndexByte : T0.lookup N_internal_stringslite_IndexByte = some (.code L_internal_stringslite_IndexByte) := by rfl
theorem at_strings_IndexByte : T0.lookup N_strings_IndexByte = some (.code L_strings_IndexByte) := by rfl
theorem at_kind_Head : T0.lookup N_kind_Head = some (.code L_kind_Head) := by rfl
theorem at_slices_IndexFunc_api_SStruct_api_SStruct : T0.lookup N_slices_IndexFunc_api_SStruct_api_SStruct = some (.code L_slices_IndexFunc_api_SStruct_api_SStruct) := by rfl
theorem at_value_Struct_1 : T0.lookup N_value_Struct_1 = some (.code L_value_Struct_1) := by rfl
theorem at_value_Struct : T0.lookup N_value_Struct = some (.code L_value_Struct) := by rfl
theorem at_slices_IndexFunc_api_SEnum_api_SEnum : T0.lookup N_slices_IndexFunc_api_SEnum_api_SEnum = some (.code L_slices_IndexFunc_api_SEnum_api_SEnum) := by rfl
theorem at_value_Enum_1 : T0.lookup N_value_Enum_1 = some (.code L_value_Enum_1) := by rfl
theorem at_value_Enum : T0.lookup N_value_Enum = some (.code L_value_Enum) := by rfl
theorem at_value_Kind : T0.lookup N_value_Kind = some (.code L_value_Kind) := by rfl
theorem at_tcomp_known_1 : T0.lookup N_tcomp_known_1 = some (.code L_tcomp_known_1) := by rfl
theorem at_tcomp_known : T0.lookup N_tcomp_known = some (.code L_tcomp_known) := by rfl
theorem at_value_fits : T0.lookup N_value_fits = some (.code L_value_fits) := by rfl
theorem at_value_size : T0.lookup N_value_size = some (.code L_value_size) := by rfl
theorem at_value_Valid : T0.lookup N_value_Valid = some (.code L_value_Valid) := by rfl
theorem at_value_each : T0.lookup N_value_each = some (.code L_value_each) := by rfl
theorem at_cmp_isNaN_int : T0.lookup N_cmp_isNaN_int = some (.code L_cmp_isNaN_int) := by rfl
theorem at_cmp_Compare_int : T0.lookup N_cmp_Compare_int = some (.code L_cmp_Compare_int) := by rfl
theorem at_cmp_isNaN_int64 : T0.lookup N_cmp_isNaN_int64 = some (.code L_cmp_isNaN_int64) := by rfl
theorem at_cmp_Compare_int64 : T0.lookup N_cmp_Compare_int64 = some (.code L_cmp_Compare_int64) := by rfl
theorem at_cmp_isNaN_uint64 : T0.lookup N_cmp_isNaN_uint64 = some (.code L_cmp_isNaN_uint64) := by rfl
theorem at_cmp_Compare_uint64 : T0.lookup N_cmp_Compare_uint64 = some (.code L_cmp_Compare_uint64) := by rfl
theorem at_internal_bytealg_CompareString : T0.lookup N_internal_bytealg_CompareString = some (.code L_internal_bytealg_CompareString) := by rfl
theorem at_strings_Compare : T0.lookup N_strings_Compare = some (.code L_strings_Compare) := by rfl
theorem at_order_places : T0.lookup N_order_places = some (.code L_order_places) := by rfl
theorem at_order_structs : T0.lookup N_order_structs = some (.code L_order_structs) := by rfl
theorem at_order_Cmp : T0.lookup N_order_Cmp = some (.code L_order_Cmp) := by rfl
theorem at_value_rise : T0.lookup N_value_rise = some (.code L_value_rise) := by rfl
theorem at_slices_IndexFunc_api_Member_api_Member : T0.lookup N_slices_IndexFunc_api_Member_api_Member = some (.code L_slices_IndexFunc_api_Member_api_Member) := by rfl
theorem at_slices_ContainsFunc_api_Member_api_Member : T0.lookup N_slices_ContainsFunc_api_Member_api_Member = some (.code L_slices_ContainsFunc_api_Member_api_Member) := by rfl
theorem at_value_Check_1 : T0.lookup N_value_Check_1 = some (.code L_value_Check_1) := by rfl
theorem at_slices_IndexFunc_api_SField_api_SField : T0.lookup N_slices_IndexFunc_api_SField_api_SField = some (.code L_slices_IndexFunc_api_SField_api_SField) := by rfl
theorem at_value_Field_1 : T0.lookup N_value_Field_1 = some (.code L_value_Field_1) := by rfl
theorem at_value_Field : T0.lookup N_value_Field = some (.code L_value_Field) := by rfl
theorem at_slices_Index_int_int : T0.lookup N_slices_Index_int_int = some (.code L_slices_Index_int_int) := by rfl
theorem at_slices_Contains_int_int : T0.lookup N_slices_Contains_int_int = some (.code L_slices_Contains_int_int) := by rfl
theorem at_value_Fields : T0.lookup N_value_Fields = some (.code L_value_Fields) := by rfl
theorem at_value_Check : T0.lookup N_value_Check = some (.code L_value_Check) := by rfl
theorem at_tcomp_writer_byte : T0.lookup N_tcomp_writer_byte = some (.code L_tcomp_writer_byte) := by rfl
theorem at_zig_Zig32 : T0.lookup N_zig_Zig32 = some (.code L_zig_Zig32) := by rfl
theorem at_zig_Put : T0.lookup N_zig_Put = some (.code L_zig_Put) := by rfl
theorem at_tcomp_writer_num : T0.lookup N_tcomp_writer_num = some (.code L_tcomp_writer_num) := by rfl
theorem at_zig_Zig64 : T0.lookup N_zig_Zig64 = some (.code L_zig_Zig64) := by rfl
theorem at_tcomp_Short : T0.lookup N_tcomp_Short = some (.code L_tcomp_Short) := by rfl
theorem at_tcomp_writer_short : T0.lookup N_tcomp_writer_short = some (.code L_tcomp_writer_short) := by rfl
theorem at_tcomp_writer_list : T0.lookup N_tcomp_writer_list = some (.code L_tcomp_writer_list) := by rfl
theorem at_tcomp_writer_pairs : T0.lookup N_tcomp_writer_pairs = some (.code L_tcomp_writer_pairs) := by rfl
theorem at_tcomp_writer_fields : T0.lookup N_tcomp_writer_fields = some (.code L_tcomp_writer_fields) := by rfl
theorem at_tcomp_writer_value : T0.lookup N_tcomp_writer_value = some (.code L_tcomp_writer_value) := by rfl
theorem at_measure_holds : T0.lookup N_measure_holds = some (.code L_measure_holds) := by rfl
theorem at_measure_Depth : T0.lookup N_measure_Depth = some (.code L_measure_Depth) := by rfl
theorem at_tcomp_writer_done : T0.lookup N_tcomp_writer_done = some (.code L_tcomp_writer_done) := by rfl
theorem at_tcomp_Encode : T0.lookup N_tcomp_Encode = some (.code L_tcomp_Encode) := by rfl
theorem at_law20_TcompSizes : T0.lookup N_law20_TcompSizes = some (.code L_law20_TcompSizes) := by rfl
theorem at_law20_begun : T0.lookup N_law20_begun = some (.code L_law20_begun) := by rfl
theorem at_tcomp_Decode : T0.lookup N_tcomp_Decode = some (.code L_tcomp_Decode) := by rfl
theorem at_tcomp_EncodeAs : T0.lookup N_tcomp_EncodeAs = some (.code L_tcomp_EncodeAs) := by rfl
theorem at_tcomp_DecodeAs : T0.lookup N_tcomp_DecodeAs = some (.code L_tcomp_DecodeAs) := by rfl
theorem at_tcomp_Skip : T0.lookup N_tcomp_Skip = some (.code L_tcomp_Skip) := by rfl
theorem at_tcomp_reader_value : T0.lookup N_tcomp_reader_value = some (.code L_tcomp_reader_value) := by rfl
theorem at_tcomp_reader_done : T0.lookup N_tcomp_reader_done = some (.code L_tcomp_reader_done) := by rfl
theorem at_tcomp_reader_fields : T0.lookup N_tcomp_reader_fields = some (.code L_tcomp_reader_fields) := by rfl
theorem at_tcomp_cursor_skip : T0.lookup N_tcomp_cursor_skip = some (.code L_tcomp_cursor_skip) := by rfl
theorem at_tcomp_cursor_ok : T0.lookup N_tcomp_cursor_ok = some (.code L_tcomp_cursor_ok) := by rfl
theorem at_tcomp_cursor_byte : T0.lookup N_tcomp_cursor_byte = some (.code L_tcomp_cursor_byte) := by rfl
theorem at_tcomp_cursor_fails : T0.lookup N_tcomp_cursor_fails = some (.code L_tcomp_cursor_fails) := by rfl
theorem at_tcomp_cursor_num : T0.lookup N_tcomp_cursor_num = some (.code L_tcomp_cursor_num) := by rfl
theorem at_zig_Zag32 : T0.lookup N_zig_Zag32 = some (.code L_zig_Zag32) := by rfl
theorem at_tcomp_reader_value_1 : T0.lookup N_tcomp_reader_value_1 = some (.code L_tcomp_reader_value_1) := by rfl
theorem at_zig_Zag64 : T0.lookup N_zig_Zag64 = some (.code L_zig_Zag64) := by rfl
theorem at_tcomp_cursor_bytes : T0.lookup N_tcomp_cursor_bytes = some (.code L_tcomp_cursor_bytes) := by rfl
theorem at_tcomp_cursor_count : T0.lookup N_tcomp_cursor_count = some (.code L_tcomp_cursor_count) := by rfl
theorem at_tcomp_reader_list : T0.lookup N_tcomp_reader_list = some (.code L_tcomp_reader_list) := by rfl
theorem at_tcomp_reader_pairs : T0.lookup N_tcomp_reader_pairs = some (.code L_tcomp_reader_pairs) := by rfl
theorem at_tcomp_cursor_head : T0.lookup N_tcomp_cursor_head = some (.code L_tcomp_cursor_head) := by rfl
theorem at_tcomp_reader_field : T0.lookup N_tcomp_reader_field = some (.code L_tcomp_reader_field) := by rfl
theorem at_tcomp_reader_whole : T0.lookup N_tcomp_reader_whole = some (.code L_tcomp_reader_whole) := by rfl
theorem at_tcomp_reader_normal : T0.lookup N_tcomp_reader_normal = some (.code L_tcomp_reader_normal) := by rfl
theorem at_tcomp_cursor_skips : T0.lookup N_tcomp_cursor_skips = some (.code L_tcomp_cursor_skips) := by rfl
theorem at_zig_Take : T0.lookup N_zig_Take = some (.code L_zig_Take) := by rfl
theorem at_tcomp_cursor_element : T0.lookup N_tcomp_cursor_element = some (.code L_tcomp_cursor_element) := by rfl
theorem at_tcomp_reader_is : T0.lookup N_tcomp_reader_is = some (.code L_tcomp_reader_is) := by rfl
theorem at_order_Normal : T0.lookup N_order_Normal = some (.code L_order_Normal) := by rfl
theorem at_tcomp_cursor_list : T0.lookup N_tcomp_cursor_list = some (.code L_tcomp_cursor_list) := by rfl
theorem at_tcomp_none : T0.lookup N_tcomp_none = some (.code L_tcomp_none) := by rfl
theorem at_order_within : T0.lookup N_order_within = some (.code L_order_within) := by rfl
theorem at_slices_CompareFunc_api_Value_api_Value_api_Value_api_Value : T0.lookup N_slices_CompareFunc_api_Value_api_Value_api_Value_api_Value = some (.code L_slices_CompareFunc_api_Value_api_Value_api_Value_api_Value) := by rfl
theorem at_order_holds : T0.lookup N_order_holds = some (.code L_order_holds) := by rfl
theorem at_order_Copy : T0.lookup N_order_Copy = some (.code L_order_Copy) := by rfl
theorem at_order_within_1 : T0.lookup N_order_within_1 = some (.code L_order_within_1) := by rfl
theorem at_order_fields : T0.lookup N_order_fields = some (.code L_order_fields) := by rfl
theorem at_order_fields_1 : T0.lookup N_order_fields_1 = some (.code L_order_fields_1) := by rfl
theorem at_slices_SortStableFunc_int_int : T0.lookup N_slices_SortStableFunc_int_int = some (.code L_slices_SortStableFunc_int_int) := by rfl
theorem at_slices_stableCmpFunc_int : T0.lookup N_slices_stableCmpFunc_int = some (.code L_slices_stableCmpFunc_int) := by rfl
theorem at_slices_insertionSortCmpFunc_int : T0.lookup N_slices_insertionSortCmpFunc_int = some (.code L_slices_insertionSortCmpFunc_int) := by rfl
theorem at_slices_Clone_byte_byte : T0.lookup N_slices_Clone_byte_byte = some (.spec (cloneA 1 1)) := by rfl
theorem at_internal_bytealg_IndexByteString : T0.lookup N_internal_bytealg_IndexByteString = some (.spec (indexA)) := by rfl
theorem at_slices_Clone_int_int : T0.lookup N_slices_Clone_int_int = some (.spec (cloneA 1 8)) := by rfl
theorem at_internal_bytealg_abigen_runtime_cmpstring : T0.lookup N_internal_bytealg_abigen_runtime_cmpstring = some (.spec (compareA)) := by rfl
end Go.Proofs.YtfihinodhhhllaaGreat

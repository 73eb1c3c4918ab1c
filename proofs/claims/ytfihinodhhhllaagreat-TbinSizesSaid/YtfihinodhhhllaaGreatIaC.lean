/- The look at the small code; printed by lift.py. -/
import Derived.Test.YtfihinodhhhllaaGreatIaL
import Derived.Test.YtfihinodhhhllaaGreatIaE
import Derived.Test.YtfihinodhhhllaaGreatProg
set_option linter.unusedVariables false
set_option linter.unusedSimpArgs false
namespace Go.Proofs.YtfihinodhhhllaaGreat
open Go
theorem ck_kind_cursor_fails : ckF Tryz.prog L_kind_cursor_fails Tryz.f171 = true := by decide +kernel
theorem ck_kind_letter : ckF Tryz.prog L_kind_letter Tryz.f215 = true := by decide +kernel
theorem ck_kind_cursor_part : ckF Tryz.prog L_kind_cursor_part Tryz.f197 = true := by decide +kernel
theorem ck_kind_word : ckF Tryz.prog L_kind_word Tryz.f196 = true := by decide +kernel
theorem ck_kind_cursor_rest : ckF Tryz.prog L_kind_cursor_rest Tryz.f198 = true := by decide +kernel
theorem ck_kind_inner : ckF Tryz.prog L_kind_inner Tryz.f199 = true := by decide +kernel
theorem ck_kind_cursor_sign : ckF Tryz.prog L_kind_cursor_sign Tryz.f200 = true := by decide +kernel
theorem ck_kind_cursor_one : ckF Tryz.prog L_kind_cursor_one Tryz.f170 = true := by decide +kernel
theorem ck_kind_read : ckF Tryz.prog L_kind_read Tryz.f115 = true := by decide +kernel
theorem ck_kind_May : ckF Tryz.prog L_kind_May Tryz.f45 = true := by decide +kernel
theorem ck_kind_Names : ckF Tryz.prog L_kind_Names Tryz.f47 = true := by decide +kernel
theorem ck_slices_IndexFunc_string_string : ckF Tryz.prog L_slices_IndexFunc_string_string Tryz.f116 = true := by decide +kernel
theorem ck_slices_ContainsFunc_string_string : ckF Tryz.prog L_slices_ContainsFunc_string_string Tryz.f46 = true := by decide +kernel
theorem ck_internal_stringslite_IndexByte : ckF Tryz.prog L_internal_stringslite_IndexByte Tryz.f175 = true := by decide +kernel
theorem ck_strings_IndexByte : ckF Tryz.prog L_strings_IndexByte Tryz.f121 = true := by decide +kernel
theorem ck_kind_Head : ckF Tryz.prog L_kind_Head Tryz.f56 = true := by decide +kernel
theorem ck_slices_IndexFunc_api_SStruct_api_SStruct : ckF Tryz.prog L_slices_IndexFunc_api_SStruct_api_SStruct Tryz.f126 = true := by decide +kernel
theorem ck_value_Struct_1 : ckF Tryz.prog L_value_Struct_1 Tryz.f127 = true := by decide +kernel
theorem ck_value_Struct : ckF Tryz.prog L_value_Struct Tryz.f62 = true := by decide +kernel
theorem ck_slices_IndexFunc_api_SEnum_api_SEnum : ckF Tryz.prog L_slices_IndexFunc_api_SEnum_api_SEnum Tryz.f124 = true := by decide +kernel
theorem ck_value_Enum_1 : ckF Tryz.prog L_value_Enum_1 Tryz.f125 = true := by decide +kernel
theorem ck_value_Enum : ckF Tryz.prog L_value_Enum Tryz.f58 = true := by decide +kernel
theorem ck_value_Kind : ckF Tryz.prog L_value_Kind Tryz.f49 = true := by decide +kernel
theorem ck_tbin_known_1 : ckF Tryz.prog L_tbin_known_1 Tryz.f76 = true := by decide +kernel
theorem ck_tbin_known : ckF Tryz.prog L_tbin_known Tryz.f28 = true := by decide +kernel
theorem ck_value_fits : ckF Tryz.prog L_value_fits Tryz.f77 = true := by decide +kernel
theorem ck_value_size : ckF Tryz.prog L_value_size Tryz.f137 = true := by decide +kernel
theorem ck_value_Valid : ckF Tryz.prog L_value_Valid Tryz.f78 = true := by decide +kernel
theorem ck_value_each : ckF Tryz.prog L_value_each Tryz.f79 = true := by decide +kernel
theorem ck_cmp_isNaN_int : ckF Tryz.prog L_cmp_isNaN_int Tryz.f202 = true := by decide +kernel
theorem ck_cmp_Compare_int : ckF Tryz.prog L_cmp_Compare_int Tryz.f184 = true := by decide +kernel
theorem ck_cmp_isNaN_int64 : ckF Tryz.prog L_cmp_isNaN_int64 Tryz.f203 = true := by decide +kernel
theorem ck_cmp_Compare_int64 : ckF Tryz.prog L_cmp_Compare_int64 Tryz.f185 = true := by decide +kernel
theorem ck_cmp_isNaN_uint64 : ckF Tryz.prog L_cmp_isNaN_uint64 Tryz.f204 = true := by decide +kernel
theorem ck_cmp_Compare_uint64 : ckF Tryz.prog L_cmp_Compare_uint64 Tryz.f186 = true := by decide +kernel
theorem ck_internal_bytealg_CompareString : ckF Tryz.prog L_internal_bytealg_CompareString Tryz.f205 = true := by decide +kernel
theorem ck_strings_Compare : ckF Tryz.prog L_strings_Compare Tryz.f187 = true := by decide +kernel
theorem ck_order_places : ckF Tryz.prog L_order_places Tryz.f188 = true := by decide +kernel
theorem ck_order_structs : ckF Tryz.prog L_order_structs Tryz.f189 = true := by decide +kernel
theorem ck_order_Cmp : ckF Tryz.prog L_order_Cmp Tryz.f138 = true := by decide +kernel
theorem ck_value_rise : ckF Tryz.prog L_value_rise Tryz.f80 = true := by decide +kernel
theorem ck_slices_IndexFunc_api_Member_api_Member : ckF Tryz.prog L_slices_IndexFunc_api_Member_api_Member Tryz.f139 = true := by decide +kernel
theorem ck_slices_ContainsFunc_api_Member_api_Member : ckF Tryz.prog L_slices_ContainsFunc_api_Member_api_Member Tryz.f81 = true := by decide +kernel
theorem ck_value_Check_1 : ckF Tryz.prog L_value_Check_1 Tryz.f82 = true := by decide +kernel
theorem ck_slices_IndexFunc_api_SField_api_SField : ckF Tryz.prog L_slices_IndexFunc_api_SField_api_SField Tryz.f143 = true := by decide +kernel
theorem ck_value_Field_1 : ckF Tryz.prog L_value_Field_1 Tryz.f144 = true := by decide +kernel
theorem ck_value_Field : ckF Tryz.prog L_value_Field Tryz.f92 = true := by decide +kernel
theorem ck_slices_Index_int_int : ckF Tryz.prog L_slices_Index_int_int Tryz.f145 = true := by decide +kernel
theorem ck_slices_Contains_int_int : ckF Tryz.prog L_slices_Contains_int_int Tryz.f94 = true := by decide +kernel
theorem ck_value_Fields : ckF Tryz.prog L_value_Fields Tryz.f72 = true := by decide +kernel
theorem ck_value_Check : ckF Tryz.prog L_value_Check Tryz.f29 = true := by decide +kernel
theorem ck_kind_Wire : ckF Tryz.prog L_kind_Wire Tryz.f83 = true := by decide +kernel
theorem ck_tbin_width : ckF Tryz.prog L_tbin_width Tryz.f84 = true := by decide +kernel
theorem ck_octet_Put : ckF Tryz.prog L_octet_Put Tryz.f140 = true := by decide +kernel
theorem ck_tbin_writer_num : ckF Tryz.prog L_tbin_writer_num Tryz.f85 = true := by decide +kernel
theorem ck_octet_PutText : ckF Tryz.prog L_octet_PutText Tryz.f86 = true := by decide +kernel
theorem ck_tbin_writer_wire : ckF Tryz.prog L_tbin_writer_wire Tryz.f87 = true := by decide +kernel
theorem ck_tbin_writer_fields : ckF Tryz.prog L_tbin_writer_fields Tryz.f73 = true := by decide +kernel
theorem ck_tbin_writer_value : ckF Tryz.prog L_tbin_writer_value Tryz.f30 = true := by decide +kernel
theorem ck_measure_holds : ckF Tryz.prog L_measure_holds Tryz.f141 = true := by decide +kernel
theorem ck_measure_Depth : ckF Tryz.prog L_measure_Depth Tryz.f88 = true := by decide +kernel
theorem ck_tbin_writer_done : ckF Tryz.prog L_tbin_writer_done Tryz.f31 = true := by decide +kernel
theorem ck_tbin_Encode : ckF Tryz.prog L_tbin_Encode Tryz.f11 = true := by decide +kernel
theorem ck_ref13_Fits : ckF Tryz.prog L_ref13_Fits Tryz.f12 = true := by decide +kernel
theorem ck_law19_TbinSizes : ckF Tryz.prog L_law19_TbinSizes Tryz.f4 = true := by decide +kernel
theorem ck_law19_begun : ckF Tryz.prog L_law19_begun Tryz.f10 = true := by decide +kernel
theorem ck_tbin_Decode : ckF Tryz.prog L_tbin_Decode Tryz.f25 = true := by decide +kernel
theorem ck_tbin_EncodeAs : ckF Tryz.prog L_tbin_EncodeAs Tryz.f26 = true := by decide +kernel
theorem ck_tbin_DecodeAs : ckF Tryz.prog L_tbin_DecodeAs Tryz.f13 = true := by decide +kernel
theorem ck_tbin_Skip : ckF Tryz.prog L_tbin_Skip Tryz.f27 = true := by decide +kernel
theorem ck_tbin_reader_value : ckF Tryz.prog L_tbin_reader_value Tryz.f71 = true := by decide +kernel
theorem ck_tbin_reader_done : ckF Tryz.prog L_tbin_reader_done Tryz.f33 = true := by decide +kernel
theorem ck_tbin_reader_fields : ckF Tryz.prog L_tbin_reader_fields Tryz.f32 = true := by decide +kernel
theorem ck_tbin_cursor_skip : ckF Tryz.prog L_tbin_cursor_skip Tryz.f74 = true := by decide +kernel
theorem ck_tbin_cursor_ok : ckF Tryz.prog L_tbin_cursor_ok Tryz.f75 = true := by decide +kernel
theorem ck_tbin_cursor_num : ckF Tryz.prog L_tbin_cursor_num Tryz.f90 = true := by decide +kernel
theorem ck_tbin_cursor_fails : ckF Tryz.prog L_tbin_cursor_fails Tryz.f89 = true := by decide +kernel
theorem ck_tbin_signed : ckF Tryz.prog L_tbin_signed Tryz.f131 = true := by decide +kernel
theorem ck_tbin_reader_value_1 : ckF Tryz.prog L_tbin_reader_value_1 Tryz.f132 = true := by decide +kernel
theorem ck_tbin_cursor_count : ckF Tryz.prog L_tbin_cursor_count Tryz.f134 = true := by decide +kernel
theorem ck_tbin_cursor_bytes : ckF Tryz.prog L_tbin_cursor_bytes Tryz.f133 = true := by decide +kernel
theorem ck_tbin_reader_parts : ckF Tryz.prog L_tbin_reader_parts Tryz.f135 = true := by decide +kernel
theorem ck_tbin_none : ckF Tryz.prog L_tbin_none Tryz.f91 = true := by decide +kernel
theorem ck_tbin_reader_is : ckF Tryz.prog L_tbin_reader_is Tryz.f93 = true := by decide +kernel
theorem ck_tbin_reader_whole : ckF Tryz.prog L_tbin_reader_whole Tryz.f95 = true := by decide +kernel
theorem ck_tbin_reader_normal : ckF Tryz.prog L_tbin_reader_normal Tryz.f96 = true := by decide +kernel
theorem ck_tbin_cursor_skips : ckF Tryz.prog L_tbin_cursor_skips Tryz.f136 = true := by decide +kernel
theorem ck_octet_Take : ckF Tryz.prog L_octet_Take Tryz.f142 = true := by decide +kernel
theorem ck_tbin_cursor_wire : ckF Tryz.prog L_tbin_cursor_wire Tryz.f183 = true := by decide +kernel
theorem ck_order_Normal : ckF Tryz.prog L_order_Normal Tryz.f146 = true := by decide +kernel
theorem ck_order_within : ckF Tryz.prog L_order_within Tryz.f190 = true := by decide +kernel
theorem ck_slices_CompareFunc_api_Value_api_Value_api_Value_api_Value : ckF Tryz.prog L_slices_CompareFunc_api_Value_api_Value_api_Value_api_Value Tryz.f206 = true := by decide +kernel
theorem ck_order_holds : ckF Tryz.prog L_order_holds Tryz.f207 = true := by decide +kernel
theorem ck_order_Copy : ckF Tryz.prog L_order_Copy Tryz.f208 = true := by decide +kernel
theorem ck_order_within_1 : ckF Tryz.prog L_order_within_1 Tryz.f211 = true := by decide +kernel
theorem ck_order_fields : ckF Tryz.prog L_order_fields Tryz.f213 = true := by decide +kernel
theorem ck_order_fields_1 : ckF Tryz.prog L_order_fields_1 Tryz.f221 = true := by decide +kernel
theorem ck_slices_SortStableFunc_int_int : ckF Tryz.prog L_slices_SortStableFunc_int_int Tryz.f220 = true := by decide +kernel
theorem ck_slices_stableCmpFunc_int : ckF Tryz.prog L_slices_stableCmpFunc_int Tryz.f225 = true := by decide +kernel
theorem ck_slices_insertionSortCmpFunc_int : ckF Tryz.prog L_slices_insertionSortCmpFunc_int Tryz.f229 = true := by decide +kernel
theorem tab_all : ∀ x ∈ T0, EntryOK Tryz.prog x := by
  unfold T0
  refine List.forall_mem_cons.2 ⟨⟨_, Tryz.func171, ck_kind_cursor_fails⟩, ?_⟩
  refine List.forall_mem_cons.2 ⟨⟨_, Tryz.func215, ck_kind_letter⟩, ?_⟩
  refine List.forall_mem_cons.2 ⟨⟨_, Tryz.func197, ck_kind_cursor_part⟩, ?_⟩
  refine List.forall_mem_cons.2 ⟨⟨_, Tryz.func196, ck_kind_word⟩, ?_⟩
  refine List.forall_mem_cons.2 ⟨⟨_, Tryz.func198, ck_kind_cursor_rest⟩, ?_⟩
  refine List.forall_mem_cons.2 ⟨⟨_, Tryz.func199, ck_kind_inner⟩, ?_⟩
  refine List.forall_mem_cons.2 ⟨⟨_, Tryz.func200, ck_kind_cursor_sign⟩, ?_⟩
  refine List.forall_mem_cons.2 ⟨⟨_, Tryz.func170, ck_kind_cursor_one⟩, ?_⟩
  refine List.forall_mem_cons.2 ⟨⟨_, Tryz.func115, ck_kind_read⟩, ?_⟩
  refine List.forall_mem_cons.2 ⟨⟨_, Tryz.func45, ck_kind_May⟩, ?_⟩
  refine List.forall_mem_cons.2 ⟨⟨_, Tryz.func47, ck_kind_Names⟩, ?_⟩
  refine List.forall_mem_cons.2 ⟨⟨_, Tryz.func116, ck_slices_IndexFunc_string_string⟩, ?_⟩
  refine List.forall_mem_cons.2 ⟨⟨_, Tryz.func46, ck_slices_ContainsFunc_string_string⟩, ?_⟩
  refine List.forall_mem_cons.2 ⟨⟨_, Tryz.func175, ck_internal_stringslite_IndexByte⟩, ?_⟩
  refine List.forall_mem_cons.2 ⟨⟨_, Tryz.func121, ck_strings_IndexByte⟩, ?_⟩
  refine List.forall_mem_cons.2 ⟨⟨_, Tryz.func56, ck_kind_Head⟩, ?_⟩
  refine List.forall_mem_cons.2 ⟨⟨_, Tryz.func126, ck_slices_IndexFunc_api_SStruct_api_SStruct⟩, ?_⟩
  refine List.forall_mem_cons.2 ⟨⟨_, Tryz.func127, ck_value_Struct_1⟩, ?_⟩
  refine List.forall_mem_cons.2 ⟨⟨_, Tryz.func62, ck_value_Struct⟩, ?_⟩
  refine List.forall_mem_cons.2 ⟨⟨_, Tryz.func124, ck_slices_IndexFunc_api_SEnum_api_SEnum⟩, ?_⟩
  refine List.forall_mem_cons.2 ⟨⟨_, Tryz.func125, ck_value_Enum_1⟩, ?_⟩
  refine List.forall_mem_cons.2 ⟨⟨_, Tryz.func58, ck_value_Enum⟩, ?_⟩
  refine List.forall_mem_cons.2 ⟨⟨_, Tryz.func49, ck_value_Kind⟩, ?_⟩
  refine List.forall_mem_cons.2 ⟨⟨_, Tryz.func76, ck_tbin_known_1⟩, ?_⟩
  refine List.forall_mem_cons.2 ⟨⟨_, Tryz.func28, ck_tbin_known⟩, ?_⟩
  refine List.forall_mem_cons.2 ⟨⟨_, Tryz.func77, ck_value_fits⟩, ?_⟩
  refine List.forall_mem_cons.2 ⟨⟨_, Tryz.func137, ck_value_size⟩, ?_⟩
  refine List.forall_mem_cons.2 ⟨⟨_, Tryz.func78, ck_value_Valid⟩, ?_⟩
  refine List.forall_mem_cons.2 ⟨⟨_, Tryz.func79, ck_value_each⟩, ?_⟩
  refine List.forall_mem_cons.2 ⟨⟨_, Tryz.func202, ck_cmp_isNaN_int⟩, ?_⟩
  refine List.forall_mem_cons.2 ⟨⟨_, Tryz.func184, ck_cmp_Compare_int⟩, ?_⟩
  refine List.forall_mem_cons.2 ⟨⟨_, Tryz.func203, ck_cmp_isNaN_int64⟩, ?_⟩
  refine List.forall_mem_cons.2 ⟨⟨_, Tryz.func185, ck_cmp_Compare_int64⟩, ?_⟩
  refine List.forall_mem_cons.2 ⟨⟨_, Tryz.func204, ck_cmp_isNaN_uint64⟩, ?_⟩
  refine List.forall_mem_cons.2 ⟨⟨_, Tryz.func186, ck_cmp_Compare_uint64⟩, ?_⟩
  refine List.forall_mem_cons.2 ⟨⟨_, Tryz.func205, ck_internal_bytealg_CompareString⟩, ?_⟩
  refine List.forall_mem_cons.2 ⟨⟨_, Tryz.func187, ck_strings_Compare⟩, ?_⟩
  refine List.forall_mem_cons.2 ⟨⟨_, Tryz.func188, ck_order_places⟩, ?_⟩
  refine List.forall_mem_cons.2 ⟨⟨_, Tryz.func189, ck_order_structs⟩, ?_⟩
  refine List.forall_mem_cons.2 ⟨⟨_, Tryz.func138, ck_order_Cmp⟩, ?_⟩
  refine List.forall_mem_cons.2 ⟨⟨_, Tryz.func80, ck_value_rise⟩, ?_⟩
  refine List.forall_mem_cons.2 ⟨⟨_, Tryz.func139, ck_slices_IndexFunc_api_Member_api_Member⟩, ?_⟩
  refine List.forall_mem_cons.2 ⟨⟨_, Tryz.func81, ck_slices_ContainsFunc_api_Member_api_Member⟩, ?_⟩
  refine List.forall_mem_cons.2 ⟨⟨_, Tryz.func82, ck_value_Check_1⟩, ?_⟩
  refine List.forall_mem_cons.2 ⟨⟨_, Tryz.func143, ck_slices_IndexFunc_api_SField_api_SField⟩, ?_⟩
  refine List.forall_mem_cons.2 ⟨⟨_, Tryz.func144, ck_value_Field_1⟩, ?_⟩
  refine List.forall_mem_cons.2 ⟨⟨_, Tryz.func92, ck_value_Field⟩, ?_⟩
  refine List.forall_mem_cons.2 ⟨⟨_, Tryz.func145, ck_slices_Index_int_int⟩, ?_⟩
  refine List.forall_mem_cons.2 ⟨⟨_, Tryz.func94, ck_slices_Contains_int_int⟩, ?_⟩
  refine List.forall_mem_cons.2 ⟨⟨_, Tryz.func72, ck_value_Fields⟩, ?_⟩
  refine List.forall_mem_cons.2 ⟨⟨_, Tryz.func29, ck_value_Check⟩, ?_⟩
  refine List.forall_mem_cons.2 ⟨⟨_, Tryz.func83, ck_kind_Wire⟩, ?_⟩
  refine List.forall_mem_cons.2 ⟨⟨_, Tryz.func84, ck_tbin_width⟩, ?_⟩
  refine List.forall_mem_cons.2 ⟨⟨_, Tryz.func140, ck_octet_Put⟩, ?_⟩
  refine List.forall_mem_cons.2 ⟨⟨_, Tryz.func85, ck_tbin_writer_num⟩, ?_⟩
  refine List.forall_mem_cons.2 ⟨⟨_, Tryz.func86, ck_octet_PutText⟩, ?_⟩
  refine List.forall_mem_cons.2 ⟨⟨_, Tryz.func87, ck_tbin_writer_wire⟩, ?_⟩
  refine List.forall_mem_cons.2 ⟨⟨_, Tryz.func73, ck_tbin_writer_fields⟩, ?_⟩
  refine List.forall_mem_cons.2 ⟨⟨_, Tryz.func30, ck_tbin_writer_value⟩, ?_⟩
  refine List.forall_mem_cons.2 ⟨⟨_, Tryz.func141, ck_measure_holds⟩, ?_⟩
  refine List.forall_mem_cons.2 ⟨⟨_, Tryz.func88, ck_measure_Depth⟩, ?_⟩
  refine List.forall_mem_cons.2 ⟨⟨_, Tryz.func31, ck_tbin_writer_done⟩, ?_⟩
  refine List.forall_mem_cons.2 ⟨⟨_, Tryz.func11, ck_tbin_Encode⟩, ?_⟩
  refine List.forall_mem_cons.2 ⟨⟨_, Tryz.func12, ck_ref13_Fits⟩, ?_⟩
  refine List.forall_mem_cons.2 ⟨⟨_, Tryz.func4, ck_law19_TbinSizes⟩, ?_⟩
  refine List.forall_mem_cons.2 ⟨⟨_, Tryz.func10, ck_law19_begun⟩, ?_⟩
  refine List.forall_mem_cons.2 ⟨⟨_, Tryz.func25, ck_tbin_Decode⟩, ?_⟩
  refine List.forall_mem_cons.2 ⟨⟨_, Tryz.func26, ck_tbin_EncodeAs⟩, ?_⟩
  refine List.forall_mem_cons.2 ⟨⟨_, Tryz.func13, ck_tbin_DecodeAs⟩, ?_⟩
  refine List.forall_mem_cons.2 ⟨⟨_, Tryz.func27, ck_tbin_Skip⟩, ?_⟩
  refine List.forall_mem_cons.2 ⟨⟨_, Tryz.func71, ck_tbin_reader_value⟩, ?_⟩
  refine List.forall_mem_cons.2 ⟨⟨_, Tryz.func33, ck_tbin_reader_done⟩, ?_⟩
  refine List.forall_mem_cons.2 ⟨⟨_, Tryz.func32, ck_tbin_reader_fields⟩, ?_⟩
  refine List.forall_mem_cons.2 ⟨⟨_, Tryz.func74, ck_tbin_cursor_skip⟩, ?_⟩
  refine List.forall_mem_cons.2 ⟨⟨_, Tryz.func75, ck_tbin_cursor_ok⟩, ?_⟩
  refine List.forall_mem_cons.2 ⟨⟨_, Tryz.func90, ck_tbin_cursor_num⟩, ?_⟩
  refine List.forall_mem_cons.2 ⟨⟨_, Tryz.func89, ck_tbin_cursor_fails⟩, ?_⟩
  refine List.forall_mem_cons.2 ⟨⟨_, Tryz.func131, ck_tbin_signed⟩, ?_⟩
  refine List.forall_mem_cons.2 ⟨⟨_, Tryz.func132, ck_tbin_reader_value_1⟩, ?_⟩
  refine List.forall_mem_cons.2 ⟨⟨_, Tryz.func134, ck_tbin_cursor_count⟩, ?_⟩
  refine List.forall_mem_cons.2 ⟨⟨_, Tryz.func133, ck_tbin_cursor_bytes⟩, ?_⟩
  refine List.forall_mem_cons.2 ⟨⟨_, Tryz.func135, ck_tbin_reader_parts⟩, ?_⟩
  refine List.forall_mem_cons.2 ⟨⟨_, Tryz.func91, ck_tbin_none⟩, ?_⟩
  refine List.forall_mem_cons.2 ⟨⟨_, Tryz.func93, ck_tbin_reader_is⟩, ?_⟩
  refine List.forall_mem_cons.2 ⟨⟨_, Tryz.func95, ck_tbin_reader_whole⟩, ?_⟩
  refine List.forall_mem_cons.2 ⟨⟨_, Tryz.func96, ck_tbin_reader_normal⟩, ?_⟩
  refine List.forall_mem_cons.2 ⟨⟨_, Tryz.func136, ck_tbin_cursor_skips⟩, ?_⟩
  refine List.forall_mem_cons.2 ⟨⟨_, Tryz.func142, ck_octet_Take⟩, ?_⟩
  refine List.forall_mem_cons.2 ⟨⟨_, Tryz.func183, ck_tbin_cursor_wire⟩, ?_⟩
  refine List.forall_mem_cons.2 ⟨⟨_, Tryz.func146, ck_order_Normal⟩, ?_⟩
  refine List.forall_mem_cons.2 ⟨⟨_, Tryz.func190, ck_order_within⟩, ?_⟩
  refine List.forall_mem_cons.2 ⟨⟨_, Tryz.func206, ck_slices_CompareFunc_api_Value_api_Value_api_Value_api_Value⟩, ?_⟩
  refine List.forall_mem_cons.2 ⟨⟨_, Tryz.func207, ck_order_holds⟩, ?_⟩
  refine List.forall_mem_cons.2 ⟨⟨_, Tryz.func208, ck_order_Copy⟩, ?_⟩
  refine List.forall_mem_cons.2 ⟨⟨_, Tryz.func211, ck_order_within_1⟩, ?_⟩
  refine List.forall_mem_cons.2 ⟨⟨_, Tryz.func213, ck_order_fields⟩, ?_⟩
  refine List.forall_mem_cons.2 ⟨⟨_, Tryz.func221, ck_order_fields_1⟩, ?_⟩
  refine List.forall_mem_cons.2 ⟨⟨_, Tryz.func220, ck_slices_SortStableFunc_int_int⟩, ?_⟩
  refine List.forall_mem_cons.2 ⟨⟨_, Tryz.func225, ck_slices_stableCmpFunc_int⟩, ?_⟩
  refine List.forall_mem_cons.2 ⟨⟨_, Tryz.func229, ck_slices_insertionSortCmpFunc_int⟩, ?_⟩
  refine List.forall_mem_cons.2 ⟨spec_internal_bytealg_IndexByteString, ?_⟩
  refine List.forall_mem_cons.2 ⟨spec_slices_Clone_int_int, ?_⟩
  refine List.forall_mem_cons.2 ⟨spec_internal_bytealg_abigen_runtime_cmpstring, ?_⟩
  exact fun x hx => by cases hx
theorem tab_ok : TabOK Tryz.prog T0 := tab_of (by decide +kernel) tab_all
end Go.Proofs.YtfihinodhhhllaaGreat

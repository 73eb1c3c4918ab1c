/- The look at the small code; printed by lift.py. -/
import Derived.Test.YtfihinodhhhllaaGreatIbL
import Derived.Test.YtfihinodhhhllaaGreatIbE
import Derived.Test.YtfihinodhhhllaaGreatProg
set_option linter.unusedVariables false
set_option linter.unusedSimpArgs false
namespace Go.Proofs.YtfihinodhhhllaaGreat
open Go
theorem ck_kind_cursor_fails : ckF Tryz.prog L_kind_cursor_fails Tryz.f171 = true := by decide +kernel
theorem ck_kind_letter : ckF Tryz.prog L_kind_letter Tryz.f215 = true := by decide +kernel
theorem ck_kind_cursor_part : ckF Tryz.prog L_kind_cursor_part Tryz.f197 = true := by decide +kernel
theorem ck_kind_word : ckF Tryz.prog L_kind_word Tryz.f196 = true := by decide +kernel
theorem ck_kind_cursor_rest : ckF Tryz.prog L_kind_cursor_rest Tryz.f198 = true := by decide +kernel
theorem ck_kind_inner : ckF Tryz.prog L_kind_inner Tryz.f199 = true := by decide +kernel
theorem ck_kind_cursor_sign : ckF Tryz.prog L_kind_cursor_sign Tryz.f200 = true := by decide +kernel
theorem ck_kind_cursor_one : ckF Tryz.prog L_kind_cursor_one Tryz.f170 = true := by decide +kernel
theorem ck_kind_read : ckF Tryz.prog L_kind_read Tryz.f115 = true := by decide +kernel
theorem ck_kind_May : ckF Tryz.prog L_kind_May Tryz.f45 = true := by decide +kernel
theorem ck_kind_Names : ckF Tryz.prog L_kind_Names Tryz.f47 = true := by decide +kernel
theorem ck_slices_IndexFunc_string_string : ckF Tryz.prog L_slices_IndexFunc_string_string Tryz.f116 = true := by decide +kernel
theorem ck_slices_ContainsFunc_string_string : ckF Tryz.prog L_slices_ContainsFunc_string_string Tryz.f46 = true := by decide +kernel
theorem ck_internal_stringslite_IndexByte : ckF Tryz.prog L_internal_stringslite_IndexByte Tryz.f175 = true := by decide +kernel
theorem ck_strings_IndexByte : ckF Tryz.prog L_strings_IndexByte Tryz.f121 = true := by decide +kernel
theorem ck_kind_Head : ckF Tryz.prog L_kind_Head Tryz.f56 = true := by decide +kernel
theorem ck_slices_IndexFunc_api_SStruct_api_SStruct : ckF Tryz.prog L_slices_IndexFunc_api_SStruct_api_SStruct Tryz.f126 = true := by decide +kernel
theorem ck_value_Struct_1 : ckF Tryz.prog L_value_Struct_1 Tryz.f127 = true := by decide +kernel
theorem ck_value_Struct : ckF Tryz.prog L_value_Struct Tryz.f62 = true := by decide +kernel
theorem ck_slices_IndexFunc_api_SEnum_api_SEnum : ckF Tryz.prog L_slices_IndexFunc_api_SEnum_api_SEnum Tryz.f124 = true := by decide +kernel
theorem ck_value_Enum_1 : ckF Tryz.prog L_value_Enum_1 Tryz.f125 = true := by decide +kernel
theorem ck_value_Enum : ckF Tryz.prog L_value_Enum Tryz.f58 = true := by decide +kernel
theorem ck_value_Kind : ckF Tryz.prog L_value_Kind Tryz.f49 = true := by decide +kernel
theorem ck_tcomp_known_1 : ckF Tryz.prog L_tcomp_known_1 Tryz.f103 = true := by decide +kernel
theorem ck_tcomp_known : ckF Tryz.prog L_tcomp_known Tryz.f39 = true := by decide +kernel
theorem ck_value_fits : ckF Tryz.prog L_value_fits Tryz.f77 = true := by decide +kernel
theorem ck_value_size : ckF Tryz.prog L_value_size Tryz.f137 = true := by decide +kernel
theorem ck_value_Valid : ckF Tryz.prog L_value_Valid Tryz.f78 = true := by decide +kernel
theorem ck_value_each : ckF Tryz.prog L_value_each Tryz.f79 = true := by decide +kernel
theorem ck_cmp_isNaN_int : ckF Tryz.prog L_cmp_isNaN_int Tryz.f202 = true := by decide +kernel
theorem ck_cmp_Compare_int : ckF Tryz.prog L_cmp_Compare_int Tryz.f184 = true := by decide +kernel
theorem ck_cmp_isNaN_int64 : ckF Tryz.prog L_cmp_isNaN_int64 Tryz.f203 = true := by decide +kernel
theorem ck_cmp_Compare_int64 : ckF Tryz.prog L_cmp_Compare_int64 Tryz.f185 = true := by decide +kernel
theorem ck_cmp_isNaN_uint64 : ckF Tryz.prog L_cmp_isNaN_uint64 Tryz.f204 = true := by decide +kernel
theorem ck_cmp_Compare_uint64 : ckF Tryz.prog L_cmp_Compare_uint64 Tryz.f186 = true := by decide +kernel
theorem ck_internal_bytealg_CompareString : ckF Tryz.prog L_internal_bytealg_CompareString Tryz.f205 = true := by decide +kernel
theorem ck_strings_Compare : ckF Tryz.prog L_strings_Compare Tryz.f187 = true := by decide +kernel
theorem ck_order_places : ckF Tryz.prog L_order_places Tryz.f188 = true := by decide +kernel
theorem ck_order_structs : ckF Tryz.prog L_order_structs Tryz.f189 = true := by decide +kernel
theorem ck_order_Cmp : ckF Tryz.prog L_order_Cmp Tryz.f138 = true := by decide +kernel
theorem ck_value_rise : ckF Tryz.prog L_value_rise Tryz.f80 = true := by decide +kernel
theorem ck_slices_IndexFunc_api_Member_api_Member : ckF Tryz.prog L_slices_IndexFunc_api_Member_api_Member Tryz.f139 = true := by decide +kernel
theorem ck_slices_ContainsFunc_api_Member_api_Member : ckF Tryz.prog L_slices_ContainsFunc_api_Member_api_Member Tryz.f81 = true := by decide +kernel
theorem ck_value_Check_1 : ckF Tryz.prog L_value_Check_1 Tryz.f82 = true := by decide +kernel
theorem ck_slices_IndexFunc_api_SField_api_SField : ckF Tryz.prog L_slices_IndexFunc_api_SField_api_SField Tryz.f143 = true := by decide +kernel
theorem ck_value_Field_1 : ckF Tryz.prog L_value_Field_1 Tryz.f144 = true := by decide +kernel
theorem ck_value_Field : ckF Tryz.prog L_value_Field Tryz.f92 = true := by decide +kernel
theorem ck_slices_Index_int_int : ckF Tryz.prog L_slices_Index_int_int Tryz.f145 = true := by decide +kernel
theorem ck_slices_Contains_int_int : ckF Tryz.prog L_slices_Contains_int_int Tryz.f94 = true := by decide +kernel
theorem ck_value_Fields : ckF Tryz.prog L_value_Fields Tryz.f72 = true := by decide +kernel
theorem ck_value_Check : ckF Tryz.prog L_value_Check Tryz.f29 = true := by decide +kernel
theorem ck_tcomp_writer_byte : ckF Tryz.prog L_tcomp_writer_byte Tryz.f104 = true := by decide +kernel
theorem ck_zig_Zig32 : ckF Tryz.prog L_zig_Zig32 Tryz.f106 = true := by decide +kernel
theorem ck_zig_Put : ckF Tryz.prog L_zig_Put Tryz.f162 = true := by decide +kernel
theorem ck_tcomp_writer_num : ckF Tryz.prog L_tcomp_writer_num Tryz.f105 = true := by decide +kernel
theorem ck_zig_Zig64 : ckF Tryz.prog L_zig_Zig64 Tryz.f107 = true := by decide +kernel
theorem ck_tcomp_Short : ckF Tryz.prog L_tcomp_Short Tryz.f38 = true := by decide +kernel
theorem ck_tcomp_writer_short : ckF Tryz.prog L_tcomp_writer_short Tryz.f163 = true := by decide +kernel
theorem ck_tcomp_writer_list : ckF Tryz.prog L_tcomp_writer_list Tryz.f108 = true := by decide +kernel
theorem ck_tcomp_writer_pairs : ckF Tryz.prog L_tcomp_writer_pairs Tryz.f109 = true := by decide +kernel
theorem ck_tcomp_writer_fields : ckF Tryz.prog L_tcomp_writer_fields Tryz.f99 = true := by decide +kernel
theorem ck_tcomp_writer_value : ckF Tryz.prog L_tcomp_writer_value Tryz.f40 = true := by decide +kernel
theorem ck_measure_holds : ckF Tryz.prog L_measure_holds Tryz.f141 = true := by decide +kernel
theorem ck_measure_Depth : ckF Tryz.prog L_measure_Depth Tryz.f88 = true := by decide +kernel
theorem ck_tcomp_writer_done : ckF Tryz.prog L_tcomp_writer_done Tryz.f41 = true := by decide +kernel
theorem ck_tcomp_Encode : ckF Tryz.prog L_tcomp_Encode Tryz.f16 = true := by decide +kernel
theorem ck_law20_TcompSizes : ckF Tryz.prog L_law20_TcompSizes Tryz.f6 = true := by decide +kernel
theorem ck_law20_begun : ckF Tryz.prog L_law20_begun Tryz.f15 = true := by decide +kernel
theorem ck_tcomp_Decode : ckF Tryz.prog L_tcomp_Decode Tryz.f34 = true := by decide +kernel
theorem ck_tcomp_EncodeAs : ckF Tryz.prog L_tcomp_EncodeAs Tryz.f35 = true := by decide +kernel
theorem ck_tcomp_DecodeAs : ckF Tryz.prog L_tcomp_DecodeAs Tryz.f36 = true := by decide +kernel
theorem ck_tcomp_Skip : ckF Tryz.prog L_tcomp_Skip Tryz.f37 = true := by decide +kernel
theorem ck_tcomp_reader_value : ckF Tryz.prog L_tcomp_reader_value Tryz.f97 = true := by decide +kernel
theorem ck_tcomp_reader_done : ckF Tryz.prog L_tcomp_reader_done Tryz.f98 = true := by decide +kernel
theorem ck_tcomp_reader_fields : ckF Tryz.prog L_tcomp_reader_fields Tryz.f100 = true := by decide +kernel
theorem ck_tcomp_cursor_skip : ckF Tryz.prog L_tcomp_cursor_skip Tryz.f101 = true := by decide +kernel
theorem ck_tcomp_cursor_ok : ckF Tryz.prog L_tcomp_cursor_ok Tryz.f102 = true := by decide +kernel
theorem ck_tcomp_cursor_byte : ckF Tryz.prog L_tcomp_cursor_byte Tryz.f147 = true := by decide +kernel
theorem ck_tcomp_cursor_fails : ckF Tryz.prog L_tcomp_cursor_fails Tryz.f148 = true := by decide +kernel
theorem ck_tcomp_cursor_num : ckF Tryz.prog L_tcomp_cursor_num Tryz.f150 = true := by decide +kernel
theorem ck_zig_Zag32 : ckF Tryz.prog L_zig_Zag32 Tryz.f149 = true := by decide +kernel
theorem ck_tcomp_reader_value_1 : ckF Tryz.prog L_tcomp_reader_value_1 Tryz.f151 = true := by decide +kernel
theorem ck_zig_Zag64 : ckF Tryz.prog L_zig_Zag64 Tryz.f152 = true := by decide +kernel
theorem ck_tcomp_cursor_bytes : ckF Tryz.prog L_tcomp_cursor_bytes Tryz.f153 = true := by decide +kernel
theorem ck_tcomp_cursor_count : ckF Tryz.prog L_tcomp_cursor_count Tryz.f154 = true := by decide +kernel
theorem ck_tcomp_reader_list : ckF Tryz.prog L_tcomp_reader_list Tryz.f155 = true := by decide +kernel
theorem ck_tcomp_reader_pairs : ckF Tryz.prog L_tcomp_reader_pairs Tryz.f156 = true := by decide +kernel
theorem ck_tcomp_cursor_head : ckF Tryz.prog L_tcomp_cursor_head Tryz.f157 = true := by decide +kernel
theorem ck_tcomp_reader_field : ckF Tryz.prog L_tcomp_reader_field Tryz.f158 = true := by decide +kernel
theorem ck_tcomp_reader_whole : ckF Tryz.prog L_tcomp_reader_whole Tryz.f159 = true := by decide +kernel
theorem ck_tcomp_reader_normal : ckF Tryz.prog L_tcomp_reader_normal Tryz.f160 = true := by decide +kernel
theorem ck_tcomp_cursor_skips : ckF Tryz.prog L_tcomp_cursor_skips Tryz.f161 = true := by decide +kernel
theorem ck_zig_Take : ckF Tryz.prog L_zig_Take Tryz.f191 = true := by decide +kernel
theorem ck_tcomp_cursor_element : ckF Tryz.prog L_tcomp_cursor_element Tryz.f193 = true := by decide +kernel
theorem ck_tcomp_reader_is : ckF Tryz.prog L_tcomp_reader_is Tryz.f192 = true := by decide +kernel
theorem ck_order_Normal : ckF Tryz.prog L_order_Normal Tryz.f146 = true := by decide +kernel
theorem ck_tcomp_cursor_list : ckF Tryz.prog L_tcomp_cursor_list Tryz.f194 = true := by decide +kernel
theorem ck_tcomp_none : ckF Tryz.prog L_tcomp_none Tryz.f214 = true := by decide +kernel
theorem ck_order_within : ckF Tryz.prog L_order_within Tryz.f190 = true := by decide +kernel
theorem ck_slices_CompareFunc_api_Value_api_Value_api_Value_api_Value : ckF Tryz.prog L_slices_CompareFunc_api_Value_api_Value_api_Value_api_Value Tryz.f206 = true := by decide +kernel
theorem ck_order_holds : ckF Tryz.prog L_order_holds Tryz.f207 = true := by decide +kernel
theorem ck_order_Copy : ckF Tryz.prog L_order_Copy Tryz.f208 = true := by decide +kernel
theorem ck_order_within_1 : ckF Tryz.prog L_order_within_1 Tryz.f211 = true := by decide +kernel
theorem ck_order_fields : ckF Tryz.prog L_order_fields Tryz.f213 = true := by decide +kernel
theorem ck_order_fields_1 : ckF Tryz.prog L_order_fields_1 Tryz.f221 = true := by decide +kernel
theorem ck_slices_SortStableFunc_int_int : ckF Tryz.prog L_slices_SortStableFunc_int_int Tryz.f220 = true := by decide +kernel
theorem ck_slices_stableCmpFunc_int : ckF Tryz.prog L_slices_stableCmpFunc_int Tryz.f225 = true := by decide +kernel
theorem ck_slices_insertionSortCmpFunc_int : ckF Tryz.prog L_slices_insertionSortCmpFunc_int Tryz.f229 = true := by decide +kernel
theorem tab_all : ∀ x ∈ T0, EntryOK Tryz.prog x := by
  unfold T0
  refine List.forall_mem_cons.2 ⟨⟨_, Tryz.func171, ck_kind_cursor_fails⟩, ?_⟩
  refine List.forall_mem_cons.2 ⟨⟨_, Tryz.func215, ck_kind_letter⟩, ?_⟩
  refine List.forall_mem_cons.2 ⟨⟨_, Tryz.func197, ck_kind_cursor_part⟩, ?_⟩
  refine List.forall_mem_cons.2 ⟨⟨_, Tryz.func196, ck_kind_word⟩, ?_⟩
  refine List.forall_mem_cons.2 ⟨⟨_, Tryz.func198, ck_kind_cursor_rest⟩, ?_⟩
  refine List.forall_mem_cons.2 ⟨⟨_, Tryz.func199, ck_kind_inner⟩, ?_⟩
  refine List.forall_mem_cons.2 ⟨⟨_, Tryz.func200, ck_kind_cursor_sign⟩, ?_⟩
  refine List.forall_mem_cons.2 ⟨⟨_, Tryz.func170, ck_kind_cursor_one⟩, ?_⟩
  refine List.forall_mem_cons.2 ⟨⟨_, Tryz.func115, ck_kind_read⟩, ?_⟩
  refine List.forall_mem_cons.2 ⟨⟨_, Tryz.func45, ck_kind_May⟩, ?_⟩
  refine List.forall_mem_cons.2 ⟨⟨_, Tryz.func47, ck_kind_Names⟩, ?_⟩
  refine List.forall_mem_cons.2 ⟨⟨_, Tryz.func116, ck_slices_IndexFunc_string_string⟩, ?_⟩
  refine List.forall_mem_cons.2 ⟨⟨_, Tryz.func46, ck_slices_ContainsFunc_string_string⟩, ?_⟩
  refine List.forall_mem_cons.2 ⟨⟨_, Tryz.func175, ck_internal_stringslite_IndexByte⟩, ?_⟩
  refine List.forall_mem_cons.2 ⟨⟨_, Tryz.func121, ck_strings_IndexByte⟩, ?_⟩
  refine List.forall_mem_cons.2 ⟨⟨_, Tryz.func56, ck_kind_Head⟩, ?_⟩
  refine List.forall_mem_cons.2 ⟨⟨_, Tryz.func126, ck_slices_IndexFunc_api_SStruct_api_SStruct⟩, ?_⟩
  refine List.forall_mem_cons.2 ⟨⟨_, Tryz.func127, ck_value_Struct_1⟩, ?_⟩
  refine List.forall_mem_cons.2 ⟨⟨_, Tryz.func62, ck_value_Struct⟩, ?_⟩
  refine List.forall_mem_cons.2 ⟨⟨_, Tryz.func124, ck_slices_IndexFunc_api_SEnum_api_SEnum⟩, ?_⟩
  refine List.forall_mem_cons.2 ⟨⟨_, Tryz.func125, ck_value_Enum_1⟩, ?_⟩
  refine List.forall_mem_cons.2 ⟨⟨_, Tryz.func58, ck_value_Enum⟩, ?_⟩
  refine List.forall_mem_cons.2 ⟨⟨_, Tryz.func49, ck_value_Kind⟩, ?_⟩
  refine List.forall_mem_cons.2 ⟨⟨_, Tryz.func103, ck_tcomp_known_1⟩, ?_⟩
  refine List.forall_mem_cons.2 ⟨⟨_, Tryz.func39, ck_tcomp_known⟩, ?_⟩
  refine List.forall_mem_cons.2 ⟨⟨_, Tryz.func77, ck_value_fits⟩, ?_⟩
  refine List.forall_mem_cons.2 ⟨⟨_, Tryz.func137, ck_value_size⟩, ?_⟩
  refine List.forall_mem_cons.2 ⟨⟨_, Tryz.func78, ck_value_Valid⟩, ?_⟩
  refine List.forall_mem_cons.2 ⟨⟨_, Tryz.func79, ck_value_each⟩, ?_⟩
  refine List.forall_mem_cons.2 ⟨⟨_, Tryz.func202, ck_cmp_isNaN_int⟩, ?_⟩
  refine List.forall_mem_cons.2 ⟨⟨_, Tryz.func184, ck_cmp_Compare_int⟩, ?_⟩
  refine List.forall_mem_cons.2 ⟨⟨_, Tryz.func203, ck_cmp_isNaN_int64⟩, ?_⟩
  refine List.forall_mem_cons.2 ⟨⟨_, Tryz.func185, ck_cmp_Compare_int64⟩, ?_⟩
  refine List.forall_mem_cons.2 ⟨⟨_, Tryz.func204, ck_cmp_isNaN_uint64⟩, ?_⟩
  refine List.forall_mem_cons.2 ⟨⟨_, Tryz.func186, ck_cmp_Compare_uint64⟩, ?_⟩
  refine List.forall_mem_cons.2 ⟨⟨_, Tryz.func205, ck_internal_bytealg_CompareString⟩, ?_⟩
  refine List.forall_mem_cons.2 ⟨⟨_, Tryz.func187, ck_strings_Compare⟩, ?_⟩
  refine List.forall_mem_cons.2 ⟨⟨_, Tryz.func188, ck_order_places⟩, ?_⟩
  refine List.forall_mem_cons.2 ⟨⟨_, Tryz.func189, ck_order_structs⟩, ?_⟩
  refine List.forall_mem_cons.2 ⟨⟨_, Tryz.func138, ck_order_Cmp⟩, ?_⟩
  refine List.forall_mem_cons.2 ⟨⟨_, Tryz.func80, ck_value_rise⟩, ?_⟩
  refine List.forall_mem_cons.2 ⟨⟨_, Tryz.func139, ck_slices_IndexFunc_api_Member_api_Member⟩, ?_⟩
  refine List.forall_mem_cons.2 ⟨⟨_, Tryz.func81, ck_slices_ContainsFunc_api_Member_api_Member⟩, ?_⟩
  refine List.forall_mem_cons.2 ⟨⟨_, Tryz.func82, ck_value_Check_1⟩, ?_⟩
  refine List.forall_mem_cons.2 ⟨⟨_, Tryz.func143, ck_slices_IndexFunc_api_SField_api_SField⟩, ?_⟩
  refine List.forall_mem_cons.2 ⟨⟨_, Tryz.func144, ck_value_Field_1⟩, ?_⟩
  refine List.forall_mem_cons.2 ⟨⟨_, Tryz.func92, ck_value_Field⟩, ?_⟩
  refine List.forall_mem_cons.2 ⟨⟨_, Tryz.func145, ck_slices_Index_int_int⟩, ?_⟩
  refine List.forall_mem_cons.2 ⟨⟨_, Tryz.func94, ck_slices_Contains_int_int⟩, ?_⟩
  refine List.forall_mem_cons.2 ⟨⟨_, Tryz.func72, ck_value_Fields⟩, ?_⟩
  refine List.forall_mem_cons.2 ⟨⟨_, Tryz.func29, ck_value_Check⟩, ?_⟩
  refine List.forall_mem_cons.2 ⟨⟨_, Tryz.func104, ck_tcomp_writer_byte⟩, ?_⟩
  refine List.forall_mem_cons.2 ⟨⟨_, Tryz.func106, ck_zig_Zig32⟩, ?_⟩
  refine List.forall_mem_cons.2 ⟨⟨_, Tryz.func162, ck_zig_Put⟩, ?_⟩
  refine List.forall_mem_cons.2 ⟨⟨_, Tryz.func105, ck_tcomp_writer_num⟩, ?_⟩
  refine List.forall_mem_cons.2 ⟨⟨_, Tryz.func107, ck_zig_Zig64⟩, ?_⟩
  refine List.forall_mem_cons.2 ⟨⟨_, Tryz.func38, ck_tcomp_Short⟩, ?_⟩
  refine List.forall_mem_cons.2 ⟨⟨_, Tryz.func163, ck_tcomp_writer_short⟩, ?_⟩
  refine List.forall_mem_cons.2 ⟨⟨_, Tryz.func108, ck_tcomp_writer_list⟩, ?_⟩
  refine List.forall_mem_cons.2 ⟨⟨_, Tryz.func109, ck_tcomp_writer_pairs⟩, ?_⟩
  refine List.forall_mem_cons.2 ⟨⟨_, Tryz.func99, ck_tcomp_writer_fields⟩, ?_⟩
  refine List.forall_mem_cons.2 ⟨⟨_, Tryz.func40, ck_tcomp_writer_value⟩, ?_⟩
  refine List.forall_mem_cons.2 ⟨⟨_, Tryz.func141, ck_measure_holds⟩, ?_⟩
  refine List.forall_mem_cons.2 ⟨⟨_, Tryz.func88, ck_measure_Depth⟩, ?_⟩
  refine List.forall_mem_cons.2 ⟨⟨_, Tryz.func41, ck_tcomp_writer_done⟩, ?_⟩
  refine List.forall_mem_cons.2 ⟨⟨_, Tryz.func16, ck_tcomp_Encode⟩, ?_⟩
  refine List.forall_mem_cons.2 ⟨⟨_, Tryz.func6, ck_law20_TcompSizes⟩, ?_⟩
  refine List.forall_mem_cons.2 ⟨⟨_, Tryz.func15, ck_law20_begun⟩, ?_⟩
  refine List.forall_mem_cons.2 ⟨⟨_, Tryz.func34, ck_tcomp_Decode⟩, ?_⟩
  refine List.forall_mem_cons.2 ⟨⟨_, Tryz.func35, ck_tcomp_EncodeAs⟩, ?_⟩
  refine List.forall_mem_cons.2 ⟨⟨_, Tryz.func36, ck_tcomp_DecodeAs⟩, ?_⟩
  refine List.forall_mem_cons.2 ⟨⟨_, Tryz.func37, ck_tcomp_Skip⟩, ?_⟩
  refine List.forall_mem_cons.2 ⟨⟨_, Tryz.func97, ck_tcomp_reader_value⟩, ?_⟩
  refine List.forall_mem_cons.2 ⟨⟨_, Tryz.func98, ck_tcomp_reader_done⟩, ?_⟩
  refine List.forall_mem_cons.2 ⟨⟨_, Tryz.func100, ck_tcomp_reader_fields⟩, ?_⟩
  refine List.forall_mem_cons.2 ⟨⟨_, Tryz.func101, ck_tcomp_cursor_skip⟩, ?_⟩
  refine List.forall_mem_cons.2 ⟨⟨_, Tryz.func102, ck_tcomp_cursor_ok⟩, ?_⟩
  refine List.forall_mem_cons.2 ⟨⟨_, Tryz.func147, ck_tcomp_cursor_byte⟩, ?_⟩
  refine List.forall_mem_cons.2 ⟨⟨_, Tryz.func148, ck_tcomp_cursor_fails⟩, ?_⟩
  refine List.forall_mem_cons.2 ⟨⟨_, Tryz.func150, ck_tcomp_cursor_num⟩, ?_⟩
  refine List.forall_mem_cons.2 ⟨⟨_, Tryz.func149, ck_zig_Zag32⟩, ?_⟩
  refine List.forall_mem_cons.2 ⟨⟨_, Tryz.func151, ck_tcomp_reader_value_1⟩, ?_⟩
  refine List.forall_mem_cons.2 ⟨⟨_, Tryz.func152, ck_zig_Zag64⟩, ?_⟩
  refine List.forall_mem_cons.2 ⟨⟨_, Tryz.func153, ck_tcomp_cursor_bytes⟩, ?_⟩
  refine List.forall_mem_cons.2 ⟨⟨_, Tryz.func154, ck_tcomp_cursor_count⟩, ?_⟩
  refine List.forall_mem_cons.2 ⟨⟨_, Tryz.func155, ck_tcomp_reader_list⟩, ?_⟩
  refine List.forall_mem_cons.2 ⟨⟨_, Tryz.func156, ck_tcomp_reader_pairs⟩, ?_⟩
  refine List.forall_mem_cons.2 ⟨⟨_, Tryz.func157, ck_tcomp_cursor_head⟩, ?_⟩
  refine List.forall_mem_cons.2 ⟨⟨_, Tryz.func158, ck_tcomp_reader_field⟩, ?_⟩
  refine List.forall_mem_cons.2 ⟨⟨_, Tryz.func159, ck_tcomp_reader_whole⟩, ?_⟩
  refine List.forall_mem_cons.2 ⟨⟨_, Tryz.func160, ck_tcomp_reader_normal⟩, ?_⟩
  refine List.forall_mem_cons.2 ⟨⟨_, Tryz.func161, ck_tcomp_cursor_skips⟩, ?_⟩
  refine List.forall_mem_cons.2 ⟨⟨_, Tryz.func191, ck_zig_Take⟩, ?_⟩
  refine List.forall_mem_cons.2 ⟨⟨_, Tryz.func193, ck_tcomp_cursor_element⟩, ?_⟩
  refine List.forall_mem_cons.2 ⟨⟨_, Tryz.func192, ck_tcomp_reader_is⟩, ?_⟩
  refine List.forall_mem_cons.2 ⟨⟨_, Tryz.func146, ck_order_Normal⟩, ?_⟩
  refine List.forall_mem_cons.2 ⟨⟨_, Tryz.func194, ck_tcomp_cursor_list⟩, ?_⟩
  refine List.forall_mem_cons.2 ⟨⟨_, Tryz.func214, ck_tcomp_none⟩, ?_⟩
  refine List.forall_mem_cons.2 ⟨⟨_, Tryz.func190, ck_order_within⟩, ?_⟩
  refine List.forall_mem_cons.2 ⟨⟨_, Tryz.func206, ck_slices_CompareFunc_api_Value_api_Value_api_Value_api_Value⟩, ?_⟩
  refine List.forall_mem_cons.2 ⟨⟨_, Tryz.func207, ck_order_holds⟩, ?_⟩
  refine List.forall_mem_cons.2 ⟨⟨_, Tryz.func208, ck_order_Copy⟩, ?_⟩
  refine List.forall_mem_cons.2 ⟨⟨_, Tryz.func211, ck_order_within_1⟩, ?_⟩
  refine List.forall_mem_cons.2 ⟨⟨_, Tryz.func213, ck_order_fields⟩, ?_⟩
  refine List.forall_mem_cons.2 ⟨⟨_, Tryz.func221, ck_order_fields_1⟩, ?_⟩
  refine List.forall_mem_cons.2 ⟨⟨_, Tryz.func220, ck_slices_SortStableFunc_int_int⟩, ?_⟩
  refine List.forall_mem_cons.2 ⟨⟨_, Tryz.func225, ck_slices_stableCmpFunc_int⟩, ?_⟩
  refine List.forall_mem_cons.2 ⟨⟨_, Tryz.func229, ck_slices_insertionSortCmpFunc_int⟩, ?_⟩
  refine List.forall_mem_cons.2 ⟨spec_slices_Clone_byte_byte, ?_⟩
  refine List.forall_mem_cons.2 ⟨spec_internal_bytealg_IndexByteString, ?_⟩
  refine List.forall_mem_cons.2 ⟨spec_slices_Clone_int_int, ?_⟩
  refine List.forall_mem_cons.2 ⟨spec_internal_bytealg_abigen_runtime_cmpstring, ?_⟩
  exact fun x hx => by cases hx
theorem tab_ok : TabOK Tryz.prog T0 := tab_of (by decide +kernel) tab_all
end Go.Proofs.YtfihinodhhhllaaGreat

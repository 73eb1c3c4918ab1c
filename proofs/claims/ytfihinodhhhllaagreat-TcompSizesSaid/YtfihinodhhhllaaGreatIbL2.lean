/- The small code of the functions; printed by lift.py. -/
import Derived.Test.YtfihinodhhhllaaGreatIbL0
set_option linter.unusedVariables false
set_option linter.unusedSimpArgs false
namespace Go.Proofs.YtfihinodhhhllaaGreat
open Go
noncomputable abbrev C193_1 : LCode := .region false 0 [
 ⟨some 4, .mov (.c (.int .i64 0)), none⟩] [] [0, 1]
noncomputable abbrev C193_2 : LCode := .region false 0 [
 ⟨some 5, .mov (.cp 0), none⟩,
 ⟨some 6, .mov (.cp 1), none⟩,
 ⟨some 7, .call N_tcomp_none [.cp 6], none⟩,
 ⟨some 8, .call N_tcomp_cursor_fails [.cp 5, .cp 7, .c (.int .i64 2)], none⟩] [] [1]
noncomputable abbrev C193_3 : LCode := .region false 0 [
 ⟨some 9, .mov (.cp 1), none⟩,
 ⟨some 4, .mov (.cp 9), none⟩] [] [4]
noncomputable abbrev C193_4 : LCode := .seq C193_3 .ret
noncomputable abbrev C193_5 : LCode := .seq C193_2 C193_4
noncomputable abbrev C193_6 : LCode := .seq C193_1 C193_5
noncomputable def L_tcomp_cursor_element : LF := { np := 2, res := [.tmp 4], keepRes := false, body := C193_6 }
noncomputable abbrev C192_1 : LCode := .region true 0 [
 ⟨some 6, .mov (.cp 0), none⟩,
 ⟨some 7, .nilc (.cp 6), none⟩,
 ⟨some 8, .faddr (.cp 7) 0, none⟩,
 ⟨some 9, .mov (.cp 1), none⟩,
 ⟨some 10, .mov (.cp 0), none⟩,
 ⟨some 11, .nilc (.cp 10), none⟩,
 ⟨some 12, .faddr (.cp 11) 5, none⟩,
 ⟨some 13, .load false (some 3) (.cp 12), none⟩,
 ⟨some 14, .mov (.cp 2), none⟩,
 ⟨some 15, .call N_value_Kind [.cp 13, .cp 14], none⟩,
 ⟨some 16, .call N_tcomp_Short [.cp 15], none⟩,
 ⟨some 17, .bin .neq (.cp 9) (.cp 16), none⟩,
 ⟨some 18, .call N_tcomp_cursor_fails [.cp 8, .cp 17, .c (.int .i64 10)], none⟩] [] []
noncomputable def L_tcomp_reader_is : LF := { np := 3, res := [], keepRes := false, body := C192_1 }
noncomputable abbrev C146_1 : LCode := .region false 1 [
 ⟨some 1, .box (.mv 0), none⟩,
 ⟨some 2, .alloc 0 [.int .i64 0, .int .i64 0, .str [], .sl true 5 [], .sl true 1 []], none⟩,
 ⟨some 3, .mov (.c (.int .i64 0)), none⟩] [] [1, 2]
noncomputable abbrev C146_2 : LCode := .region false 0 [
 ⟨some 4, .load false (some 5) (.cp 1), none⟩,
 ⟨some 5, .call N_order_within [.cp 4], none⟩,
 ⟨some 6, .ext (.cp 5) 0, none⟩,
 ⟨some 7, .ext (.cp 5) 1, none⟩,
 ⟨none, .store (some 5) (.cp 2) (.mv 6), none⟩,
 ⟨some 3, .mov (.cp 7), none⟩] [] [2, 3]
noncomputable abbrev C146_3 : LCode := .seq C146_2 .ret
noncomputable abbrev C146_4 : LCode := .seq C146_1 C146_3
noncomputable def L_order_Normal : LF := { np := 1, res := [.cell 2 (some 5), .tmp 3], keepRes := false, body := C146_4 }
noncomputable abbrev C194_1 : LCode := .region false 0 [
 ⟨some 2, .mov (.c (.int .i64 0)), none⟩,
 ⟨some 3, .mov (.c (.int .u64 0)), none⟩] [] [0]
noncomputable abbrev C194_2 : LCode := .region false 0 [
 ⟨some 5, .mov (.cp 0), none⟩,
 ⟨some 6, .call N_tcomp_cursor_byte [.cp 5], none⟩,
 ⟨some 4, .mov (.cp 6), none⟩] [] [0, 4]
noncomputable abbrev C194_3 : LCode := .region false 0 [
 ⟨some 7, .mov (.cp 0), none⟩,
 ⟨some 8, .mov (.cp 4), none⟩,
 ⟨some 9, .bin .and (.cp 8) (.c (.int .i64 15)), none⟩,
 ⟨some 10, .call N_tcomp_cursor_element [.cp 7, .cp 9], none⟩,
 ⟨some 2, .mov (.cp 10), none⟩] [] [0, 2, 4]
noncomputable abbrev C194_4 : LCode := .region false 0 [
 ⟨some 11, .mov (.cp 4), none⟩,
 ⟨some 12, .bin .shr (.cp 11) (.c (.int .u64 4)), none⟩,
 ⟨some 13, .conv .u64 (.cp 12), none⟩,
 ⟨some 3, .mov (.cp 13), none⟩] [] [0, 2, 3]
noncomputable abbrev C194_5 : LCode := .region false 0 [
 ⟨some 14, .mov (.cp 3), none⟩,
 ⟨some 15, .bin .eql (.cp 14) (.c (.int .u64 15)), none⟩] [] [0, 2, 3, 15]
noncomputable abbrev C194_6 : LCode := .region false 0 [
 ⟨some 16, .mov (.cp 0), none⟩,
 ⟨some 17, .call N_tcomp_cursor_count [.cp 16], none⟩,
 ⟨some 3, .mov (.cp 17), none⟩] [] [2, 3]
noncomputable abbrev C194_7 : LCode := .cond (.cp 15) C194_6 .skip
noncomputable abbrev C194_8 : LCode := .seq C194_5 C194_7
noncomputable abbrev C194_9 : LCode := .seq C194_4 C194_8
noncomputable abbrev C194_10 : LCode := .region false 0 [
 ⟨some 18, .mov (.cp 2), none⟩,
 ⟨some 19, .mov (.cp 3), none⟩,
 ⟨some 2, .mov (.cp 18), none⟩,
 ⟨some 3, .mov (.cp 19), none⟩] [] [2, 3]
noncomputable abbrev C194_11 : LCode := .seq C194_10 .ret
noncomputable abbrev C194_12 : LCode := .seq C194_9 C194_11
noncomputable abbrev C194_13 : LCode := .seq C194_3 C194_12
noncomputable abbrev C194_14 : LCode := .seq C194_2 C194_13
noncomputable abbrev C194_15 : LCode := .seq C194_1 C194_14
noncomputable def L_tcomp_cursor_list : LF := { np := 1, res := [.tmp 2, .tmp 3], keepRes := false, body := C194_15 }
noncomputable abbrev C214_1 : LCode := .region false 0 [
 ⟨some 2, .mov (.c (.bool false)), none⟩] [] [0]
noncomputable abbrev C214_2 : LCode := .region false 0 [
 ⟨some 3, .mov (.cp 0), none⟩,
 ⟨some 4, .bin .lss (.cp 3) (.c (.int .i64 1)), none⟩,
 ⟨some 5, .mov (.cp 4), none⟩,
 ⟨some 6, .mov (.cp 0), some (5, false)⟩,
 ⟨some 7, .bin .gtr (.cp 6) (.c (.int .i64 12)), some (5, false)⟩,
 ⟨some 8, .pick (.cp 5) (.c (.bool true)) (.cp 7), none⟩,
 ⟨some 9, .mov (.cp 8), none⟩,
 ⟨some 10, .mov (.cp 0), some (9, false)⟩,
 ⟨some 11, .bin .eql (.cp 10) (.c (.int .i64 2)), some (9, false)⟩,
 ⟨some 12, .pick (.cp 9) (.c (.bool true)) (.cp 11), none⟩,
 ⟨some 2, .mov (.cp 12), none⟩] [] [2]
noncomputable abbrev C214_3 : LCode := .seq C214_2 .ret
noncomputable abbrev C214_4 : LCode := .seq C214_1 C214_3
noncomputable def L_tcomp_none : LF := { np := 1, res := [.tmp 2], keepRes := false, body := C214_4 }
noncomputable abbrev C190_1 : LCode := .region false 1 [
 ⟨some 1, .box (.mv 0), none⟩,
 ⟨some 2, .alloc 0 [.int .i64 0, .int .i64 0, .str [], .sl true 5 [], .sl true 1 []], none⟩,
 ⟨some 3, .mov (.c (.int .i64 0)), none⟩] [] [1, 2]
noncomputable abbrev C190_2 : LCode := .region false 0 [
 ⟨some 11, .faddr (.cp 1) 0, none⟩,
 ⟨some 12, .load false none (.cp 11), none⟩,
 ⟨some 13, .call N_order_holds [.cp 12], none⟩,
 ⟨some 14, .un .not (.cp 13), none⟩] [] [1, 2, 14]
noncomputable abbrev C190_3 : LCode := .region false 0 [
 ⟨some 15, .load false (some 5) (.cp 1), none⟩,
 ⟨some 16, .call N_order_Copy [.cp 15], none⟩,
 ⟨none, .store (some 5) (.cp 2) (.mv 16), none⟩,
 ⟨some 3, .mov (.c (.int .i64 0)), none⟩] [] [2, 3]
noncomputable abbrev C190_4 : LCode := .seq C190_3 .ret
noncomputable abbrev C190_5 : LCode := .cond (.cp 14) C190_4 .skip
noncomputable abbrev C190_6 : LCode := .seq C190_2 C190_5
noncomputable abbrev C190_7 : LCode := .region true 1 [
 ⟨some 17, .faddr (.cp 1) 0, none⟩,
 ⟨some 18, .load false none (.cp 17), none⟩,
 ⟨some 19, .faddr (.cp 1) 1, none⟩,
 ⟨some 20, .load false none (.cp 19), none⟩,
 ⟨some 21, .faddr (.cp 1) 2, none⟩,
 ⟨some 22, .load false none (.cp 21), none⟩,
 ⟨some 23, .faddr (.cp 1) 4, none⟩,
 ⟨some 24, .load false none (.cp 23), none⟩,
 ⟨some 25, .call N_slices_Clone_int_int [.cp 24], none⟩,
 ⟨some 26, .build [.int .i64 0, .int .i64 0, .str [], .sl true 5 [], .sl true 1 []] [(0, 1, (.cp 18)), (1, 1, (.cp 20)), (2, 1, (.cp 22)), (4, 1, (.mv 25))], none⟩,
 ⟨some 4, .alloc 0 [.int .i64 0, .int .i64 0, .str [], .sl true 5 [], .sl true 1 []], none⟩,
 ⟨none, .store (some 5) (.cp 4) (.mv 26), none⟩] [(1, 3), (1, 5), (3, 5), (1, 7), (3, 7), (5, 7), (1, 8), (3, 8), (5, 8), (1, 10), (3, 10), (5, 10), (7, 10), (8, 10)] [1, 2, 4]
noncomputable abbrev C190_8 : LCode := .region false 0 [
 ⟨some 27, .faddr (.cp 1) 3, none⟩,
 ⟨some 28, .load false none (.cp 27), none⟩,
 ⟨some 29, .len false (.cp 28), none⟩,
 ⟨some 30, .mov (.c (.int .i64 0)), none⟩] [] [1, 2, 4, 28, 29, 30]
noncomputable abbrev C190_9 : LCode := .region false 0 [
 ⟨some 31, .bin .lss (.cp 30) (.cp 29), none⟩] [] [1, 2, 4, 28, 29, 30, 31]
noncomputable abbrev C190_10 : LCode := .cond (.cp 31) .skip (.exit 0)
noncomputable abbrev C190_11 : LCode := .region false 1 [
 ⟨some 32, .iaddr 5 none (.cp 28) (.cp 30), none⟩,
 ⟨some 33, .load false (some 5) (.cp 32), none⟩,
 ⟨some 6, .alloc 0 [.int .i64 0, .int .i64 0, .str [], .sl true 5 [], .sl true 1 []], none⟩,
 ⟨none, .store (some 5) (.cp 6) (.mv 33), none⟩] [] [1, 2, 4, 6, 28, 29, 30]
noncomputable abbrev C190_12 : LCode := .region false 1 [
 ⟨some 35, .load false (some 5) (.cp 6), none⟩,
 ⟨some 36, .call N_order_within [.cp 35], none⟩,
 ⟨some 34, .mov (.cp 36), none⟩,
 ⟨some 37, .ext (.cp 34) 0, none⟩,
 ⟨some 38, .ext (.cp 34) 1, none⟩,
 ⟨some 7, .alloc 0 [.int .i64 0, .int .i64 0, .str [], .sl true 5 [], .sl true 1 []], none⟩,
 ⟨none, .store (some 5) (.cp 7) (.mv 37), none⟩,
 ⟨some 8, .mov (.cp 38), none⟩] [] [1, 2, 4, 7, 8, 28, 29, 30]
noncomputable abbrev C190_13 : LCode := .region false 0 [
 ⟨some 39, .mov (.cp 8), none⟩,
 ⟨some 40, .bin .neq (.cp 39) (.c (.int .i64 0)), none⟩] [] [1, 2, 4, 7, 8, 28, 29, 30, 40]
noncomputable abbrev C190_14 : LCode := .region false 0 [
 ⟨some 41, .build [.int .i64 0, .int .i64 0, .str [], .sl true 5 [], .sl true 1 []] [], none⟩,
 ⟨some 42, .mov (.cp 8), none⟩,
 ⟨none, .store (some 5) (.cp 2) (.mv 41), none⟩,
 ⟨some 3, .mov (.cp 42), none⟩] [] [2, 3]
noncomputable abbrev C190_15 : LCode := .seq C190_14 .ret
noncomputable abbrev C190_16 : LCode := .cond (.cp 40) C190_15 .skip
noncomputable abbrev C190_17 : LCode := .seq C190_13 C190_16
noncomputable abbrev C190_18 : LCode := .region false 0 [
 ⟨some 43, .faddr (.cp 4) 3, none⟩,
 ⟨some 44, .load true none (.cp 43), none⟩,
 ⟨some 45, .load false (some 5) (.cp 7), none⟩,
 ⟨some 46, .bslice 5 (List.replicate 1 (.agg [.int .i64 0, .int .i64 0, .str [], .sl true 5 [], .sl true 1 []])) [(0, (.cp 45))], none⟩,
 ⟨some 47, .append 5 80 (.mv 44) (.cp 46), none⟩,
 ⟨some 48, .faddr (.cp 4) 3, none⟩,
 ⟨none, .store none (.cp 48) (.mv 47), none⟩] [] [1, 2, 4, 28, 29, 30]
noncomputable abbrev C190_19 : LCode := .seq C190_17 C190_18
noncomputable abbrev C190_20 : LCode := .seq C190_12 C190_19
noncomputable abbrev C190_21 : LCode := .seq C190_11 C190_20
noncomputable abbrev C190_22 : LCode := .block 1 C190_21
noncomputable abbrev C190_23 : LCode := .region false 0 [
 ⟨some 49, .bin .add (.cp 30) (.c (.int .i64 1)), none⟩,
 ⟨some 30, .mov (.cp 49), none⟩] [] [1, 2, 4, 28, 29, 30]
noncomputable abbrev C190_24 : LCode := .seq C190_22 C190_23
noncomputable abbrev C190_25 : LCode := .seq C190_10 C190_24
noncomputable def C190_26 : LCode := .seq C190_9 C190_25
noncomputable abbrev C190_27 : LCode := .gc (.only [1, 2, 4, 28, 29, 30] C190_26)
noncomputable abbrev C190_28 : LCode := .only [1, 2, 4, 28, 29, 30] (.loop C190_27)
noncomputable abbrev C190_29 : LCode := .block 0 C190_28
noncomputable abbrev C190_30 : LCode := .seq C190_8 C190_29
noncomputable abbrev C190_31 : LCode := .region false 0 [
 ⟨some 50, .faddr (.cp 1) 0, none⟩,
 ⟨some 51, .load false none (.cp 50), none⟩] [] [2, 4, 51]
noncomputable abbrev C190_32 : LCode := .region false 0 [
 ⟨some 53, .bin .eql (.cp 51) (.c (.int .i64 14)), none⟩,
 ⟨some 52, .mov (.cp 53), none⟩] [] [2, 4, 51, 52]
noncomputable abbrev C190_33 : LCode := .region false 0 [
 ⟨some 54, .faddr (.cp 4) 3, none⟩,
 ⟨some 55, .load false none (.cp 54), none⟩,
 ⟨some 56, .call N_slices_SortStableFunc_api_Value_api_Value [.cp 55, .c (.fn N_order_Cmp [])], none⟩] [] [2, 4]
noncomputable abbrev C190_34 : LCode := .region false 0 [
 ⟨some 57, .faddr (.cp 4) 3, none⟩,
 ⟨some 58, .load false none (.cp 57), none⟩,
 ⟨some 59, .call N_slices_CompactFunc_api_Value_api_Value [.cp 58, .c (.fn N_order_within_1 [])], none⟩,
 ⟨some 60, .faddr (.cp 4) 3, none⟩,
 ⟨none, .store none (.cp 60) (.mv 59), none⟩] [] [2, 4]
noncomputable abbrev C190_35 : LCode := .seq C190_33 C190_34
noncomputable abbrev C190_36 : LCode := .region false 0 [
 ⟨some 62, .bin .eql (.cp 51) (.c (.int .i64 13)), none⟩,
 ⟨some 61, .mov (.cp 62), none⟩] [] [2, 4, 51, 61]
noncomputable abbrev C190_37 : LCode := .region false 0 [
 ⟨some 64, .faddr (.cp 4) 3, none⟩,
 ⟨some 65, .load false none (.cp 64), none⟩,
 ⟨some 66, .call N_order_mapped [.cp 65], none⟩,
 ⟨some 63, .mov (.cp 66), none⟩,
 ⟨some 67, .ext (.cp 63) 0, none⟩,
 ⟨some 68, .ext (.cp 63) 1, none⟩,
 ⟨some 9, .mov (.mv 67), none⟩,
 ⟨some 10, .mov (.cp 68), none⟩] [] [2, 4, 9, 10]
noncomputable abbrev C190_38 : LCode := .region false 0 [
 ⟨some 69, .mov (.cp 10), none⟩,
 ⟨some 70, .bin .neq (.cp 69) (.c (.int .i64 0)), none⟩] [] [2, 4, 9, 10, 70]
noncomputable abbrev C190_39 : LCode := .region false 0 [
 ⟨some 71, .build [.int .i64 0, .int .i64 0, .str [], .sl true 5 [], .sl true 1 []] [], none⟩,
 ⟨some 72, .mov (.cp 10), none⟩,
 ⟨none, .store (some 5) (.cp 2) (.mv 71), none⟩,
 ⟨some 3, .mov (.cp 72), none⟩] [] [2, 3]
noncomputable abbrev C190_40 : LCode := .seq C190_39 .ret
noncomputable abbrev C190_41 : LCode := .cond (.cp 70) C190_40 .skip
noncomputable abbrev C190_42 : LCode := .seq C190_38 C190_41
noncomputable abbrev C190_43 : LCode := .region false 0 [
 ⟨some 73, .mov (.mv 9), none⟩,
 ⟨some 74, .faddr (.cp 4) 3, none⟩,
 ⟨none, .store none (.cp 74) (.mv 73), none⟩] [] [2, 4]
noncomputable abbrev C190_44 : LCode := .seq C190_42 C190_43
noncomputable abbrev C190_45 : LCode := .seq C190_37 C190_44
noncomputable abbrev C190_46 : LCode := .region false 0 [
 ⟨some 76, .bin .eql (.cp 51) (.c (.int .i64 12)), none⟩,
 ⟨some 75, .mov (.cp 76), none⟩] [] [2, 4, 75]
noncomputable abbrev C190_47 : LCode := .region false 0 [
 ⟨some 77, .load false (some 5) (.cp 4), none⟩,
 ⟨some 78, .call N_order_fields [.cp 77], none⟩,
 ⟨some 79, .ext (.cp 78) 0, none⟩,
 ⟨some 80, .ext (.cp 78) 1, none⟩,
 ⟨none, .store (some 5) (.cp 2) (.mv 79), none⟩,
 ⟨some 3, .mov (.cp 80), none⟩] [] [2, 3]
noncomputable abbrev C190_48 : LCode := .seq C190_47 .ret
noncomputable abbrev C190_49 : LCode := .cond (.cp 75) C190_48 .skip
noncomputable abbrev C190_50 : LCode := .seq C190_46 C190_49
noncomputable abbrev C190_51 : LCode := .cond (.cp 61) C190_45 C190_50
noncomputable abbrev C190_52 : LCode := .seq C190_36 C190_51
noncomputable abbrev C190_53 : LCode := .cond (.cp 52) C190_35 C190_52
noncomputable abbrev C190_54 : LCode := .seq C190_32 C190_53
noncomputable abbrev C190_55 : LCode := .block 2 C190_54
noncomputable abbrev C190_56 : LCode := .seq C190_31 C190_55
noncomputable abbrev C190_57 : LCode := .region false 0 [
 ⟨some 81, .load false (some 5) (.cp 4), none⟩,
 ⟨none, .store (some 5) (.cp 2) (.mv 81), none⟩,
 ⟨some 3, .mov (.c (.int .i64 0)), none⟩] [] [2, 3]
noncomputable abbrev C190_58 : LCode := .seq C190_57 .ret
noncomputable abbrev C190_59 : LCode := .seq C190_56 C190_58
noncomputable abbrev C190_60 : LCode := .seq C190_30 C190_59
noncomputable abbrev C190_61 : LCode := .seq C190_7 C190_60
noncomputable abbrev C190_62 : LCode := .seq C190_6 C190_61
noncomputable abbrev C190_63 : LCode := .seq C190_1 C190_62
noncomputable def L_order_within : LF := { np := 1, res := [.cell 2 (some 5), .tmp 3], keepRes := false, body := C190_63 }
noncomputable abbrev C206_1 : LCode := .region false 0 [
 ⟨some 6, .mov (.c (.int .i64 0)), none⟩] [] [0, 1, 2]
noncomputable abbrev C206_2 : LCode := .region false 0 [
 ⟨some 11, .mov (.cp 0), none⟩,
 ⟨some 12, .len false (.cp 11), none⟩,
 ⟨some 13, .mov (.c (.int .i64 0)), none⟩] [] [0, 1, 2, 11, 12, 13]
noncomputable abbrev C206_3 : LCode := .region false 0 [
 ⟨some 14, .bin .lss (.cp 13) (.cp 12), none⟩] [] [0, 1, 2, 11, 12, 13, 14]
noncomputable abbrev C206_4 : LCode := .cond (.cp 14) .skip (.exit 0)
noncomputable abbrev C206_5 : LCode := .region false 1 [
 ⟨some 15, .mov (.cp 13), none⟩,
 ⟨some 16, .iaddr 5 none (.cp 11) (.cp 13), none⟩,
 ⟨some 17, .load false (some 5) (.cp 16), none⟩,
 ⟨some 8, .alloc 0 [.int .i64 0, .int .i64 0, .str [], .sl true 5 [], .sl true 1 []], none⟩,
 ⟨some 7, .mov (.cp 15), none⟩,
 ⟨none, .store (some 5) (.cp 8) (.mv 17), none⟩] [] [0, 1, 2, 7, 8, 11, 12, 13]
noncomputable abbrev C206_6 : LCode := .region false 0 [
 ⟨some 18, .mov (.cp 7), none⟩,
 ⟨some 19, .mov (.cp 1), none⟩,
 ⟨some 20, .len false (.cp 19), none⟩,
 ⟨some 21, .bin .geq (.cp 18) (.cp 20), none⟩] [] [0, 1, 2, 7, 8, 11, 12, 13, 21]
noncomputable abbrev C206_7 : LCode := .region false 0 [
 ⟨some 6, .mov (.c (.int .i64 1)), none⟩] [] [6]
noncomputable abbrev C206_8 : LCode := .seq C206_7 .ret
noncomputable abbrev C206_9 : LCode := .cond (.cp 21) C206_8 .skip
noncomputable abbrev C206_10 : LCode := .seq C206_6 C206_9
noncomputable abbrev C206_11 : LCode := .region false 1 [
 ⟨some 22, .mov (.cp 1), none⟩,
 ⟨some 23, .mov (.cp 7), none⟩,
 ⟨some 24, .iaddr 5 none (.cp 22) (.cp 23), none⟩,
 ⟨some 25, .load false (some 5) (.cp 24), none⟩,
 ⟨some 9, .alloc 0 [.int .i64 0, .int .i64 0, .str [], .sl true 5 [], .sl true 1 []], none⟩,
 ⟨none, .store (some 5) (.cp 9) (.mv 25), none⟩] [] [0, 1, 2, 8, 9, 11, 12, 13]
noncomputable abbrev C206_12 : LCode := .region false 0 [
 ⟨some 26, .mov (.cp 2), none⟩,
 ⟨some 27, .load false (some 5) (.cp 8), none⟩,
 ⟨some 28, .load false (some 5) (.cp 9), none⟩,
 ⟨some 29, .callv (.cp 26) [.cp 27, .cp 28], none⟩,
 ⟨some 10, .mov (.cp 29), none⟩] [] [0, 1, 2, 10, 11, 12, 13]
noncomputable abbrev C206_13 : LCode := .region false 0 [
 ⟨some 30, .mov (.cp 10), none⟩,
 ⟨some 31, .bin .neq (.cp 30) (.c (.int .i64 0)), none⟩] [] [0, 1, 2, 10, 11, 12, 13, 31]
noncomputable abbrev C206_14 : LCode := .region false 0 [
 ⟨some 32, .mov (.cp 10), none⟩,
 ⟨some 6, .mov (.cp 32), none⟩] [] [6]
noncomputable abbrev C206_15 : LCode := .seq C206_14 .ret
noncomputable abbrev C206_16 : LCode := .cond (.cp 31) C206_15 .skip
noncomputable abbrev C206_17 : LCode := .seq C206_13 C206_16
noncomputable abbrev C206_18 : LCode := .seq C206_12 C206_17
noncomputable abbrev C206_19 : LCode := .seq C206_11 C206_18
noncomputable abbrev C206_20 : LCode := .seq C206_10 C206_19
noncomputable abbrev C206_21 : LCode := .seq C206_5 C206_20
noncomputable abbrev C206_22 : LCode := .block 1 C206_21
noncomputable abbrev C206_23 : LCode := .region false 0 [
 ⟨some 33, .bin .add (.cp 13) (.c (.int .i64 1)), none⟩,
 ⟨some 13, .mov (.cp 33), none⟩] [] [0, 1, 2, 11, 12, 13]
noncomputable abbrev C206_24 : LCode := .seq C206_22 C206_23
noncomputable abbrev C206_25 : LCode := .seq C206_4 C206_24
noncomputable def C206_26 : LCode := .seq C206_3 C206_25
noncomputable abbrev C206_27 : LCode := .gc (.only [0, 1, 2, 11, 12, 13] C206_26)
noncomputable abbrev C206_28 : LCode := .only [0, 1, 2, 11, 12, 13] (.loop C206_27)
noncomputable abbrev C206_29 : LCode := .block 0 C206_28
noncomputable abbrev C206_30 : LCode := .seq C206_2 C206_29
noncomputable abbrev C206_31 : LCode := .region false 0 [
 ⟨some 34, .mov (.mv 0), none⟩,
 ⟨some 35, .len false (.cp 34), none⟩,
 ⟨some 36, .mov (.mv 1), none⟩,
 ⟨some 37, .len false (.cp 36), none⟩,
 ⟨some 38, .bin .lss (.cp 35) (.cp 37), none⟩] [] [38]
noncomputable abbrev C206_32 : LCode := .region false 0 [
 ⟨some 6, .mov (.c (.int .i64 (-1))), none⟩] [] [6]
noncomputable abbrev C206_33 : LCode := .seq C206_32 .ret
noncomputable abbrev C206_34 : LCode := .cond (.cp 38) C206_33 .skip
noncomputable abbrev C206_35 : LCode := .seq C206_31 C206_34
noncomputable abbrev C206_36 : LCode := .region false 0 [
 ⟨some 6, .mov (.c (.int .i64 0)), none⟩] [] [6]
noncomputable abbrev C206_37 : LCode := .seq C206_36 .ret
noncomputable abbrev C206_38 : LCode := .seq C206_35 C206_37
noncomputable abbrev C206_39 : LCode := .seq C206_30 C206_38
noncomputable abbrev C206_40 : LCode := .seq C206_1 C206_39
noncomputable def L_slices_CompareFunc_api_Value_api_Value_api_Value_api_Value : LF := { np := 3, res := [.tmp 6], keepRes := false, body := C206_40 }
noncomputable abbrev C207_1 : LCode := .region false 0 [
 ⟨some 2, .mov (.c (.bool false)), none⟩] [] [0]
noncomputable abbrev C207_2 : LCode := .region false 0 [
 ⟨some 3, .mov (.cp 0), none⟩,
 ⟨some 4, .bin .eql (.cp 3) (.c (.int .i64 15)), none⟩,
 ⟨some 5, .mov (.cp 4), none⟩,
 ⟨some 6, .mov (.cp 0), some (5, false)⟩,
 ⟨some 7, .bin .eql (.cp 6) (.c (.int .i64 14)), some (5, false)⟩,
 ⟨some 8, .pick (.cp 5) (.c (.bool true)) (.cp 7), none⟩,
 ⟨some 9, .mov (.cp 8), none⟩,
 ⟨some 10, .mov (.cp 0), some (9, false)⟩,
 ⟨some 11, .bin .eql (.cp 10) (.c (.int .i64 13)), some (9, false)⟩,
 ⟨some 12, .pick (.cp 9) (.c (.bool true)) (.cp 11), none⟩,
 ⟨some 13, .mov (.cp 12), none⟩,
 ⟨some 14, .mov (.cp 0), some (13, false)⟩,
 ⟨some 15, .bin .eql (.cp 14) (.c (.int .i64 12)), some (13, false)⟩,
 ⟨some 16, .pick (.cp 13) (.c (.bool true)) (.cp 15), none⟩,
 ⟨some 2, .mov (.cp 16), none⟩] [] [2]
noncomputable abbrev C207_3 : LCode := .seq C207_2 .ret
noncomputable abbrev C207_4 : LCode := .seq C207_1 C207_3
noncomputable def L_order_holds : LF := { np := 1, res := [.tmp 2], keepRes := false, body := C207_4 }
noncomputable abbrev C208_1 : LCode := .region false 1 [
 ⟨some 1, .box (.mv 0), none⟩,
 ⟨some 2, .alloc 0 [.int .i64 0, .int .i64 0, .str [], .sl true 5 [], .sl true 1 []], none⟩] [] [1, 2]
noncomputable abbrev C208_2 : LCode := .region false 0 [
 ⟨some 6, .faddr (.cp 1) 4, none⟩,
 ⟨some 7, .load false none (.cp 6), none⟩,
 ⟨some 8, .call N_slices_Clone_int_int [.cp 7], none⟩,
 ⟨some 9, .faddr (.cp 1) 4, none⟩,
 ⟨none, .store none (.cp 9) (.mv 8), none⟩] [] [1, 2]
noncomputable abbrev C208_3 : LCode := .region false 0 [
 ⟨some 10, .faddr (.cp 1) 3, none⟩,
 ⟨some 11, .load false none (.cp 10), none⟩,
 ⟨some 3, .mov (.mv 11), none⟩] [] [1, 2, 3]
noncomputable abbrev C208_4 : LCode := .region false 0 [
 ⟨some 12, .faddr (.cp 1) 3, none⟩,
 ⟨none, .store none (.cp 12) (.c (.sl true 5 [])), none⟩] [] [1, 2, 3]
noncomputable abbrev C208_5 : LCode := .region false 0 [
 ⟨some 13, .mov (.mv 3), none⟩,
 ⟨some 14, .len false (.cp 13), none⟩,
 ⟨some 15, .mov (.c (.int .i64 0)), none⟩] [] [1, 2, 13, 14, 15]
noncomputable abbrev C208_6 : LCode := .region false 0 [
 ⟨some 16, .bin .lss (.cp 15) (.cp 14), none⟩] [] [1, 2, 13, 14, 15, 16]
noncomputable abbrev C208_7 : LCode := .cond (.cp 16) .skip (.exit 0)
noncomputable abbrev C208_8 : LCode := .region false 1 [
 ⟨some 17, .iaddr 5 none (.cp 13) (.cp 15), none⟩,
 ⟨some 18, .load false (some 5) (.cp 17), none⟩,
 ⟨some 5, .alloc 0 [.int .i64 0, .int .i64 0, .str [], .sl true 5 [], .sl true 1 []], none⟩,
 ⟨none, .store (some 5) (.cp 5) (.mv 18), none⟩] [] [1, 2, 5, 13, 14, 15]
noncomputable abbrev C208_9 : LCode := .region true 0 [
 ⟨some 19, .faddr (.cp 1) 3, none⟩,
 ⟨some 20, .load true none (.cp 19), none⟩,
 ⟨some 21, .load false (some 5) (.cp 5), none⟩,
 ⟨some 22, .call N_order_Copy [.cp 21], none⟩,
 ⟨some 23, .bslice 5 (List.replicate 1 (.agg [.int .i64 0, .int .i64 0, .str [], .sl true 5 [], .sl true 1 []])) [(0, (.cp 22))], none⟩,
 ⟨some 24, .append 5 80 (.mv 20) (.cp 23), none⟩,
 ⟨some 25, .faddr (.cp 1) 3, none⟩,
 ⟨none, .store none (.cp 25) (.mv 24), none⟩] [(1, 2), (1, 3)] [1, 2, 13, 14, 15]
noncomputable abbrev C208_10 : LCode := .seq C208_8 C208_9
noncomputable abbrev C208_11 : LCode := .block 1 C208_10
noncomputable abbrev C208_12 : LCode := .region false 0 [
 ⟨some 26, .bin .add (.cp 15) (.c (.int .i64 1)), none⟩,
 ⟨some 15, .mov (.cp 26), none⟩] [] [1, 2, 13, 14, 15]
noncomputable abbrev C208_13 : LCode := .seq C208_11 C208_12
noncomputable abbrev C208_14 : LCode := .seq C208_7 C208_13
noncomputable def C208_15 : LCode := .seq C208_6 C208_14
noncomputable abbrev C208_16 : LCode := .gc (.only [1, 2, 13, 14, 15] C208_15)
noncomputable abbrev C208_17 : LCode := .only [1, 2, 13, 14, 15] (.loop C208_16)
noncomputable abbrev C208_18 : LCode := .block 0 C208_17
noncomputable abbrev C208_19 : LCode := .seq C208_5 C208_18
noncomputable abbrev C208_20 : LCode := .region false 0 [
 ⟨some 27, .load false (some 5) (.cp 1), none⟩,
 ⟨none, .store (some 5) (.cp 2) (.mv 27), none⟩] [] [2]
noncomputable abbrev C208_21 : LCode := .seq C208_20 .ret
noncomputable abbrev C208_22 : LCode := .seq C208_19 C208_21
noncomputable abbrev C208_23 : LCode := .seq C208_4 C208_22
noncomputable abbrev C208_24 : LCode := .seq C208_3 C208_23
noncomputable abbrev C208_25 : LCode := .seq C208_2 C208_24
noncomputable abbrev C208_26 : LCode := .seq C208_1 C208_25
noncomputable def L_order_Copy : LF := { np := 1, res := [.cell 2 (some 5)], keepRes := false, body := C208_26 }
noncomputable abbrev C211_1 : LCode := .region false 0 [
 ⟨some 2, .box (.mv 0), none⟩,
 ⟨some 3, .box (.mv 1), none⟩,
 ⟨some 4, .mov (.c (.bool false)), none⟩] [] [2, 3]
noncomputable abbrev C211_2 : LCode := .region false 0 [
 ⟨some 5, .load false (some 5) (.cp 2), none⟩,
 ⟨some 6, .load false (some 5) (.cp 3), none⟩,
 ⟨some 7, .call N_order_Cmp [.cp 5, .cp 6], none⟩,
 ⟨some 8, .bin .eql (.cp 7) (.c (.int .i64 0)), none⟩,
 ⟨some 4, .mov (.cp 8), none⟩] [] [4]
noncomputable abbrev C211_3 : LCode := .seq C211_2 .ret
noncomputable abbrev C211_4 : LCode := .seq C211_1 C211_3
noncomputable def L_order_within_1 : LF := { np := 2, res := [.tmp 4], keepRes := false, body := C211_4 }
noncomputable abbrev C213_1 : LCode := .region false 1 [
 ⟨some 1, .box (.mv 0), none⟩,
 ⟨some 2, .alloc 0 [.int .i64 0, .int .i64 0, .str [], .sl true 5 [], .sl true 1 []], none⟩,
 ⟨some 3, .mov (.c (.int .i64 0)), none⟩] [] [1, 2]
noncomputable abbrev C213_2 : LCode := .region false 0 [
 ⟨some 9, .faddr (.cp 1) 4, none⟩,
 ⟨some 10, .load false none (.cp 9), none⟩,
 ⟨some 11, .len false (.cp 10), none⟩,
 ⟨some 12, .faddr (.cp 1) 3, none⟩,
 ⟨some 13, .load false none (.cp 12), none⟩,
 ⟨some 14, .len false (.cp 13), none⟩,
 ⟨some 15, .bin .neq (.cp 11) (.cp 14), none⟩] [] [1, 2, 15]
noncomputable abbrev C213_3 : LCode := .region false 0 [
 ⟨some 16, .build [.int .i64 0, .int .i64 0, .str [], .sl true 5 [], .sl true 1 []] [], none⟩,
 ⟨none, .store (some 5) (.cp 2) (.mv 16), none⟩,
 ⟨some 3, .mov (.c (.int .i64 1)), none⟩] [] [2, 3]
noncomputable abbrev C213_4 : LCode := .seq C213_3 .ret
noncomputable abbrev C213_5 : LCode := .cond (.cp 15) C213_4 .skip
noncomputable abbrev C213_6 : LCode := .seq C213_2 C213_5
noncomputable abbrev C213_7 : LCode := .region false 0 [
 ⟨some 17, .faddr (.cp 1) 4, none⟩,
 ⟨some 18, .load false none (.cp 17), none⟩,
 ⟨some 19, .len false (.cp 18), none⟩,
 ⟨some 20, .mkslice none 8 [.int .i64 0] (.cp 19) (.cp 19), none⟩,
 ⟨some 4, .mov (.mv 20), none⟩] [] [1, 2, 4]
noncomputable abbrev C213_8 : LCode := .region false 0 [
 ⟨some 21, .mov (.cp 4), none⟩,
 ⟨some 22, .len false (.cp 21), none⟩,
 ⟨some 23, .mov (.c (.int .i64 0)), none⟩] [] [1, 2, 4, 22, 23]
noncomputable abbrev C213_9 : LCode := .region false 0 [
 ⟨some 24, .bin .lss (.cp 23) (.cp 22), none⟩] [] [1, 2, 4, 22, 23, 24]
noncomputable abbrev C213_10 : LCode := .cond (.cp 24) .skip (.exit 0)
noncomputable abbrev C213_11 : LCode := .region false 0 [
 ⟨some 25, .mov (.cp 23), none⟩,
 ⟨some 5, .mov (.cp 25), none⟩] [] [1, 2, 4, 5, 22, 23]
noncomputable abbrev C213_12 : LCode := .region false 0 [
 ⟨some 26, .mov (.cp 4), none⟩,
 ⟨some 27, .mov (.cp 5), none⟩,
 ⟨some 28, .mov (.cp 5), none⟩,
 ⟨some 29, .iaddr 1 none (.cp 26) (.cp 27), none⟩,
 ⟨none, .store none (.cp 29) (.cp 28), none⟩] [] [1, 2, 4, 22, 23]
noncomputable abbrev C213_13 : LCode := .seq C213_11 C213_12
noncomputable abbrev C213_14 : LCode := .block 1 C213_13
noncomputable abbrev C213_15 : LCode := .region false 0 [
 ⟨some 30, .bin .add (.cp 23) (.c (.int .i64 1)), none⟩,
 ⟨some 23, .mov (.cp 30), none⟩] [] [1, 2, 4, 22, 23]
noncomputable abbrev C213_16 : LCode := .seq C213_14 C213_15
noncomputable abbrev C213_17 : LCode := .seq C213_10 C213_16
noncomputable def C213_18 : LCode := .seq C213_9 C213_17
noncomputable abbrev C213_19 : LCode := .gc (.only [1, 2, 4, 22, 23] C213_18)
noncomputable abbrev C213_20 : LCode := .only [1, 2, 4, 22, 23] (.loop C213_19)
noncomputable abbrev C213_21 : LCode := .block 0 C213_20
noncomputable abbrev C213_22 : LCode := .seq C213_8 C213_21
noncomputable abbrev C213_23 : LCode := .region false 0 [
 ⟨some 31, .mov (.cp 4), none⟩,
 ⟨some 32, .mkfn N_order_fields_1 [.cp 1], none⟩,
 ⟨some 33, .call N_slices_SortStableFunc_int_int [.cp 31, .cp 32], none⟩] [] [1, 2, 4]
noncomputable abbrev C213_24 : LCode := .region false 1 [
 ⟨some 34, .faddr (.cp 1) 0, none⟩,
 ⟨some 35, .load false none (.cp 34), none⟩,
 ⟨some 36, .faddr (.cp 1) 1, none⟩,
 ⟨some 37, .load false none (.cp 36), none⟩,
 ⟨some 38, .faddr (.cp 1) 2, none⟩,
 ⟨some 39, .load false none (.cp 38), none⟩,
 ⟨some 40, .build [.int .i64 0, .int .i64 0, .str [], .sl true 5 [], .sl true 1 []] [(0, 1, (.cp 35)), (1, 1, (.cp 37)), (2, 1, (.cp 39))], none⟩,
 ⟨some 6, .alloc 0 [.int .i64 0, .int .i64 0, .str [], .sl true 5 [], .sl true 1 []], none⟩,
 ⟨none, .store (some 5) (.cp 6) (.mv 40), none⟩] [] [1, 2, 4, 6]
noncomputable abbrev C213_25 : LCode := .region false 0 [
 ⟨some 41, .mov (.cp 4), none⟩,
 ⟨some 42, .len false (.cp 41), none⟩,
 ⟨some 43, .mov (.c (.int .i64 0)), none⟩] [] [1, 2, 4, 6, 41, 42, 43]
noncomputable abbrev C213_26 : LCode := .region false 0 [
 ⟨some 44, .bin .lss (.cp 43) (.cp 42), none⟩] [] [1, 2, 4, 6, 41, 42, 43, 44]
noncomputable abbrev C213_27 : LCode := .cond (.cp 44) .skip (.exit 2)
noncomputable abbrev C213_28 : LCode := .region false 0 [
 ⟨some 45, .mov (.cp 43), none⟩,
 ⟨some 46, .iaddr 1 none (.cp 41) (.cp 43), none⟩,
 ⟨some 47, .load false none (.cp 46), none⟩,
 ⟨some 7, .mov (.cp 45), none⟩,
 ⟨some 8, .mov (.cp 47), none⟩] [] [1, 2, 4, 6, 7, 8, 41, 42, 43]
noncomputable abbrev C213_29 : LCode := .region true 0 [
 ⟨some 48, .mov (.cp 7), none⟩,
 ⟨some 49, .bin .gtr (.cp 48) (.c (.int .i64 0)), none⟩,
 ⟨some 50, .mov (.cp 49), none⟩,
 ⟨some 51, .faddr (.cp 1) 4, some (50, true)⟩,
 ⟨some 52, .load false none (.cp 51), some (50, true)⟩,
 ⟨some 53, .mov (.cp 4), some (50, true)⟩,
 ⟨some 54, .mov (.cp 7), some (50, true)⟩,
 ⟨some 55, .bin .sub (.cp 54) (.c (.int .i64 1)), some (50, true)⟩,
 ⟨some 56, .iaddr 1 none (.cp 53) (.cp 55), some (50, true)⟩,
 ⟨some 57, .load false none (.cp 56), some (50, true)⟩,
 ⟨some 58, .iaddr 1 none (.cp 52) (.cp 57), some (50, true)⟩,
 ⟨some 59, .load false none (.cp 58), some (50, true)⟩,
 ⟨some 60, .faddr (.cp 1) 4, some (50, true)⟩,
 ⟨some 61, .load false none (.cp 60), some (50, true)⟩,
 ⟨some 62, .mov (.cp 8), some (50, true)⟩,
 ⟨some 63, .iaddr 1 none (.cp 61) (.cp 62), some (50, true)⟩,
 ⟨some 64, .load false none (.cp 63), some (50, true)⟩,
 ⟨some 65, .bin .eql (.cp 59) (.cp 64), some (50, true)⟩,
 ⟨some 66, .pick (.cp 50) (.cp 65) (.c (.bool false)), none⟩] [(4, 9), (4, 13), (9, 13), (11, 13), (4, 16), (9, 16), (11, 16)] [1, 2, 4, 6, 8, 41, 42, 43, 66]
noncomputable abbrev C213_30 : LCode := .region false 0 [
 ⟨some 67, .build [.int .i64 0, .int .i64 0, .str [], .sl true 5 [], .sl true 1 []] [], none⟩,
 ⟨none, .store (some 5) (.cp 2) (.mv 67), none⟩,
 ⟨some 3, .mov (.c (.int .i64 8)), none⟩] [] [2, 3]
noncomputable abbrev C213_31 : LCode := .seq C213_30 .ret
noncomputable abbrev C213_32 : LCode := .cond (.cp 66) C213_31 .skip
noncomputable abbrev C213_33 : LCode := .seq C213_29 C213_32
noncomputable def C213_34 : LCode := .region true 0 [
 ⟨some 68, .faddr (.cp 6) 4, none⟩,
 ⟨some 69, .load true none (.cp 68), none⟩,
 ⟨some 70, .faddr (.cp 1) 4, none⟩,
 ⟨some 71, .load false none (.cp 70), none⟩,
 ⟨some 72, .mov (.cp 8), none⟩,
 ⟨some 73, .iaddr 1 none (.cp 71) (.cp 72), none⟩,
 ⟨some 74, .load false none (.cp 73), none⟩,
 ⟨some 75, .bslice 1 (List.replicate 1 (.int .i64 0)) [(0, (.cp 74))], none⟩,
 ⟨some 76, .append 1 8 (.mv 69) (.cp 75), none⟩,
 ⟨some 77, .faddr (.cp 6) 3, none⟩,
 ⟨some 78, .load true none (.cp 77), none⟩,
 ⟨some 79, .faddr (.cp 1) 3, none⟩,
 ⟨some 80, .load false none (.cp 79), none⟩,
 ⟨some 81, .mov (.cp 8), none⟩,
 ⟨some 82, .iaddr 5 none (.cp 80) (.cp 81), none⟩,
 ⟨some 83, .load false (some 5) (.cp 82), none⟩,
 ⟨some 84, .bslice 5 (List.replicate 1 (.agg [.int .i64 0, .int .i64 0, .str [], .sl true 5 [], .sl true 1 []])) [(0, (.cp 83))], none⟩,
 ⟨some 85, .append 5 80 (.mv 78) (.cp 84), none⟩,
 ⟨some 86, .faddr (.cp 6) 4, none⟩,
 ⟨none, .store none (.cp 86) (.mv 76), none⟩,
 ⟨some 87, .faddr (.cp 6) 3, none⟩,
 ⟨none, .store none (.cp 87) (.mv 85), none⟩] [(1, 3), (1, 6), (1, 10), (3, 10), (6, 10), (1, 12), (3, 12), (6, 12), (10, 12), (1, 15), (3, 15), (6, 15), (10, 15)] [1, 2, 4, 6, 41, 42, 43]
noncomputable abbrev C213_35 : LCode := .only [1, 2, 4, 6, 8, 41, 42, 43] C213_34
noncomputable abbrev C213_36 : LCode := .seq C213_33 C213_35
noncomputable abbrev C213_37 : LCode := .seq C213_28 C213_36
noncomputable abbrev C213_38 : LCode := .block 3 C213_37
noncomputable abbrev C213_39 : LCode := .region false 0 [
 ⟨some 88, .bin .add (.cp 43) (.c (.int .i64 1)), none⟩,
 ⟨some 43, .mov (.cp 88), none⟩] [] [1, 2, 4, 6, 41, 42, 43]
noncomputable abbrev C213_40 : LCode := .seq C213_38 C213_39
noncomputable abbrev C213_41 : LCode := .seq C213_27 C213_40
noncomputable def C213_42 : LCode := .seq C213_26 C213_41
noncomputable abbrev C213_43 : LCode := .gc (.only [1, 2, 4, 6, 41, 42, 43] C213_42)
noncomputable abbrev C213_44 : LCode := .only [1, 2, 4, 6, 41, 42, 43] (.loop C213_43)
noncomputable abbrev C213_45 : LCode := .block 2 C213_44
noncomputable abbrev C213_46 : LCode := .seq C213_25 C213_45
noncomputable abbrev C213_47 : LCode := .region false 0 [
 ⟨some 89, .load false (some 5) (.cp 6), none⟩,
 ⟨none, .store (some 5) (.cp 2) (.mv 89), none⟩,
 ⟨some 3, .mov (.c (.int .i64 0)), none⟩] [] [2, 3]
noncomputable abbrev C213_48 : LCode := .seq C213_47 .ret
noncomputable abbrev C213_49 : LCode := .seq C213_46 C213_48
noncomputable abbrev C213_50 : LCode := .seq C213_24 C213_49
noncomputable abbrev C213_51 : LCode := .seq C213_23 C213_50
noncomputable abbrev C213_52 : LCode := .seq C213_22 C213_51
noncomputable abbrev C213_53 : LCode := .seq C213_7 C213_52
noncomputable abbrev C213_54 : LCode := .seq C213_6 C213_53
noncomputable abbrev C213_55 : LCode := .seq C213_1 C213_54
noncomputable def L_order_fields : LF := { np := 1, res := [.cell 2 (some 5), .tmp 3], keepRes := false, body := C213_55 }
noncomputable abbrev C221_1 : LCode := .region false 0 [
 ⟨some 5, .mov (.c (.int .i64 0)), none⟩] [] [0, 1, 2]
noncomputable abbrev C221_2 : LCode := .region true 0 [
 ⟨some 6, .faddr (.cp 2) 4, none⟩,
 ⟨some 7, .load false none (.cp 6), none⟩,
 ⟨some 8, .mov (.cp 0), none⟩,
 ⟨some 9, .iaddr 1 none (.cp 7) (.cp 8), none⟩,
 ⟨some 10, .load false none (.cp 9), none⟩,
 ⟨some 11, .faddr (.cp 2) 4, none⟩,
 ⟨some 12, .load false none (.cp 11), none⟩,
 ⟨some 13, .mov (.cp 1), none⟩,
 ⟨some 14, .iaddr 1 none (.cp 12) (.cp 13), none⟩,
 ⟨some 15, .load false none (.cp 14), none⟩,
 ⟨some 16, .call N_cmp_Compare_int [.cp 10, .cp 15], none⟩,
 ⟨some 5, .mov (.cp 16), none⟩] [(1, 6), (4, 6), (1, 9), (4, 9)] [5]
noncomputable abbrev C221_3 : LCode := .seq C221_2 .ret
noncomputable abbrev C221_4 : LCode := .seq C221_1 C221_3
noncomputable def L_order_fields_1 : LF := { np := 2, res := [.tmp 5], keepRes := false, body := C221_4 }
noncomputable abbrev C220_1 : LCode := .region false 0 [
 ⟨some 4, .mov (.cp 0), none⟩,
 ⟨some 5, .mov (.cp 0), none⟩,
 ⟨some 6, .len false (.cp 5), none⟩,
 ⟨some 7, .mov (.cp 1), none⟩,
 ⟨some 8, .call N_slices_stableCmpFunc_int [.cp 4, .cp 6, .cp 7], none⟩] [] []
noncomputable def L_slices_SortStableFunc_int_int : LF := { np := 2, res := [], keepRes := false, body := C220_1 }
noncomputable abbrev C225_1 : LCode := .region false 0 [
 ⟨some 6, .mov (.c (.int .i64 20)), none⟩] [] [0, 1, 2, 6]
noncomputable abbrev C225_2 : LCode := .region false 0 [
 ⟨some 10, .mov (.cp 6), none⟩,
 ⟨some 7, .mov (.c (.int .i64 0)), none⟩,
 ⟨some 8, .mov (.cp 10), none⟩] [] [0, 1, 2, 6, 7, 8]
noncomputable abbrev C225_3 : LCode := .region false 0 [
 ⟨some 11, .mov (.cp 8), none⟩,
 ⟨some 12, .mov (.cp 1), none⟩,
 ⟨some 13, .bin .leq (.cp 11) (.cp 12), none⟩] [] [0, 1, 2, 6, 7, 8, 13]
noncomputable abbrev C225_4 : LCode := .cond (.cp 13) .skip (.exit 0)
noncomputable abbrev C225_5 : LCode := .seq C225_3 C225_4
noncomputable abbrev C225_6 : LCode := .region false 0 [
 ⟨some 14, .mov (.cp 0), none⟩,
 ⟨some 15, .mov (.cp 7), none⟩,
 ⟨some 16, .mov (.cp 8), none⟩,
 ⟨some 17, .mov (.cp 2), none⟩,
 ⟨some 18, .call N_slices_insertionSortCmpFunc_int [.cp 14, .cp 15, .cp 16, .cp 17], none⟩] [] [0, 1, 2, 6, 8]
noncomputable abbrev C225_7 : LCode := .region false 0 [
 ⟨some 19, .mov (.cp 8), none⟩,
 ⟨some 7, .mov (.cp 19), none⟩] [] [0, 1, 2, 6, 7, 8]
noncomputable abbrev C225_8 : LCode := .region false 0 [
 ⟨some 20, .mov (.cp 8), none⟩,
 ⟨some 21, .mov (.cp 6), none⟩,
 ⟨some 22, .bin .add (.cp 20) (.cp 21), none⟩,
 ⟨some 8, .mov (.cp 22), none⟩] [] [0, 1, 2, 6, 7, 8]
noncomputable abbrev C225_9 : LCode := .seq C225_7 C225_8
noncomputable abbrev C225_10 : LCode := .seq C225_6 C225_9
noncomputable abbrev C225_11 : LCode := .block 1 C225_10
noncomputable def C225_12 : LCode := .seq C225_5 C225_11
noncomputable abbrev C225_13 : LCode := .gc (.only [0, 1, 2, 6, 7, 8] C225_12)
noncomputable abbrev C225_14 : LCode := .only [0, 1, 2, 6, 7, 8] (.loop C225_13)
noncomputable abbrev C225_15 : LCode := .block 0 C225_14
noncomputable abbrev C225_16 : LCode := .region false 0 [
 ⟨some 23, .mov (.cp 0), none⟩,
 ⟨some 24, .mov (.cp 7), none⟩,
 ⟨some 25, .mov (.cp 1), none⟩,
 ⟨some 26, .mov (.cp 2), none⟩,
 ⟨some 27, .call N_slices_insertionSortCmpFunc_int [.cp 23, .cp 24, .cp 25, .cp 26], none⟩] [] [0, 1, 2, 6]
noncomputable abbrev C225_17 : LCode := .region false 0 [
 ⟨some 28, .mov (.cp 6), none⟩,
 ⟨some 29, .mov (.cp 1), none⟩,
 ⟨some 30, .bin .lss (.cp 28) (.cp 29), none⟩] [] [0, 1, 2, 6, 30]
noncomputable abbrev C225_18 : LCode := .cond (.cp 30) .skip (.exit 2)
noncomputable abbrev C225_19 : LCode := .seq C225_17 C225_18
noncomputable abbrev C225_20 : LCode := .region false 0 [
 ⟨some 31, .mov (.cp 6), none⟩,
 ⟨some 32, .bin .mul (.c (.int .i64 2)) (.cp 31), none⟩,
 ⟨some 7, .mov (.c (.int .i64 0)), none⟩,
 ⟨some 8, .mov (.cp 32), none⟩] [] [0, 1, 2, 6, 7, 8]
noncomputable abbrev C225_21 : LCode := .region false 0 [
 ⟨some 33, .mov (.cp 8), none⟩,
 ⟨some 34, .mov (.cp 1), none⟩,
 ⟨some 35, .bin .leq (.cp 33) (.cp 34), none⟩] [] [0, 1, 2, 6, 7, 8, 35]
noncomputable abbrev C225_22 : LCode := .cond (.cp 35) .skip (.exit 4)
noncomputable abbrev C225_23 : LCode := .seq C225_21 C225_22
noncomputable abbrev C225_24 : LCode := .region false 0 [
 ⟨some 36, .mov (.cp 0), none⟩,
 ⟨some 37, .mov (.cp 7), none⟩,
 ⟨some 38, .mov (.cp 7), none⟩,
 ⟨some 39, .mov (.cp 6), none⟩,
 ⟨some 40, .bin .add (.cp 38) (.cp 39), none⟩,
 ⟨some 41, .mov (.cp 8), none⟩,
 ⟨some 42, .mov (.cp 2), none⟩,
 ⟨some 43, .call N_slices_symMergeCmpFunc_int [.cp 36, .cp 37, .cp 40, .cp 41, .cp 42], none⟩] [] [0, 1, 2, 6, 8]
noncomputable abbrev C225_25 : LCode := .region false 0 [
 ⟨some 44, .mov (.cp 8), none⟩,
 ⟨some 7, .mov (.cp 44), none⟩] [] [0, 1, 2, 6, 7, 8]
noncomputable abbrev C225_26 : LCode := .region false 0 [
 ⟨some 45, .mov (.cp 8), none⟩,
 ⟨some 46, .mov (.cp 6), none⟩,
 ⟨some 47, .bin .mul (.c (.int .i64 2)) (.cp 46), none⟩,
 ⟨some 48, .bin .add (.cp 45) (.cp 47), none⟩,
 ⟨some 8, .mov (.cp 48), none⟩] [] [0, 1, 2, 6, 7, 8]
noncomputable abbrev C225_27 : LCode := .seq C225_25 C225_26
noncomputable abbrev C225_28 : LCode := .seq C225_24 C225_27
noncomputable abbrev C225_29 : LCode := .block 5 C225_28
noncomputable def C225_30 : LCode := .seq C225_23 C225_29
noncomputable abbrev C225_31 : LCode := .gc (.only [0, 1, 2, 6, 7, 8] C225_30)
noncomputable abbrev C225_32 : LCode := .only [0, 1, 2, 6, 7, 8] (.loop C225_31)
noncomputable abbrev C225_33 : LCode := .block 4 C225_32
noncomputable abbrev C225_34 : LCode := .region false 0 [
 ⟨some 49, .mov (.cp 7), none⟩,
 ⟨some 50, .mov (.cp 6), none⟩,
 ⟨some 51, .bin .add (.cp 49) (.cp 50), none⟩,
 ⟨some 9, .mov (.cp 51), none⟩] [] [0, 1, 2, 6, 7, 9]
noncomputable abbrev C225_35 : LCode := .region false 0 [
 ⟨some 52, .mov (.cp 9), none⟩,
 ⟨some 53, .mov (.cp 1), none⟩,
 ⟨some 54, .bin .lss (.cp 52) (.cp 53), none⟩] [] [0, 1, 2, 6, 7, 9, 54]
noncomputable abbrev C225_36 : LCode := .region false 0 [
 ⟨some 55, .mov (.cp 0), none⟩,
 ⟨some 56, .mov (.cp 7), none⟩,
 ⟨some 57, .mov (.cp 9), none⟩,
 ⟨some 58, .mov (.cp 1), none⟩,
 ⟨some 59, .mov (.cp 2), none⟩,
 ⟨some 60, .call N_slices_symMergeCmpFunc_int [.cp 55, .cp 56, .cp 57, .cp 58, .cp 59], none⟩] [] [0, 1, 2, 6]
noncomputable abbrev C225_37 : LCode := .cond (.cp 54) C225_36 .skip
noncomputable abbrev C225_38 : LCode := .seq C225_35 C225_37
noncomputable abbrev C225_39 : LCode := .seq C225_34 C225_38
noncomputable abbrev C225_40 : LCode := .region false 0 [
 ⟨some 61, .mov (.cp 6), none⟩,
 ⟨some 62, .bin .mul (.cp 61) (.c (.int .i64 2)), none⟩,
 ⟨some 6, .mov (.cp 62), none⟩] [] [0, 1, 2, 6]
noncomputable abbrev C225_41 : LCode := .seq C225_39 C225_40
noncomputable abbrev C225_42 : LCode := .seq C225_33 C225_41
noncomputable abbrev C225_43 : LCode := .seq C225_20 C225_42
noncomputable abbrev C225_44 : LCode := .block 3 C225_43
noncomputable def C225_45 : LCode := .seq C225_19 C225_44
noncomputable abbrev C225_46 : LCode := .gc (.only [0, 1, 2, 6] C225_45)
noncomputable abbrev C225_47 : LCode := .only [0, 1, 2, 6] (.loop C225_46)
noncomputable abbrev C225_48 : LCode := .block 2 C225_47
noncomputable abbrev C225_49 : LCode := .seq C225_16 C225_48
noncomputable abbrev C225_50 : LCode := .seq C225_15 C225_49
noncomputable abbrev C225_51 : LCode := .seq C225_2 C225_50
noncomputable abbrev C225_52 : LCode := .seq C225_1 C225_51
noncomputable def L_slices_stableCmpFunc_int : LF := { np := 3, res := [], keepRes := false, body := C225_52 }
noncomputable abbrev C229_1 : LCode := .region false 0 [
 ⟨some 10, .mov (.cp 1), none⟩,
 ⟨some 11, .bin .add (.cp 10) (.c (.int .i64 1)), none⟩,
 ⟨some 8, .mov (.cp 11), none⟩] [] [0, 1, 2, 3, 8]
noncomputable abbrev C229_2 : LCode := .region false 0 [
 ⟨some 12, .mov (.cp 8), none⟩,
 ⟨some 13, .mov (.cp 2), none⟩,
 ⟨some 14, .bin .lss (.cp 12) (.cp 13), none⟩] [] [0, 1, 2, 3, 8, 14]
noncomputable abbrev C229_3 : LCode := .cond (.cp 14) .skip (.exit 0)
noncomputable abbrev C229_4 : LCode := .seq C229_2 C229_3
noncomputable abbrev C229_5 : LCode := .region false 0 [
 ⟨some 17, .mov (.cp 8), none⟩,
 ⟨some 9, .mov (.cp 17), none⟩] [] [0, 1, 2, 3, 8, 9]
noncomputable abbrev C229_6 : LCode := .region true 0 [
 ⟨some 18, .mov (.cp 9), none⟩,
 ⟨some 19, .mov (.cp 1), none⟩,
 ⟨some 20, .bin .gtr (.cp 18) (.cp 19), none⟩,
 ⟨some 21, .mov (.cp 20), none⟩,
 ⟨some 22, .mov (.cp 3), some (21, true)⟩,
 ⟨some 23, .mov (.cp 0), some (21, true)⟩,
 ⟨some 24, .mov (.cp 9), some (21, true)⟩,
 ⟨some 25, .iaddr 1 none (.cp 23) (.cp 24), some (21, true)⟩,
 ⟨some 26, .load false none (.cp 25), some (21, true)⟩,
 ⟨some 27, .mov (.cp 0), some (21, true)⟩,
 ⟨some 28, .mov (.cp 9), some (21, true)⟩,
 ⟨some 29, .bin .sub (.cp 28) (.c (.int .i64 1)), some (21, true)⟩,
 ⟨some 30, .iaddr 1 none (.cp 27) (.cp 29), some (21, true)⟩,
 ⟨some 31, .load false none (.cp 30), some (21, true)⟩,
 ⟨some 32, .callv (.cp 22) [.cp 26, .cp 31], some (21, true)⟩,
 ⟨some 33, .bin .lss (.cp 32) (.c (.int .i64 0)), some (21, true)⟩,
 ⟨some 34, .pick (.cp 21) (.cp 33) (.c (.bool false)), none⟩] [(8, 13)] [0, 1, 2, 3, 8, 9, 34]
noncomputable abbrev C229_7 : LCode := .cond (.cp 34) .skip (.exit 2)
noncomputable abbrev C229_8 : LCode := .seq C229_6 C229_7
noncomputable abbrev C229_9 : LCode := .region true 0 [
 ⟨some 37, .mov (.cp 0), none⟩,
 ⟨some 38, .mov (.cp 9), none⟩,
 ⟨some 39, .mov (.cp 0), none⟩,
 ⟨some 40, .mov (.cp 9), none⟩,
 ⟨some 41, .bin .sub (.cp 40) (.c (.int .i64 1)), none⟩,
 ⟨some 42, .mov (.cp 0), none⟩,
 ⟨some 43, .mov (.cp 9), none⟩,
 ⟨some 44, .bin .sub (.cp 43) (.c (.int .i64 1)), none⟩,
 ⟨some 45, .iaddr 1 none (.cp 42) (.cp 44), none⟩,
 ⟨some 46, .load false none (.cp 45), none⟩,
 ⟨some 47, .mov (.cp 0), none⟩,
 ⟨some 48, .mov (.cp 9), none⟩,
 ⟨some 49, .iaddr 1 none (.cp 47) (.cp 48), none⟩,
 ⟨some 50, .load false none (.cp 49), none⟩,
 ⟨some 51, .iaddr 1 none (.cp 37) (.cp 38), none⟩,
 ⟨none, .store none (.cp 51) (.cp 46), none⟩,
 ⟨some 52, .iaddr 1 none (.cp 39) (.cp 41), none⟩,
 ⟨none, .store none (.cp 52) (.cp 50), none⟩] [(9, 13)] [0, 1, 2, 3, 8, 9]
noncomputable abbrev C229_10 : LCode := .block 3 C229_9
noncomputable abbrev C229_11 : LCode := .region false 0 [
 ⟨some 35, .mov (.cp 9), none⟩,
 ⟨some 36, .bin .sub (.cp 35) (.c (.int .i64 1)), none⟩,
 ⟨some 9, .mov (.cp 36), none⟩] [] [0, 1, 2, 3, 8, 9]
noncomputable def C229_12 : LCode := .seq C229_10 C229_11
noncomputable abbrev C229_13 : LCode := .only [0, 1, 2, 3, 8, 9] C229_12
noncomputable def C229_14 : LCode := .seq C229_8 C229_13
noncomputable abbrev C229_15 : LCode := .gc (.only [0, 1, 2, 3, 8, 9] C229_14)
noncomputable abbrev C229_16 : LCode := .only [0, 1, 2, 3, 8, 9] (.loop C229_15)
noncomputable abbrev C229_17 : LCode := .block 2 C229_16
noncomputable abbrev C229_18 : LCode := .seq C229_5 C229_17
noncomputable abbrev C229_19 : LCode := .block 1 C229_18
noncomputable abbrev C229_20 : LCode := .region false 0 [
 ⟨some 15, .mov (.cp 8), none⟩,
 ⟨some 16, .bin .add (.cp 15) (.c (.int .i64 1)), none⟩,
 ⟨some 8, .mov (.cp 16), none⟩] [] [0, 1, 2, 3, 8]
noncomputable abbrev C229_21 : LCode := .seq C229_19 C229_20
noncomputable def C229_22 : LCode := .seq C229_4 C229_21
noncomputable abbrev C229_23 : LCode := .gc (.only [0, 1, 2, 3, 8] C229_22)
noncomputable abbrev C229_24 : LCode := .only [0, 1, 2, 3, 8] (.loop C229_23)
noncomputable abbrev C229_25 : LCode := .block 0 C229_24
noncomputable abbrev C229_26 : LCode := .seq C229_1 C229_25
noncomputable def L_slices_insertionSortCmpFunc_int : LF := { np := 4, res := [], keepRes := false, body := C229_26 }
end Go.Proofs.YtfihinodhhhllaaGreat

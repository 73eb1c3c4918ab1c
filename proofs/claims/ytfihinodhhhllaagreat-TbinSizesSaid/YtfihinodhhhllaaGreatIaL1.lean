/- The small code of the functions; printed by lift.py. -/
import Derived.Test.YtfihinodhhhllaaGreatIaL0
set_option linter.unusedVariables false
set_option linter.unusedSimpArgs false
namespace Go.Proofs.YtfihinodhhhllaaGreat
open Go
noncomputable abbrev C85_1 : LCode := .region false 0 [
 ⟨some 6, .mov (.cp 0), none⟩,
 ⟨some 7, .mov (.cp 0), none⟩,
 ⟨some 8, .nilc (.cp 7), none⟩,
 ⟨some 9, .faddr (.cp 8) 3, none⟩,
 ⟨some 10, .load false none (.cp 9), none⟩,
 ⟨some 11, .mov (.cp 1), none⟩,
 ⟨some 12, .mov (.cp 2), none⟩,
 ⟨some 13, .call N_octet_Put [.cp 10, .cp 11, .cp 12], none⟩,
 ⟨some 14, .nilc (.cp 6), none⟩,
 ⟨some 15, .faddr (.cp 14) 3, none⟩,
 ⟨none, .store none (.cp 15) (.mv 13), none⟩] [] []
noncomputable def L_tbin_writer_num : LF := { np := 3, res := [], keepRes := false, body := C85_1 }
noncomputable abbrev C86_1 : LCode := .region false 0 [
 ⟨some 4, .mov (.c (.sl true 1 [])), none⟩] [] [0, 1]
noncomputable abbrev C86_2 : LCode := .region false 0 [
 ⟨some 5, .mov (.mv 0), none⟩,
 ⟨some 6, .mov (.cp 1), none⟩,
 ⟨some 7, .len true (.cp 6), none⟩,
 ⟨some 8, .conv .u64 (.cp 7), none⟩,
 ⟨some 9, .call N_octet_Put [.cp 5, .cp 8, .c (.int .i64 4)], none⟩,
 ⟨some 10, .mov (.cp 1), none⟩,
 ⟨some 11, .appendS (.mv 9) (.cp 10), none⟩,
 ⟨some 4, .mov (.mv 11), none⟩] [] [4]
noncomputable abbrev C86_3 : LCode := .seq C86_2 .ret
noncomputable abbrev C86_4 : LCode := .seq C86_1 C86_3
noncomputable def L_octet_PutText : LF := { np := 2, res := [.tmp 4], keepRes := true, body := C86_4 }
noncomputable abbrev C87_1 : LCode := .region false 0 [
 ⟨some 4, .mov (.c (.int .i64 0)), none⟩] [] [0, 1]
noncomputable abbrev C87_2 : LCode := .region false 0 [
 ⟨some 5, .mov (.cp 0), none⟩,
 ⟨some 6, .nilc (.cp 5), none⟩,
 ⟨some 7, .faddr (.cp 6) 0, none⟩,
 ⟨some 8, .load false (some 3) (.cp 7), none⟩,
 ⟨some 9, .mov (.cp 1), none⟩,
 ⟨some 10, .call N_value_Kind [.cp 8, .cp 9], none⟩,
 ⟨some 11, .call N_kind_Wire [.cp 10], none⟩,
 ⟨some 4, .mov (.cp 11), none⟩] [] [4]
noncomputable abbrev C87_3 : LCode := .seq C87_2 .ret
noncomputable abbrev C87_4 : LCode := .seq C87_1 C87_3
noncomputable def L_tbin_writer_wire : LF := { np := 2, res := [.tmp 4], keepRes := false, body := C87_4 }
noncomputable abbrev C73_1 : LCode := .region false 0 [
 ⟨some 4, .box (.mv 1), none⟩,
 ⟨some 5, .box (.mv 2), none⟩] [] [0, 4, 5]
noncomputable abbrev C73_2 : LCode := .region false 0 [
 ⟨some 10, .faddr (.cp 5) 4, none⟩,
 ⟨some 11, .load false none (.cp 10), none⟩,
 ⟨some 12, .len false (.cp 11), none⟩,
 ⟨some 13, .mov (.c (.int .i64 0)), none⟩] [] [0, 4, 5, 11, 12, 13]
noncomputable abbrev C73_3 : LCode := .region false 0 [
 ⟨some 14, .bin .lss (.cp 13) (.cp 12), none⟩] [] [0, 4, 5, 11, 12, 13, 14]
noncomputable abbrev C73_4 : LCode := .cond (.cp 14) .skip (.exit 0)
noncomputable abbrev C73_5 : LCode := .region false 0 [
 ⟨some 15, .mov (.cp 13), none⟩,
 ⟨some 16, .iaddr 1 none (.cp 11) (.cp 13), none⟩,
 ⟨some 17, .load false none (.cp 16), none⟩,
 ⟨some 6, .mov (.cp 15), none⟩,
 ⟨some 7, .mov (.cp 17), none⟩] [] [0, 4, 5, 6, 7, 11, 12, 13]
noncomputable abbrev C73_6 : LCode := .region false 1 [
 ⟨some 19, .load false (some 3) (.cp 4), none⟩,
 ⟨some 20, .mov (.cp 7), none⟩,
 ⟨some 21, .call N_value_Field [.cp 19, .cp 20], none⟩,
 ⟨some 18, .mov (.cp 21), none⟩,
 ⟨some 22, .ext (.cp 18) 0, none⟩,
 ⟨some 23, .ext (.cp 18) 1, none⟩,
 ⟨some 8, .alloc 0 [.int .i64 0, .int .i64 0, .str [], .str [], .bool false, .int .i64 0, .int .i64 0, .str [], .sl true 5 [], .sl true 1 []], none⟩,
 ⟨none, .store (some 10) (.cp 8) (.mv 22), none⟩,
 ⟨some 9, .mov (.cp 23), none⟩] [] [0, 4, 5, 6, 7, 8, 11, 12, 13]
noncomputable abbrev C73_7 : LCode := .region false 0 [
 ⟨some 24, .mov (.cp 0), none⟩,
 ⟨some 25, .mov (.cp 0), none⟩,
 ⟨some 26, .faddr (.cp 8) 2, none⟩,
 ⟨some 27, .load false none (.cp 26), none⟩,
 ⟨some 28, .call N_tbin_writer_wire [.cp 25, .cp 27], none⟩,
 ⟨some 29, .conv .u64 (.cp 28), none⟩,
 ⟨some 30, .call N_tbin_writer_num [.cp 24, .cp 29, .c (.int .i64 1)], none⟩] [] [0, 4, 5, 6, 7, 8, 11, 12, 13]
noncomputable abbrev C73_8 : LCode := .region false 0 [
 ⟨some 31, .mov (.cp 0), none⟩,
 ⟨some 32, .mov (.cp 7), none⟩,
 ⟨some 33, .conv .u64 (.cp 32), none⟩,
 ⟨some 34, .call N_tbin_writer_num [.cp 31, .cp 33, .c (.int .i64 2)], none⟩] [] [0, 4, 5, 6, 8, 11, 12, 13]
noncomputable abbrev C73_9 : LCode := .region true 0 [
 ⟨some 35, .mov (.cp 0), none⟩,
 ⟨some 36, .faddr (.cp 8) 2, none⟩,
 ⟨some 37, .load false none (.cp 36), none⟩,
 ⟨some 38, .faddr (.cp 5) 3, none⟩,
 ⟨some 39, .load false none (.cp 38), none⟩,
 ⟨some 40, .mov (.cp 6), none⟩,
 ⟨some 41, .iaddr 5 none (.cp 39) (.cp 40), none⟩,
 ⟨some 42, .load false (some 5) (.cp 41), none⟩,
 ⟨some 43, .call N_tbin_writer_value [.cp 35, .cp 37, .cp 42], none⟩] [(2, 4), (2, 7)] [0, 4, 5, 11, 12, 13]
noncomputable abbrev C73_10 : LCode := .seq C73_8 C73_9
noncomputable abbrev C73_11 : LCode := .seq C73_7 C73_10
noncomputable abbrev C73_12 : LCode := .seq C73_6 C73_11
noncomputable abbrev C73_13 : LCode := .seq C73_5 C73_12
noncomputable abbrev C73_14 : LCode := .block 1 C73_13
noncomputable abbrev C73_15 : LCode := .region false 0 [
 ⟨some 44, .bin .add (.cp 13) (.c (.int .i64 1)), none⟩,
 ⟨some 13, .mov (.cp 44), none⟩] [] [0, 4, 5, 11, 12, 13]
noncomputable abbrev C73_16 : LCode := .seq C73_14 C73_15
noncomputable abbrev C73_17 : LCode := .seq C73_4 C73_16
noncomputable def C73_18 : LCode := .seq C73_3 C73_17
noncomputable abbrev C73_19 : LCode := .gc (.only [0, 4, 5, 11, 12, 13] C73_18)
noncomputable abbrev C73_20 : LCode := .only [0, 4, 5, 11, 12, 13] (.loop C73_19)
noncomputable abbrev C73_21 : LCode := .block 0 C73_20
noncomputable abbrev C73_22 : LCode := .seq C73_2 C73_21
noncomputable abbrev C73_23 : LCode := .region false 0 [
 ⟨some 45, .mov (.cp 0), none⟩,
 ⟨some 46, .call N_tbin_writer_num [.cp 45, .c (.int .u64 0), .c (.int .i64 1)], none⟩] [] []
noncomputable abbrev C73_24 : LCode := .seq C73_22 C73_23
noncomputable abbrev C73_25 : LCode := .seq C73_1 C73_24
noncomputable def L_tbin_writer_fields : LF := { np := 3, res := [], keepRes := false, body := C73_25 }
noncomputable abbrev C30_1 : LCode := .region false 0 [
 ⟨some 5, .box (.mv 2), none⟩] [] [0, 1, 5]
noncomputable abbrev C30_2 : LCode := .region false 0 [
 ⟨some 20, .mov (.cp 1), none⟩,
 ⟨some 21, .call N_kind_Head [.cp 20], none⟩,
 ⟨some 19, .mov (.cp 21), none⟩,
 ⟨some 22, .ext (.cp 19) 0, none⟩,
 ⟨some 23, .ext (.cp 19) 1, none⟩,
 ⟨some 24, .ext (.cp 19) 2, none⟩,
 ⟨some 25, .ext (.cp 19) 3, none⟩,
 ⟨some 26, .ext (.cp 19) 4, none⟩,
 ⟨some 6, .mov (.cp 22), none⟩,
 ⟨some 7, .mov (.cp 23), none⟩,
 ⟨some 8, .mov (.cp 24), none⟩,
 ⟨some 9, .mov (.cp 25), none⟩,
 ⟨some 10, .mov (.cp 26), none⟩] [] [0, 1, 5, 7, 8, 9]
noncomputable abbrev C30_3 : LCode := .region false 0 [
 ⟨some 27, .mov (.cp 0), none⟩,
 ⟨some 28, .nilc (.cp 27), none⟩,
 ⟨some 29, .faddr (.cp 28) 0, none⟩,
 ⟨some 30, .load false (some 3) (.cp 29), none⟩,
 ⟨some 31, .mov (.cp 1), none⟩,
 ⟨some 32, .call N_value_Kind [.cp 30, .cp 31], none⟩,
 ⟨some 11, .mov (.cp 32), none⟩] [] [0, 5, 7, 8, 9, 11]
noncomputable abbrev C30_4 : LCode := .region false 0 [
 ⟨some 33, .mov (.cp 11), none⟩,
 ⟨some 34, .call N_kind_Wire [.cp 33], none⟩,
 ⟨some 12, .mov (.cp 34), none⟩] [] [0, 5, 7, 8, 9, 12]
noncomputable abbrev C30_5 : LCode := .region false 0 [
 ⟨some 49, .mov (.cp 12), none⟩,
 ⟨some 50, .call N_tbin_width [.cp 49], none⟩,
 ⟨some 51, .bin .gtr (.cp 50) (.c (.int .i64 0)), none⟩,
 ⟨some 48, .mov (.cp 51), none⟩] [] [0, 5, 7, 8, 9, 12, 48]
noncomputable abbrev C30_6 : LCode := .region true 0 [
 ⟨some 52, .mov (.cp 0), none⟩,
 ⟨some 53, .faddr (.cp 5) 1, none⟩,
 ⟨some 54, .load false none (.cp 53), none⟩,
 ⟨some 55, .conv .u64 (.cp 54), none⟩,
 ⟨some 56, .mov (.cp 12), none⟩,
 ⟨some 57, .call N_tbin_width [.cp 56], none⟩,
 ⟨some 58, .call N_tbin_writer_num [.cp 52, .cp 55, .cp 57], none⟩] [(2, 5)] []
noncomputable abbrev C30_7 : LCode := .region false 0 [
 ⟨some 60, .mov (.cp 12), none⟩,
 ⟨some 61, .bin .eql (.cp 60) (.c (.int .i64 11)), none⟩,
 ⟨some 59, .mov (.cp 61), none⟩] [] [0, 5, 7, 8, 9, 12, 59]
noncomputable abbrev C30_8 : LCode := .region true 0 [
 ⟨some 62, .mov (.cp 0), none⟩,
 ⟨some 63, .mov (.cp 0), none⟩,
 ⟨some 64, .nilc (.cp 63), none⟩,
 ⟨some 65, .faddr (.cp 64) 3, none⟩,
 ⟨some 66, .load false none (.cp 65), none⟩,
 ⟨some 67, .faddr (.cp 5) 2, none⟩,
 ⟨some 68, .load false none (.cp 67), none⟩,
 ⟨some 69, .call N_octet_PutText [.cp 66, .cp 68], none⟩,
 ⟨some 70, .nilc (.cp 62), none⟩,
 ⟨some 71, .faddr (.cp 70) 3, none⟩,
 ⟨none, .store none (.cp 71) (.mv 69), none⟩] [(4, 6)] []
noncomputable abbrev C30_9 : LCode := .region false 0 [
 ⟨some 73, .mov (.cp 12), none⟩,
 ⟨some 74, .bin .eql (.cp 73) (.c (.int .i64 15)), none⟩,
 ⟨some 75, .mov (.cp 74), none⟩,
 ⟨some 76, .mov (.cp 12), some (75, false)⟩,
 ⟨some 77, .bin .eql (.cp 76) (.c (.int .i64 14)), some (75, false)⟩,
 ⟨some 78, .pick (.cp 75) (.c (.bool true)) (.cp 77), none⟩,
 ⟨some 72, .mov (.cp 78), none⟩] [] [0, 5, 7, 8, 9, 12, 72]
noncomputable abbrev C30_10 : LCode := .region false 0 [
 ⟨some 79, .mov (.cp 0), none⟩,
 ⟨some 80, .mov (.cp 0), none⟩,
 ⟨some 81, .mov (.cp 8), none⟩,
 ⟨some 82, .call N_tbin_writer_wire [.cp 80, .cp 81], none⟩,
 ⟨some 83, .conv .u64 (.cp 82), none⟩,
 ⟨some 84, .call N_tbin_writer_num [.cp 79, .cp 83, .c (.int .i64 1)], none⟩] [] [0, 5, 8]
noncomputable abbrev C30_11 : LCode := .region false 0 [
 ⟨some 85, .mov (.cp 0), none⟩,
 ⟨some 86, .faddr (.cp 5) 3, none⟩,
 ⟨some 87, .load false none (.cp 86), none⟩,
 ⟨some 88, .len false (.cp 87), none⟩,
 ⟨some 89, .conv .u64 (.cp 88), none⟩,
 ⟨some 90, .call N_tbin_writer_num [.cp 85, .cp 89, .c (.int .i64 4)], none⟩] [] [0, 5, 8]
noncomputable abbrev C30_12 : LCode := .region false 0 [
 ⟨some 91, .faddr (.cp 5) 3, none⟩,
 ⟨some 92, .load false none (.cp 91), none⟩,
 ⟨some 93, .len false (.cp 92), none⟩,
 ⟨some 94, .mov (.c (.int .i64 0)), none⟩] [] [0, 8, 92, 93, 94]
noncomputable abbrev C30_13 : LCode := .region false 0 [
 ⟨some 95, .bin .lss (.cp 94) (.cp 93), none⟩] [] [0, 8, 92, 93, 94, 95]
noncomputable abbrev C30_14 : LCode := .cond (.cp 95) .skip (.exit 1)
noncomputable abbrev C30_15 : LCode := .region false 1 [
 ⟨some 96, .iaddr 5 none (.cp 92) (.cp 94), none⟩,
 ⟨some 97, .load false (some 5) (.cp 96), none⟩,
 ⟨some 14, .alloc 0 [.int .i64 0, .int .i64 0, .str [], .sl true 5 [], .sl true 1 []], none⟩,
 ⟨none, .store (some 5) (.cp 14) (.mv 97), none⟩] [] [0, 8, 14, 92, 93, 94]
noncomputable abbrev C30_16 : LCode := .region false 0 [
 ⟨some 98, .mov (.cp 0), none⟩,
 ⟨some 99, .mov (.cp 8), none⟩,
 ⟨some 100, .load false (some 5) (.cp 14), none⟩,
 ⟨some 101, .call N_tbin_writer_value [.cp 98, .cp 99, .cp 100], none⟩] [] [0, 8, 92, 93, 94]
noncomputable abbrev C30_17 : LCode := .seq C30_15 C30_16
noncomputable abbrev C30_18 : LCode := .block 2 C30_17
noncomputable abbrev C30_19 : LCode := .region false 0 [
 ⟨some 102, .bin .add (.cp 94) (.c (.int .i64 1)), none⟩,
 ⟨some 94, .mov (.cp 102), none⟩] [] [0, 8, 92, 93, 94]
noncomputable abbrev C30_20 : LCode := .seq C30_18 C30_19
noncomputable abbrev C30_21 : LCode := .seq C30_14 C30_20
noncomputable def C30_22 : LCode := .seq C30_13 C30_21
noncomputable abbrev C30_23 : LCode := .gc (.only [0, 8, 92, 93, 94] C30_22)
noncomputable abbrev C30_24 : LCode := .only [0, 8, 92, 93, 94] (.loop C30_23)
noncomputable abbrev C30_25 : LCode := .block 1 C30_24
noncomputable abbrev C30_26 : LCode := .seq C30_12 C30_25
noncomputable abbrev C30_27 : LCode := .seq C30_11 C30_26
noncomputable abbrev C30_28 : LCode := .seq C30_10 C30_27
noncomputable abbrev C30_29 : LCode := .region false 0 [
 ⟨some 104, .mov (.cp 12), none⟩,
 ⟨some 105, .bin .eql (.cp 104) (.c (.int .i64 13)), none⟩,
 ⟨some 103, .mov (.cp 105), none⟩] [] [0, 5, 7, 8, 9, 103]
noncomputable abbrev C30_30 : LCode := .region false 0 [
 ⟨some 106, .mov (.cp 0), none⟩,
 ⟨some 107, .mov (.cp 0), none⟩,
 ⟨some 108, .mov (.cp 8), none⟩,
 ⟨some 109, .call N_tbin_writer_wire [.cp 107, .cp 108], none⟩,
 ⟨some 110, .conv .u64 (.cp 109), none⟩,
 ⟨some 111, .call N_tbin_writer_num [.cp 106, .cp 110, .c (.int .i64 1)], none⟩] [] [0, 5, 8, 9]
noncomputable abbrev C30_31 : LCode := .region false 0 [
 ⟨some 112, .mov (.cp 0), none⟩,
 ⟨some 113, .mov (.cp 0), none⟩,
 ⟨some 114, .mov (.cp 9), none⟩,
 ⟨some 115, .call N_tbin_writer_wire [.cp 113, .cp 114], none⟩,
 ⟨some 116, .conv .u64 (.cp 115), none⟩,
 ⟨some 117, .call N_tbin_writer_num [.cp 112, .cp 116, .c (.int .i64 1)], none⟩] [] [0, 5, 8, 9]
noncomputable abbrev C30_32 : LCode := .region false 0 [
 ⟨some 118, .mov (.cp 0), none⟩,
 ⟨some 119, .faddr (.cp 5) 3, none⟩,
 ⟨some 120, .load false none (.cp 119), none⟩,
 ⟨some 121, .len false (.cp 120), none⟩,
 ⟨some 122, .bin .quo (.cp 121) (.c (.int .i64 2)), none⟩,
 ⟨some 123, .conv .u64 (.cp 122), none⟩,
 ⟨some 124, .call N_tbin_writer_num [.cp 118, .cp 123, .c (.int .i64 4)], none⟩] [] [0, 5, 8, 9]
noncomputable abbrev C30_33 : LCode := .region false 0 [
 ⟨some 125, .faddr (.cp 5) 3, none⟩,
 ⟨some 126, .load false none (.cp 125), none⟩,
 ⟨some 127, .len false (.cp 126), none⟩,
 ⟨some 128, .mov (.c (.int .i64 0)), none⟩] [] [0, 8, 9, 126, 127, 128]
noncomputable abbrev C30_34 : LCode := .region false 0 [
 ⟨some 129, .bin .lss (.cp 128) (.cp 127), none⟩] [] [0, 8, 9, 126, 127, 128, 129]
noncomputable abbrev C30_35 : LCode := .cond (.cp 129) .skip (.exit 3)
noncomputable abbrev C30_36 : LCode := .region false 1 [
 ⟨some 130, .mov (.cp 128), none⟩,
 ⟨some 131, .iaddr 5 none (.cp 126) (.cp 128), none⟩,
 ⟨some 132, .load false (some 5) (.cp 131), none⟩,
 ⟨some 16, .alloc 0 [.int .i64 0, .int .i64 0, .str [], .sl true 5 [], .sl true 1 []], none⟩,
 ⟨some 15, .mov (.cp 130), none⟩,
 ⟨none, .store (some 5) (.cp 16) (.mv 132), none⟩] [] [0, 8, 9, 15, 16, 126, 127, 128]
noncomputable abbrev C30_37 : LCode := .region true 0 [
 ⟨some 133, .mov (.cp 0), none⟩,
 ⟨some 134, .mov (.cp 8), none⟩,
 ⟨some 135, .mov (.cp 9), none⟩,
 ⟨some 136, .bslice 1 (List.replicate 2 (.str [])) [(0, (.cp 134)), (1, (.cp 135))], none⟩,
 ⟨some 137, .mov (.cp 15), none⟩,
 ⟨some 138, .bin .rem (.cp 137) (.c (.int .i64 2)), none⟩,
 ⟨some 139, .iaddr 1 none (.cp 136) (.cp 138), none⟩,
 ⟨some 140, .load false none (.cp 139), none⟩,
 ⟨some 141, .load false (some 5) (.cp 16), none⟩,
 ⟨some 142, .call N_tbin_writer_value [.cp 133, .cp 140, .cp 141], none⟩] [(7, 8)] [0, 8, 9, 126, 127, 128]
noncomputable abbrev C30_38 : LCode := .seq C30_36 C30_37
noncomputable abbrev C30_39 : LCode := .block 4 C30_38
noncomputable abbrev C30_40 : LCode := .region false 0 [
 ⟨some 143, .bin .add (.cp 128) (.c (.int .i64 1)), none⟩,
 ⟨some 128, .mov (.cp 143), none⟩] [] [0, 8, 9, 126, 127, 128]
noncomputable abbrev C30_41 : LCode := .seq C30_39 C30_40
noncomputable abbrev C30_42 : LCode := .seq C30_35 C30_41
noncomputable def C30_43 : LCode := .seq C30_34 C30_42
noncomputable abbrev C30_44 : LCode := .gc (.only [0, 8, 9, 126, 127, 128] C30_43)
noncomputable abbrev C30_45 : LCode := .only [0, 8, 9, 126, 127, 128] (.loop C30_44)
noncomputable abbrev C30_46 : LCode := .block 3 C30_45
noncomputable abbrev C30_47 : LCode := .seq C30_33 C30_46
noncomputable abbrev C30_48 : LCode := .seq C30_32 C30_47
noncomputable abbrev C30_49 : LCode := .seq C30_31 C30_48
noncomputable abbrev C30_50 : LCode := .seq C30_30 C30_49
noncomputable abbrev C30_51 : LCode := .region false 1 [
 ⟨some 36, .mov (.cp 0), none⟩,
 ⟨some 37, .nilc (.cp 36), none⟩,
 ⟨some 38, .faddr (.cp 37) 0, none⟩,
 ⟨some 39, .load false (some 3) (.cp 38), none⟩,
 ⟨some 40, .mov (.cp 7), none⟩,
 ⟨some 41, .call N_value_Struct [.cp 39, .cp 40], none⟩,
 ⟨some 35, .mov (.cp 41), none⟩,
 ⟨some 42, .ext (.cp 35) 0, none⟩,
 ⟨some 43, .ext (.cp 35) 1, none⟩,
 ⟨some 17, .alloc 0 [.int .i64 0, .str [], .sl true 10 []], none⟩,
 ⟨none, .store (some 3) (.cp 17) (.mv 42), none⟩,
 ⟨some 18, .mov (.cp 43), none⟩] [] [0, 5, 17]
noncomputable abbrev C30_52 : LCode := .region false 0 [
 ⟨some 44, .mov (.cp 0), none⟩,
 ⟨some 45, .load false (some 3) (.cp 17), none⟩,
 ⟨some 46, .load false (some 5) (.cp 5), none⟩,
 ⟨some 47, .call N_tbin_writer_fields [.cp 44, .cp 45, .cp 46], none⟩] [] []
noncomputable abbrev C30_53 : LCode := .seq C30_51 C30_52
noncomputable abbrev C30_54 : LCode := .cond (.cp 103) C30_50 C30_53
noncomputable abbrev C30_55 : LCode := .seq C30_29 C30_54
noncomputable def C30_56 : LCode := .cond (.cp 72) C30_28 C30_55
noncomputable abbrev C30_57 : LCode := .only [0, 5, 7, 8, 9, 12, 72] C30_56
noncomputable abbrev C30_58 : LCode := .seq C30_9 C30_57
noncomputable abbrev C30_59 : LCode := .cond (.cp 59) C30_8 C30_58
noncomputable abbrev C30_60 : LCode := .seq C30_7 C30_59
noncomputable abbrev C30_61 : LCode := .cond (.cp 48) C30_6 C30_60
noncomputable abbrev C30_62 : LCode := .seq C30_5 C30_61
noncomputable abbrev C30_63 : LCode := .block 0 C30_62
noncomputable abbrev C30_64 : LCode := .seq C30_4 C30_63
noncomputable abbrev C30_65 : LCode := .seq C30_3 C30_64
noncomputable abbrev C30_66 : LCode := .seq C30_2 C30_65
noncomputable abbrev C30_67 : LCode := .seq C30_1 C30_66
noncomputable def L_tbin_writer_value : LF := { np := 3, res := [], keepRes := false, body := C30_67 }
noncomputable abbrev C141_1 : LCode := .region false 0 [
 ⟨some 1, .box (.mv 0), none⟩,
 ⟨some 2, .mov (.c (.bool false)), none⟩] [] [1]
noncomputable abbrev C141_2 : LCode := .region false 0 [
 ⟨some 3, .faddr (.cp 1) 0, none⟩,
 ⟨some 4, .load false none (.cp 3), none⟩] [] [4]
noncomputable abbrev C141_3 : LCode := .region false 0 [
 ⟨some 6, .bin .eql (.cp 4) (.c (.int .i64 15)), none⟩,
 ⟨some 5, .mov (.cp 6), none⟩] [] [4, 5]
noncomputable abbrev C141_4 : LCode := .region false 0 [
 ⟨some 7, .bin .eql (.cp 4) (.c (.int .i64 14)), none⟩,
 ⟨some 5, .mov (.cp 7), none⟩] [] [4, 5]
noncomputable abbrev C141_5 : LCode := .region false 0 [
 ⟨some 8, .bin .eql (.cp 4) (.c (.int .i64 13)), none⟩,
 ⟨some 5, .mov (.cp 8), none⟩] [] [4, 5]
noncomputable abbrev C141_6 : LCode := .region false 0 [
 ⟨some 9, .bin .eql (.cp 4) (.c (.int .i64 12)), none⟩,
 ⟨some 5, .mov (.cp 9), none⟩] [] [5]
noncomputable abbrev C141_7 : LCode := .cond (.cp 5) .skip C141_6
noncomputable abbrev C141_8 : LCode := .seq C141_5 C141_7
noncomputable abbrev C141_9 : LCode := .cond (.cp 5) .skip C141_8
noncomputable abbrev C141_10 : LCode := .seq C141_4 C141_9
noncomputable abbrev C141_11 : LCode := .cond (.cp 5) .skip C141_10
noncomputable abbrev C141_12 : LCode := .seq C141_3 C141_11
noncomputable abbrev C141_13 : LCode := .region false 0 [
 ⟨some 2, .mov (.c (.bool true)), none⟩] [] [2]
noncomputable abbrev C141_14 : LCode := .seq C141_13 .ret
noncomputable abbrev C141_15 : LCode := .cond (.cp 5) C141_14 .skip
noncomputable abbrev C141_16 : LCode := .seq C141_12 C141_15
noncomputable abbrev C141_17 : LCode := .block 0 C141_16
noncomputable abbrev C141_18 : LCode := .seq C141_2 C141_17
noncomputable abbrev C141_19 : LCode := .region false 0 [
 ⟨some 2, .mov (.c (.bool false)), none⟩] [] [2]
noncomputable abbrev C141_20 : LCode := .seq C141_19 .ret
noncomputable abbrev C141_21 : LCode := .seq C141_18 C141_20
noncomputable abbrev C141_22 : LCode := .seq C141_1 C141_21
noncomputable def L_measure_holds : LF := { np := 1, res := [.tmp 2], keepRes := false, body := C141_22 }
noncomputable abbrev C88_1 : LCode := .region false 0 [
 ⟨some 1, .box (.mv 0), none⟩,
 ⟨some 2, .mov (.c (.int .i64 0)), none⟩] [] [1]
noncomputable abbrev C88_2 : LCode := .region false 0 [
 ⟨some 6, .load false (some 5) (.cp 1), none⟩,
 ⟨some 7, .call N_measure_holds [.cp 6], none⟩,
 ⟨some 8, .un .not (.cp 7), none⟩] [] [1, 8]
noncomputable abbrev C88_3 : LCode := .region false 0 [
 ⟨some 2, .mov (.c (.int .i64 0)), none⟩] [] [2]
noncomputable abbrev C88_4 : LCode := .seq C88_3 .ret
noncomputable abbrev C88_5 : LCode := .cond (.cp 8) C88_4 .skip
noncomputable abbrev C88_6 : LCode := .seq C88_2 C88_5
noncomputable abbrev C88_7 : LCode := .region false 0 [
 ⟨some 3, .mov (.c (.int .i64 0)), none⟩] [] [1, 3]
noncomputable abbrev C88_8 : LCode := .region false 0 [
 ⟨some 9, .faddr (.cp 1) 3, none⟩,
 ⟨some 10, .load false none (.cp 9), none⟩,
 ⟨some 11, .len false (.cp 10), none⟩,
 ⟨some 12, .mov (.c (.int .i64 0)), none⟩] [] [3, 10, 11, 12]
noncomputable abbrev C88_9 : LCode := .region false 0 [
 ⟨some 13, .bin .lss (.cp 12) (.cp 11), none⟩] [] [3, 10, 11, 12, 13]
noncomputable abbrev C88_10 : LCode := .cond (.cp 13) .skip (.exit 0)
noncomputable abbrev C88_11 : LCode := .region false 1 [
 ⟨some 14, .iaddr 5 none (.cp 10) (.cp 12), none⟩,
 ⟨some 15, .load false (some 5) (.cp 14), none⟩,
 ⟨some 5, .alloc 0 [.int .i64 0, .int .i64 0, .str [], .sl true 5 [], .sl true 1 []], none⟩,
 ⟨none, .store (some 5) (.cp 5) (.mv 15), none⟩] [] [3, 5, 10, 11, 12]
noncomputable abbrev C88_12 : LCode := .region false 0 [
 ⟨some 16, .mov (.cp 3), none⟩,
 ⟨some 17, .load false (some 5) (.cp 5), none⟩,
 ⟨some 18, .call N_measure_Depth [.cp 17], none⟩,
 ⟨some 19, .max2 (.cp 16) (.cp 18), none⟩,
 ⟨some 3, .mov (.cp 19), none⟩] [] [3, 10, 11, 12]
noncomputable abbrev C88_13 : LCode := .seq C88_11 C88_12
noncomputable abbrev C88_14 : LCode := .block 1 C88_13
noncomputable abbrev C88_15 : LCode := .region false 0 [
 ⟨some 20, .bin .add (.cp 12) (.c (.int .i64 1)), none⟩,
 ⟨some 12, .mov (.cp 20), none⟩] [] [3, 10, 11, 12]
noncomputable abbrev C88_16 : LCode := .seq C88_14 C88_15
noncomputable abbrev C88_17 : LCode := .seq C88_10 C88_16
noncomputable def C88_18 : LCode := .seq C88_9 C88_17
noncomputable abbrev C88_19 : LCode := .gc (.only [3, 10, 11, 12] C88_18)
noncomputable abbrev C88_20 : LCode := .only [3, 10, 11, 12] (.loop C88_19)
noncomputable abbrev C88_21 : LCode := .block 0 C88_20
noncomputable abbrev C88_22 : LCode := .seq C88_8 C88_21
noncomputable abbrev C88_23 : LCode := .region false 0 [
 ⟨some 21, .mov (.cp 3), none⟩,
 ⟨some 22, .bin .add (.cp 21) (.c (.int .i64 1)), none⟩,
 ⟨some 2, .mov (.cp 22), none⟩] [] [2]
noncomputable abbrev C88_24 : LCode := .seq C88_23 .ret
noncomputable abbrev C88_25 : LCode := .seq C88_22 C88_24
noncomputable abbrev C88_26 : LCode := .seq C88_7 C88_25
noncomputable abbrev C88_27 : LCode := .seq C88_6 C88_26
noncomputable abbrev C88_28 : LCode := .seq C88_1 C88_27
noncomputable def L_measure_Depth : LF := { np := 1, res := [.tmp 2], keepRes := false, body := C88_28 }
noncomputable abbrev C31_1 : LCode := .region false 0 [
 ⟨some 4, .box (.mv 1), none⟩,
 ⟨some 5, .box (.cp 2), none⟩,
 ⟨some 6, .mov (.c (.sl true 1 [])), none⟩,
 ⟨some 7, .mov (.c (.int .i64 0)), none⟩] [] [0, 4, 5]
noncomputable abbrev C31_2 : LCode := .region true 0 [
 ⟨some 9, .load false (some 5) (.cp 4), none⟩,
 ⟨some 10, .call N_measure_Depth [.cp 9], none⟩,
 ⟨some 11, .faddr (.cp 5) 0, none⟩,
 ⟨some 12, .load false none (.cp 11), none⟩,
 ⟨some 13, .bin .gtr (.cp 10) (.cp 12), none⟩,
 ⟨some 8, .mov (.cp 13), none⟩] [(0, 3), (1, 3)] [0, 5, 8]
noncomputable abbrev C31_3 : LCode := .region false 0 [
 ⟨some 6, .mov (.c (.sl true 1 [])), none⟩,
 ⟨some 7, .mov (.c (.int .i64 6)), none⟩] [] [6, 7]
noncomputable abbrev C31_4 : LCode := .seq C31_3 .ret
noncomputable abbrev C31_5 : LCode := .region true 0 [
 ⟨some 15, .mov (.cp 0), none⟩,
 ⟨some 16, .nilc (.cp 15), none⟩,
 ⟨some 17, .faddr (.cp 16) 3, none⟩,
 ⟨some 18, .load false none (.cp 17), none⟩,
 ⟨some 19, .len false (.cp 18), none⟩,
 ⟨some 20, .faddr (.cp 5) 1, none⟩,
 ⟨some 21, .load false none (.cp 20), none⟩,
 ⟨some 22, .bin .gtr (.cp 19) (.cp 21), none⟩,
 ⟨some 14, .mov (.cp 22), none⟩] [(3, 6)] [0, 14]
noncomputable abbrev C31_6 : LCode := .region false 0 [
 ⟨some 6, .mov (.c (.sl true 1 [])), none⟩,
 ⟨some 7, .mov (.c (.int .i64 4)), none⟩] [] [6, 7]
noncomputable abbrev C31_7 : LCode := .seq C31_6 .ret
noncomputable abbrev C31_8 : LCode := .cond (.cp 14) C31_7 .skip
noncomputable abbrev C31_9 : LCode := .seq C31_5 C31_8
noncomputable abbrev C31_10 : LCode := .cond (.cp 8) C31_4 C31_9
noncomputable abbrev C31_11 : LCode := .seq C31_2 C31_10
noncomputable abbrev C31_12 : LCode := .block 0 C31_11
noncomputable abbrev C31_13 : LCode := .region false 0 [
 ⟨some 23, .mov (.cp 0), none⟩,
 ⟨some 24, .nilc (.cp 23), none⟩,
 ⟨some 25, .faddr (.cp 24) 3, none⟩,
 ⟨some 26, .load false none (.cp 25), none⟩,
 ⟨some 6, .mov (.mv 26), none⟩,
 ⟨some 7, .mov (.c (.int .i64 0)), none⟩] [] [6, 7]
noncomputable abbrev C31_14 : LCode := .seq C31_13 .ret
noncomputable abbrev C31_15 : LCode := .seq C31_12 C31_14
noncomputable abbrev C31_16 : LCode := .seq C31_1 C31_15
noncomputable def L_tbin_writer_done : LF := { np := 3, res := [.tmp 6, .tmp 7], keepRes := false, body := C31_16 }
noncomputable abbrev C11_1 : LCode := .region false 0 [
 ⟨some 4, .box (.mv 0), none⟩,
 ⟨some 6, .box (.mv 2), none⟩,
 ⟨some 7, .box (.cp 3), none⟩,
 ⟨some 8, .mov (.c (.sl true 1 [])), none⟩,
 ⟨some 9, .mov (.c (.int .i64 0)), none⟩] [] [1, 4, 6, 7]
noncomputable abbrev C11_2 : LCode := .region false 0 [
 ⟨some 11, .load false (some 3) (.cp 4), none⟩,
 ⟨some 12, .mov (.cp 1), none⟩,
 ⟨some 13, .call N_tbin_known [.cp 11, .cp 12], none⟩,
 ⟨some 14, .un .not (.cp 13), none⟩,
 ⟨some 15, .mov (.cp 14), none⟩,
 ⟨some 16, .load false (some 3) (.cp 4), some (15, false)⟩,
 ⟨some 17, .mov (.cp 1), some (15, false)⟩,
 ⟨some 18, .load false (some 5) (.cp 6), some (15, false)⟩,
 ⟨some 19, .call N_value_Check [.cp 16, .cp 17, .cp 18], some (15, false)⟩,
 ⟨some 20, .un .not (.cp 19), some (15, false)⟩,
 ⟨some 21, .pick (.cp 15) (.c (.bool true)) (.cp 20), none⟩] [] [1, 4, 6, 7, 21]
noncomputable abbrev C11_3 : LCode := .region false 0 [
 ⟨some 8, .mov (.c (.sl true 1 [])), none⟩,
 ⟨some 9, .mov (.c (.int .i64 1)), none⟩] [] [8, 9]
noncomputable abbrev C11_4 : LCode := .seq C11_3 .ret
noncomputable abbrev C11_5 : LCode := .cond (.cp 21) C11_4 .skip
noncomputable abbrev C11_6 : LCode := .seq C11_2 C11_5
noncomputable abbrev C11_7 : LCode := .region false 0 [
 ⟨some 22, .load false (some 3) (.cp 4), none⟩,
 ⟨some 23, .build [.sl true 3 [], .sl true 2 [], .sl true 2 [], .sl true 1 []] [(0, 3, (.mv 22))], none⟩,
 ⟨some 24, .box (.mv 23), none⟩,
 ⟨some 10, .mov (.cp 24), none⟩] [] [1, 6, 7, 10]
noncomputable abbrev C11_8 : LCode := .region false 0 [
 ⟨some 25, .mov (.cp 10), none⟩,
 ⟨some 26, .mov (.cp 1), none⟩,
 ⟨some 27, .load false (some 5) (.cp 6), none⟩,
 ⟨some 28, .call N_tbin_writer_value [.cp 25, .cp 26, .cp 27], none⟩] [] [6, 7, 10]
noncomputable abbrev C11_9 : LCode := .region false 0 [
 ⟨some 29, .mov (.cp 10), none⟩,
 ⟨some 30, .load false (some 5) (.cp 6), none⟩,
 ⟨some 31, .load false (some 2) (.cp 7), none⟩,
 ⟨some 32, .call N_tbin_writer_done [.cp 29, .cp 30, .cp 31], none⟩,
 ⟨some 33, .ext (.cp 32) 0, none⟩,
 ⟨some 34, .ext (.cp 32) 1, none⟩,
 ⟨some 8, .mov (.mv 33), none⟩,
 ⟨some 9, .mov (.cp 34), none⟩] [] [8, 9]
noncomputable abbrev C11_10 : LCode := .seq C11_9 .ret
noncomputable abbrev C11_11 : LCode := .seq C11_8 C11_10
noncomputable def C11_12 : LCode := .seq C11_7 C11_11
noncomputable abbrev C11_13 : LCode := .only [1, 4, 6, 7] C11_12
noncomputable abbrev C11_14 : LCode := .seq C11_6 C11_13
noncomputable abbrev C11_15 : LCode := .seq C11_1 C11_14
noncomputable def L_tbin_Encode : LF := { np := 4, res := [.tmp 8, .tmp 9], keepRes := false, body := C11_15 }
noncomputable abbrev C12_1 : LCode := .region false 0 [
 ⟨some 4, .mov (.c (.bool false)), none⟩] [] [0, 1]
noncomputable abbrev C12_2 : LCode := .region false 0 [
 ⟨some 5, .mov (.cp 0), none⟩] [] [1, 5]
noncomputable abbrev C12_3 : LCode := .region false 0 [
 ⟨some 7, .bin .eql (.cp 5) (.c (.int .i64 2)), none⟩,
 ⟨some 6, .mov (.cp 7), none⟩] [] [1, 5, 6]
noncomputable abbrev C12_4 : LCode := .region false 0 [
 ⟨some 8, .mov (.cp 1), none⟩,
 ⟨some 9, .bin .eql (.cp 8) (.c (.int .i64 0)), none⟩,
 ⟨some 10, .mov (.cp 9), none⟩,
 ⟨some 11, .mov (.cp 1), some (10, false)⟩,
 ⟨some 12, .bin .eql (.cp 11) (.c (.int .i64 1)), some (10, false)⟩,
 ⟨some 13, .pick (.cp 10) (.c (.bool true)) (.cp 12), none⟩,
 ⟨some 4, .mov (.cp 13), none⟩] [] [4]
noncomputable abbrev C12_5 : LCode := .seq C12_4 .ret
noncomputable abbrev C12_6 : LCode := .region false 0 [
 ⟨some 15, .bin .eql (.cp 5) (.c (.int .i64 3)), none⟩,
 ⟨some 14, .mov (.cp 15), none⟩] [] [1, 5, 14]
noncomputable abbrev C12_7 : LCode := .region false 0 [
 ⟨some 16, .mov (.cp 1), none⟩,
 ⟨some 17, .bin .geq (.cp 16) (.c (.int .i64 (-128))), none⟩,
 ⟨some 18, .mov (.cp 17), none⟩,
 ⟨some 19, .mov (.cp 1), some (18, true)⟩,
 ⟨some 20, .bin .leq (.cp 19) (.c (.int .i64 127)), some (18, true)⟩,
 ⟨some 21, .pick (.cp 18) (.cp 20) (.c (.bool false)), none⟩,
 ⟨some 4, .mov (.cp 21), none⟩] [] [4]
noncomputable abbrev C12_8 : LCode := .seq C12_7 .ret
noncomputable abbrev C12_9 : LCode := .region false 0 [
 ⟨some 23, .bin .eql (.cp 5) (.c (.int .i64 6)), none⟩,
 ⟨some 22, .mov (.cp 23), none⟩] [] [1, 5, 22]
noncomputable abbrev C12_10 : LCode := .region false 0 [
 ⟨some 24, .mov (.cp 1), none⟩,
 ⟨some 25, .bin .geq (.cp 24) (.c (.int .i64 (-32768))), none⟩,
 ⟨some 26, .mov (.cp 25), none⟩,
 ⟨some 27, .mov (.cp 1), some (26, true)⟩,
 ⟨some 28, .bin .leq (.cp 27) (.c (.int .i64 32767)), some (26, true)⟩,
 ⟨some 29, .pick (.cp 26) (.cp 28) (.c (.bool false)), none⟩,
 ⟨some 4, .mov (.cp 29), none⟩] [] [4]
noncomputable abbrev C12_11 : LCode := .seq C12_10 .ret
noncomputable abbrev C12_12 : LCode := .region false 0 [
 ⟨some 31, .bin .eql (.cp 5) (.c (.int .i64 8)), none⟩,
 ⟨some 30, .mov (.cp 31), none⟩] [] [1, 30]
noncomputable abbrev C12_13 : LCode := .region false 0 [
 ⟨some 32, .mov (.cp 1), none⟩,
 ⟨some 33, .bin .geq (.cp 32) (.c (.int .i64 (-2147483648))), none⟩,
 ⟨some 34, .mov (.cp 33), none⟩,
 ⟨some 35, .mov (.cp 1), some (34, true)⟩,
 ⟨some 36, .bin .leq (.cp 35) (.c (.int .i64 2147483647)), some (34, true)⟩,
 ⟨some 37, .pick (.cp 34) (.cp 36) (.c (.bool false)), none⟩,
 ⟨some 4, .mov (.cp 37), none⟩] [] [4]
noncomputable abbrev C12_14 : LCode := .seq C12_13 .ret
noncomputable abbrev C12_15 : LCode := .cond (.cp 30) C12_14 .skip
noncomputable abbrev C12_16 : LCode := .seq C12_12 C12_15
noncomputable abbrev C12_17 : LCode := .cond (.cp 22) C12_11 C12_16
noncomputable abbrev C12_18 : LCode := .seq C12_9 C12_17
noncomputable abbrev C12_19 : LCode := .cond (.cp 14) C12_8 C12_18
noncomputable abbrev C12_20 : LCode := .seq C12_6 C12_19
noncomputable abbrev C12_21 : LCode := .cond (.cp 6) C12_5 C12_20
noncomputable abbrev C12_22 : LCode := .seq C12_3 C12_21
noncomputable abbrev C12_23 : LCode := .block 0 C12_22
noncomputable abbrev C12_24 : LCode := .seq C12_2 C12_23
noncomputable abbrev C12_25 : LCode := .region false 0 [
 ⟨some 4, .mov (.c (.bool true)), none⟩] [] [4]
noncomputable abbrev C12_26 : LCode := .seq C12_25 .ret
noncomputable abbrev C12_27 : LCode := .seq C12_24 C12_26
noncomputable abbrev C12_28 : LCode := .seq C12_1 C12_27
noncomputable def L_ref13_Fits : LF := { np := 2, res := [.tmp 4], keepRes := false, body := C12_28 }
noncomputable abbrev C4_1 : LCode := .region false 0 [
 ⟨some 4, .mov (.c (.bool false)), none⟩] [] [0, 1]
noncomputable abbrev C4_2 : LCode := .region false 0 [
 ⟨some 17, .call N_law19_begun [], none⟩,
 ⟨some 18, .un .not (.cp 17), none⟩] [] [0, 1, 18]
noncomputable abbrev C4_3 : LCode := .region false 0 [
 ⟨some 4, .mov (.c (.bool false)), none⟩] [] [4]
noncomputable abbrev C4_4 : LCode := .seq C4_3 .ret
noncomputable abbrev C4_5 : LCode := .cond (.cp 18) C4_4 .skip
noncomputable abbrev C4_6 : LCode := .seq C4_2 C4_5
noncomputable abbrev C4_7 : LCode := .region false 0 [
 ⟨some 19, .bslice 1 (List.replicate 6 (.str [])) [(0, (.c (.str [98,111,111,108]))), (1, (.c (.str [105,56]))), (2, (.c (.str [105,49,54]))), (3, (.c (.str [105,51,50]))), (4, (.c (.str [105,54,52]))), (5, (.c (.str [100,111,117,98,108,101])))], none⟩,
 ⟨some 5, .mov (.mv 19), none⟩] [] [0, 1, 5]
noncomputable abbrev C4_8 : LCode := .region false 0 [
 ⟨some 20, .bslice 1 (List.replicate 6 (.int .i64 0)) [(0, (.c (.int .i64 2))), (1, (.c (.int .i64 3))), (2, (.c (.int .i64 6))), (3, (.c (.int .i64 8))), (4, (.c (.int .i64 10))), (5, (.c (.int .i64 4)))], none⟩,
 ⟨some 6, .mov (.mv 20), none⟩] [] [0, 1, 5, 6]
noncomputable abbrev C4_9 : LCode := .region false 0 [
 ⟨some 21, .bslice 1 (List.replicate 6 (.int .i64 0)) [(0, (.c (.int .i64 1))), (1, (.c (.int .i64 1))), (2, (.c (.int .i64 2))), (3, (.c (.int .i64 4))), (4, (.c (.int .i64 8))), (5, (.c (.int .i64 8)))], none⟩,
 ⟨some 7, .mov (.mv 21), none⟩] [] [0, 1, 5, 6, 7]
noncomputable abbrev C4_10 : LCode := .region false 1 [
 ⟨some 22, .build [.int .i64 0, .int .i64 0] [(0, 1, (.c (.int .i64 5))), (1, 1, (.c (.int .i64 5000)))], none⟩,
 ⟨some 8, .alloc 0 [.int .i64 0, .int .i64 0], none⟩,
 ⟨none, .store (some 2) (.cp 8) (.cp 22), none⟩] [] [0, 1, 5, 6, 7, 8]
noncomputable abbrev C4_11 : LCode := .region false 0 [
 ⟨some 9, .mov (.c (.int .i64 0)), none⟩] [] [0, 1, 5, 6, 7, 8, 9]
noncomputable abbrev C4_12 : LCode := .region false 0 [
 ⟨some 23, .mov (.cp 9), none⟩,
 ⟨some 24, .mov (.cp 5), none⟩,
 ⟨some 25, .len false (.cp 24), none⟩,
 ⟨some 26, .bin .lss (.cp 23) (.cp 25), none⟩] [] [0, 1, 5, 6, 7, 8, 9, 26]
noncomputable abbrev C4_13 : LCode := .cond (.cp 26) .skip (.exit 0)
noncomputable abbrev C4_14 : LCode := .seq C4_12 C4_13
noncomputable abbrev C4_15 : LCode := .region false 1 [
 ⟨some 29, .mov (.cp 6), none⟩,
 ⟨some 30, .mov (.cp 9), none⟩,
 ⟨some 31, .iaddr 1 none (.cp 29) (.cp 30), none⟩,
 ⟨some 32, .load false none (.cp 31), none⟩,
 ⟨some 33, .mov (.cp 0), none⟩,
 ⟨some 34, .build [.int .i64 0, .int .i64 0, .str [], .sl true 5 [], .sl true 1 []] [(0, 1, (.cp 32)), (1, 1, (.cp 33))], none⟩,
 ⟨some 10, .alloc 0 [.int .i64 0, .int .i64 0, .str [], .sl true 5 [], .sl true 1 []], none⟩,
 ⟨none, .store (some 5) (.cp 10) (.mv 34), none⟩] [] [0, 1, 5, 6, 7, 8, 9, 10]
noncomputable abbrev C4_16 : LCode := .region true 0 [
 ⟨some 36, .build [.sl true 3 [], .sl true 2 [], .sl true 2 []] [], none⟩,
 ⟨some 37, .mov (.cp 5), none⟩,
 ⟨some 38, .mov (.cp 9), none⟩,
 ⟨some 39, .iaddr 1 none (.cp 37) (.cp 38), none⟩,
 ⟨some 40, .load false none (.cp 39), none⟩,
 ⟨some 41, .load false (some 5) (.cp 10), none⟩,
 ⟨some 42, .load false (some 2) (.cp 8), none⟩,
 ⟨some 43, .call N_tbin_Encode [.cp 36, .cp 40, .cp 41, .cp 42], none⟩,
 ⟨some 35, .mov (.cp 43), none⟩,
 ⟨some 44, .ext (.cp 35) 0, none⟩,
 ⟨some 45, .ext (.cp 35) 1, none⟩,
 ⟨some 11, .mov (.mv 44), none⟩,
 ⟨some 12, .mov (.cp 45), none⟩] [(4, 5), (4, 6), (5, 6)] [0, 1, 5, 6, 7, 8, 9, 10, 11, 12]
noncomputable abbrev C4_17 : LCode := .region false 0 [
 ⟨some 46, .mov (.cp 6), none⟩,
 ⟨some 47, .mov (.cp 9), none⟩,
 ⟨some 48, .iaddr 1 none (.cp 46) (.cp 47), none⟩,
 ⟨some 49, .load false none (.cp 48), none⟩,
 ⟨some 50, .mov (.cp 0), none⟩,
 ⟨some 51, .call N_ref13_Fits [.cp 49, .cp 50], none⟩,
 ⟨some 52, .un .not (.cp 51), none⟩] [] [0, 1, 5, 6, 7, 8, 9, 10, 11, 12, 52]
noncomputable abbrev C4_18 : LCode := .region false 0 [
 ⟨some 53, .mov (.cp 12), none⟩,
 ⟨some 54, .bin .neq (.cp 53) (.c (.int .i64 1)), none⟩] [] [0, 1, 5, 6, 7, 8, 9, 54]
noncomputable abbrev C4_19 : LCode := .region false 0 [
 ⟨some 4, .mov (.c (.bool false)), none⟩] [] [4]
noncomputable abbrev C4_20 : LCode := .seq C4_19 .ret
noncomputable abbrev C4_21 : LCode := .cond (.cp 54) C4_20 .skip
noncomputable abbrev C4_22 : LCode := .seq C4_18 C4_21
noncomputable abbrev C4_23 : LCode := .seq C4_22 (.exit 1)
noncomputable abbrev C4_24 : LCode := .cond (.cp 52) C4_23 .skip
noncomputable abbrev C4_25 : LCode := .seq C4_17 C4_24
noncomputable abbrev C4_26 : LCode := .region false 1 [
 ⟨some 55, .build [.int .i64 0, .int .i64 0, .str [], .sl true 5 [], .sl true 1 []] [(0, 1, (.c (.int .i64 15)))], none⟩,
 ⟨some 13, .alloc 0 [.int .i64 0, .int .i64 0, .str [], .sl true 5 [], .sl true 1 []], none⟩,
 ⟨none, .store (some 5) (.cp 13) (.mv 55), none⟩] [] [0, 1, 5, 6, 7, 8, 9, 10, 11, 12, 13]
noncomputable abbrev C4_27 : LCode := .region false 0 [
 ⟨some 14, .mov (.c (.int .i64 0)), none⟩] [] [0, 1, 5, 6, 7, 8, 9, 10, 11, 12, 13, 14]
noncomputable abbrev C4_28 : LCode := .region false 0 [
 ⟨some 56, .mov (.cp 14), none⟩,
 ⟨some 57, .mov (.cp 1), none⟩,
 ⟨some 58, .conv .i64 (.cp 57), none⟩,
 ⟨some 59, .bin .lss (.cp 56) (.cp 58), none⟩] [] [0, 1, 5, 6, 7, 8, 9, 10, 11, 12, 13, 14, 59]
noncomputable abbrev C4_29 : LCode := .cond (.cp 59) .skip (.exit 2)
noncomputable abbrev C4_30 : LCode := .seq C4_28 C4_29
noncomputable abbrev C4_31 : LCode := .region false 0 [
 ⟨some 62, .faddr (.cp 13) 3, none⟩,
 ⟨some 63, .load true none (.cp 62), none⟩,
 ⟨some 64, .load false (some 5) (.cp 10), none⟩,
 ⟨some 65, .bslice 5 (List.replicate 1 (.agg [.int .i64 0, .int .i64 0, .str [], .sl true 5 [], .sl true 1 []])) [(0, (.cp 64))], none⟩,
 ⟨some 66, .append 5 80 (.mv 63) (.cp 65), none⟩,
 ⟨some 67, .faddr (.cp 13) 3, none⟩,
 ⟨none, .store none (.cp 67) (.mv 66), none⟩] [] [0, 1, 5, 6, 7, 8, 9, 10, 11, 12, 13, 14]
noncomputable abbrev C4_32 : LCode := .block 3 C4_31
noncomputable abbrev C4_33 : LCode := .region false 0 [
 ⟨some 60, .mov (.cp 14), none⟩,
 ⟨some 61, .bin .add (.cp 60) (.c (.int .i64 1)), none⟩,
 ⟨some 14, .mov (.cp 61), none⟩] [] [0, 1, 5, 6, 7, 8, 9, 10, 11, 12, 13, 14]
noncomputable abbrev C4_34 : LCode := .seq C4_32 C4_33
noncomputable def C4_35 : LCode := .seq C4_30 C4_34
noncomputable abbrev C4_36 : LCode := .gc (.only [0, 1, 5, 6, 7, 8, 9, 10, 11, 12, 13, 14] C4_35)
noncomputable abbrev C4_37 : LCode := .only [0, 1, 5, 6, 7, 8, 9, 10, 11, 12, 13, 14] (.loop C4_36)
noncomputable abbrev C4_38 : LCode := .block 2 C4_37
noncomputable abbrev C4_39 : LCode := .seq C4_27 C4_38
noncomputable abbrev C4_40 : LCode := .region true 0 [
 ⟨some 69, .build [.sl true 3 [], .sl true 2 [], .sl true 2 []] [], none⟩,
 ⟨some 70, .mov (.cp 5), none⟩,
 ⟨some 71, .mov (.cp 9), none⟩,
 ⟨some 72, .iaddr 1 none (.cp 70) (.cp 71), none⟩,
 ⟨some 73, .load false none (.cp 72), none⟩,
 ⟨some 74, .bin .add (.c (.str [108,105,115,116,60])) (.cp 73), none⟩,
 ⟨some 75, .bin .add (.cp 74) (.c (.str [62])), none⟩,
 ⟨some 76, .load false (some 5) (.cp 13), none⟩,
 ⟨some 77, .load false (some 2) (.cp 8), none⟩,
 ⟨some 78, .call N_tbin_Encode [.cp 69, .cp 75, .cp 76, .cp 77], none⟩,
 ⟨some 68, .mov (.cp 78), none⟩,
 ⟨some 79, .ext (.cp 68) 0, none⟩,
 ⟨some 80, .ext (.cp 68) 1, none⟩,
 ⟨some 15, .mov (.mv 79), none⟩,
 ⟨some 16, .mov (.cp 80), none⟩] [(4, 7), (4, 8), (7, 8)] [0, 1, 5, 6, 7, 8, 9, 11, 12, 15, 16]
noncomputable abbrev C4_41 : LCode := .region false 0 [
 ⟨some 81, .mov (.cp 12), none⟩,
 ⟨some 82, .bin .neq (.cp 81) (.c (.int .i64 0)), none⟩,
 ⟨some 83, .mov (.cp 82), none⟩,
 ⟨some 84, .mov (.mv 11), some (83, false)⟩,
 ⟨some 85, .len false (.cp 84), some (83, false)⟩,
 ⟨some 86, .mov (.cp 7), some (83, false)⟩,
 ⟨some 87, .mov (.cp 9), some (83, false)⟩,
 ⟨some 88, .iaddr 1 none (.cp 86) (.cp 87), some (83, false)⟩,
 ⟨some 89, .load false none (.cp 88), some (83, false)⟩,
 ⟨some 90, .bin .neq (.cp 85) (.cp 89), some (83, false)⟩,
 ⟨some 91, .pick (.cp 83) (.c (.bool true)) (.cp 90), none⟩,
 ⟨some 92, .mov (.cp 91), none⟩,
 ⟨some 93, .mov (.cp 16), some (92, false)⟩,
 ⟨some 94, .bin .neq (.cp 93) (.c (.int .i64 0)), some (92, false)⟩,
 ⟨some 95, .pick (.cp 92) (.c (.bool true)) (.cp 94), none⟩,
 ⟨some 96, .mov (.cp 95), none⟩,
 ⟨some 97, .mov (.mv 15), some (96, false)⟩,
 ⟨some 98, .len false (.cp 97), some (96, false)⟩,
 ⟨some 99, .mov (.cp 1), some (96, false)⟩,
 ⟨some 100, .conv .i64 (.cp 99), some (96, false)⟩,
 ⟨some 101, .mov (.cp 7), some (96, false)⟩,
 ⟨some 102, .mov (.cp 9), some (96, false)⟩,
 ⟨some 103, .iaddr 1 none (.cp 101) (.cp 102), some (96, false)⟩,
 ⟨some 104, .load false none (.cp 103), some (96, false)⟩,
 ⟨some 105, .bin .mul (.cp 100) (.cp 104), some (96, false)⟩,
 ⟨some 106, .bin .add (.c (.int .i64 5)) (.cp 105), some (96, false)⟩,
 ⟨some 107, .bin .neq (.cp 98) (.cp 106), some (96, false)⟩,
 ⟨some 108, .pick (.cp 96) (.c (.bool true)) (.cp 107), none⟩] [] [0, 1, 5, 6, 7, 8, 9, 108]
noncomputable abbrev C4_42 : LCode := .region false 0 [
 ⟨some 4, .mov (.c (.bool false)), none⟩] [] [4]
noncomputable abbrev C4_43 : LCode := .seq C4_42 .ret
noncomputable abbrev C4_44 : LCode := .cond (.cp 108) C4_43 .skip
noncomputable abbrev C4_45 : LCode := .seq C4_41 C4_44
noncomputable abbrev C4_46 : LCode := .seq C4_40 C4_45
noncomputable abbrev C4_47 : LCode := .seq C4_39 C4_46
noncomputable abbrev C4_48 : LCode := .seq C4_26 C4_47
noncomputable abbrev C4_49 : LCode := .seq C4_25 C4_48
noncomputable abbrev C4_50 : LCode := .seq C4_16 C4_49
noncomputable abbrev C4_51 : LCode := .seq C4_15 C4_50
noncomputable abbrev C4_52 : LCode := .block 1 C4_51
noncomputable abbrev C4_53 : LCode := .region false 0 [
 ⟨some 27, .mov (.cp 9), none⟩,
 ⟨some 28, .bin .add (.cp 27) (.c (.int .i64 1)), none⟩,
 ⟨some 9, .mov (.cp 28), none⟩] [] [0, 1, 5, 6, 7, 8, 9]
noncomputable abbrev C4_54 : LCode := .seq C4_52 C4_53
noncomputable def C4_55 : LCode := .seq C4_14 C4_54
noncomputable abbrev C4_56 : LCode := .gc (.only [0, 1, 5, 6, 7, 8, 9] C4_55)
noncomputable abbrev C4_57 : LCode := .only [0, 1, 5, 6, 7, 8, 9] (.loop C4_56)
noncomputable abbrev C4_58 : LCode := .block 0 C4_57
noncomputable abbrev C4_59 : LCode := .seq C4_11 C4_58
noncomputable abbrev C4_60 : LCode := .region false 0 [
 ⟨some 4, .mov (.c (.bool true)), none⟩] [] [4]
noncomputable abbrev C4_61 : LCode := .seq C4_60 .ret
noncomputable abbrev C4_62 : LCode := .seq C4_59 C4_61
noncomputable abbrev C4_63 : LCode := .seq C4_10 C4_62
noncomputable abbrev C4_64 : LCode := .seq C4_9 C4_63
noncomputable abbrev C4_65 : LCode := .seq C4_8 C4_64
noncomputable abbrev C4_66 : LCode := .seq C4_7 C4_65
noncomputable abbrev C4_67 : LCode := .seq C4_6 C4_66
noncomputable abbrev C4_68 : LCode := .seq C4_1 C4_67
noncomputable def L_law19_TbinSizes : LF := { np := 2, res := [.tmp 4], keepRes := false, body := C4_68 }
noncomputable abbrev C10_1 : LCode := .region false 0 [
 ⟨some 0, .mov (.c (.bool false)), none⟩] [] []
noncomputable abbrev C10_2 : LCode := .region false 1 [
 ⟨some 15, .build [.int .i64 0, .int .i64 0] [(0, 1, (.c (.int .i64 5))), (1, 1, (.c (.int .i64 50)))], none⟩,
 ⟨some 1, .alloc 0 [.int .i64 0, .int .i64 0], none⟩,
 ⟨none, .store (some 2) (.cp 1) (.cp 15), none⟩] [] [1]
noncomputable abbrev C10_3 : LCode := .region false 0 [
 ⟨some 17, .build [.sl true 3 [], .sl true 2 [], .sl true 2 []] [], none⟩,
 ⟨some 18, .build [.int .i64 0, .int .i64 0, .str [], .sl true 5 [], .sl true 1 []] [(0, 1, (.c (.int .i64 6))), (1, 1, (.c (.int .i64 (-2))))], none⟩,
 ⟨some 19, .load false (some 2) (.cp 1), none⟩,
 ⟨some 20, .call N_tbin_Encode [.cp 17, .c (.str [105,49,54]), .cp 18, .cp 19], none⟩,
 ⟨some 16, .mov (.cp 20), none⟩,
 ⟨some 21, .ext (.cp 16) 0, none⟩,
 ⟨some 22, .ext (.cp 16) 1, none⟩,
 ⟨some 2, .mov (.mv 21), none⟩,
 ⟨some 3, .mov (.cp 22), none⟩] [] [1, 2, 3]
noncomputable abbrev C10_4 : LCode := .region false 1 [
 ⟨some 24, .build [.sl true 3 [], .sl true 2 [], .sl true 2 []] [], none⟩,
 ⟨some 25, .bslice 1 (List.replicate 3 (.int .u8 0)) [(0, (.c (.int .u8 0))), (1, (.c (.int .u8 5))), (2, (.c (.int .u8 9)))], none⟩,
 ⟨some 26, .load false (some 2) (.cp 1), none⟩,
 ⟨some 27, .call N_tbin_Decode [.cp 24, .c (.str [105,49,54]), .cp 25, .cp 26], none⟩,
 ⟨some 23, .mov (.cp 27), none⟩,
 ⟨some 28, .ext (.cp 23) 0, none⟩,
 ⟨some 29, .ext (.cp 23) 1, none⟩,
 ⟨some 30, .ext (.cp 23) 2, none⟩,
 ⟨some 4, .alloc 0 [.int .i64 0, .int .i64 0, .str [], .sl true 5 [], .sl true 1 []], none⟩,
 ⟨none, .store (some 5) (.cp 4) (.mv 28), none⟩,
 ⟨some 5, .mov (.cp 29), none⟩,
 ⟨some 6, .mov (.cp 30), none⟩] [] [1, 2, 3, 4, 5, 6]
noncomputable abbrev C10_5 : LCode := .region false 1 [
 ⟨some 31, .build [.int .i64 0, .str [], .sl true 10 []] [(0, 1, (.c (.int .i64 4)))], none⟩,
 ⟨some 7, .alloc 0 [.int .i64 0, .str [], .sl true 10 []], none⟩,
 ⟨none, .store (some 3) (.cp 7) (.mv 31), none⟩] [] [1, 2, 3, 4, 5, 6, 7]
noncomputable abbrev C10_6 : LCode := .region false 0 [
 ⟨some 33, .build [.sl true 3 [], .sl true 2 [], .sl true 2 []] [], none⟩,
 ⟨some 34, .load false (some 3) (.cp 7), none⟩,
 ⟨some 35, .build [.int .i64 0, .int .i64 0, .str [], .sl true 5 [], .sl true 1 []] [(0, 1, (.c (.int .i64 12)))], none⟩,
 ⟨some 36, .load false (some 2) (.cp 1), none⟩,
 ⟨some 37, .call N_tbin_EncodeAs [.cp 33, .cp 34, .cp 35, .cp 36], none⟩,
 ⟨some 32, .mov (.cp 37), none⟩,
 ⟨some 38, .ext (.cp 32) 0, none⟩,
 ⟨some 39, .ext (.cp 32) 1, none⟩,
 ⟨some 8, .mov (.mv 38), none⟩,
 ⟨some 9, .mov (.cp 39), none⟩] [] [1, 2, 3, 4, 5, 6, 7, 8, 9]
noncomputable abbrev C10_7 : LCode := .region false 1 [
 ⟨some 41, .build [.sl true 3 [], .sl true 2 [], .sl true 2 []] [], none⟩,
 ⟨some 42, .load false (some 3) (.cp 7), none⟩,
 ⟨some 43, .bslice 1 (List.replicate 1 (.int .u8 0)) [(0, (.c (.int .u8 0)))], none⟩,
 ⟨some 44, .load false (some 2) (.cp 1), none⟩,
 ⟨some 45, .call N_tbin_DecodeAs [.cp 41, .cp 42, .cp 43, .cp 44], none⟩,
 ⟨some 40, .mov (.cp 45), none⟩,
 ⟨some 46, .ext (.cp 40) 0, none⟩,
 ⟨some 47, .ext (.cp 40) 1, none⟩,
 ⟨some 48, .ext (.cp 40) 2, none⟩,
 ⟨some 10, .alloc 0 [.int .i64 0, .int .i64 0, .str [], .sl true 5 [], .sl true 1 []], none⟩,
 ⟨none, .store (some 5) (.cp 10) (.mv 46), none⟩,
 ⟨some 11, .mov (.cp 47), none⟩,
 ⟨some 12, .mov (.cp 48), none⟩] [] [1, 2, 3, 4, 5, 6, 8, 9, 11, 12]
noncomputable abbrev C10_8 : LCode := .region false 0 [
 ⟨some 50, .bslice 1 (List.replicate 2 (.int .u8 0)) [(0, (.c (.int .u8 1))), (1, (.c (.int .u8 2)))], none⟩,
 ⟨some 51, .load false (some 2) (.cp 1), none⟩,
 ⟨some 52, .call N_tbin_Skip [.cp 50, .c (.int .i64 6), .cp 51], none⟩,
 ⟨some 49, .mov (.cp 52), none⟩,
 ⟨some 53, .ext (.cp 49) 0, none⟩,
 ⟨some 54, .ext (.cp 49) 1, none⟩,
 ⟨some 13, .mov (.cp 53), none⟩,
 ⟨some 14, .mov (.cp 54), none⟩] [] [2, 3, 4, 5, 6, 8, 9, 11, 12, 13, 14]
noncomputable abbrev C10_9 : LCode := .region false 0 [
 ⟨some 55, .mov (.cp 3), none⟩,
 ⟨some 56, .bin .eql (.cp 55) (.c (.int .i64 0)), none⟩,
 ⟨some 57, .mov (.cp 56), none⟩,
 ⟨some 58, .mov (.mv 2), some (57, true)⟩,
 ⟨some 59, .bytesStr (.cp 58), some (57, true)⟩,
 ⟨some 60, .bin .eql (.cp 59) (.c (.str [255,254])), some (57, true)⟩,
 ⟨some 61, .pick (.cp 57) (.cp 60) (.c (.bool false)), none⟩,
 ⟨some 62, .mov (.cp 61), none⟩,
 ⟨some 63, .mov (.cp 6), some (62, true)⟩,
 ⟨some 64, .bin .eql (.cp 63) (.c (.int .i64 0)), some (62, true)⟩,
 ⟨some 65, .pick (.cp 62) (.cp 64) (.c (.bool false)), none⟩,
 ⟨some 66, .mov (.cp 65), none⟩,
 ⟨some 67, .faddr (.cp 4) 1, some (66, true)⟩,
 ⟨some 68, .load false none (.cp 67), some (66, true)⟩,
 ⟨some 69, .bin .eql (.cp 68) (.c (.int .i64 5)), some (66, true)⟩,
 ⟨some 70, .pick (.cp 66) (.cp 69) (.c (.bool false)), none⟩,
 ⟨some 71, .mov (.cp 70), none⟩,
 ⟨some 72, .mov (.cp 5), some (71, true)⟩,
 ⟨some 73, .bin .eql (.cp 72) (.c (.int .i64 2)), some (71, true)⟩,
 ⟨some 74, .pick (.cp 71) (.cp 73) (.c (.bool false)), none⟩,
 ⟨some 75, .mov (.cp 74), none⟩,
 ⟨some 76, .mov (.cp 9), some (75, true)⟩,
 ⟨some 77, .bin .eql (.cp 76) (.c (.int .i64 0)), some (75, true)⟩,
 ⟨some 78, .pick (.cp 75) (.cp 77) (.c (.bool false)), none⟩,
 ⟨some 79, .mov (.cp 78), none⟩,
 ⟨some 80, .mov (.mv 8), some (79, true)⟩,
 ⟨some 81, .bytesStr (.cp 80), some (79, true)⟩,
 ⟨some 82, .bin .eql (.cp 81) (.c (.str [0])), some (79, true)⟩,
 ⟨some 83, .pick (.cp 79) (.cp 82) (.c (.bool false)), none⟩,
 ⟨some 84, .mov (.cp 83), none⟩,
 ⟨some 85, .mov (.cp 12), some (84, true)⟩,
 ⟨some 86, .bin .eql (.cp 85) (.c (.int .i64 0)), some (84, true)⟩,
 ⟨some 87, .pick (.cp 84) (.cp 86) (.c (.bool false)), none⟩,
 ⟨some 88, .mov (.cp 87), none⟩,
 ⟨some 89, .mov (.cp 11), some (88, true)⟩,
 ⟨some 90, .bin .eql (.cp 89) (.c (.int .i64 1)), some (88, true)⟩,
 ⟨some 91, .pick (.cp 88) (.cp 90) (.c (.bool false)), none⟩,
 ⟨some 92, .mov (.cp 91), none⟩,
 ⟨some 93, .mov (.cp 14), some (92, true)⟩,
 ⟨some 94, .bin .eql (.cp 93) (.c (.int .i64 0)), some (92, true)⟩,
 ⟨some 95, .pick (.cp 92) (.cp 94) (.c (.bool false)), none⟩,
 ⟨some 96, .mov (.cp 95), none⟩,
 ⟨some 97, .mov (.cp 13), some (96, true)⟩,
 ⟨some 98, .bin .eql (.cp 97) (.c (.int .i64 2)), some (96, true)⟩,
 ⟨some 99, .pick (.cp 96) (.cp 98) (.c (.bool false)), none⟩,
 ⟨some 0, .mov (.cp 99), none⟩] [] [0]
noncomputable abbrev C10_10 : LCode := .seq C10_9 .ret
noncomputable abbrev C10_11 : LCode := .seq C10_8 C10_10
noncomputable abbrev C10_12 : LCode := .seq C10_7 C10_11
noncomputable abbrev C10_13 : LCode := .seq C10_6 C10_12
noncomputable abbrev C10_14 : LCode := .seq C10_5 C10_13
noncomputable abbrev C10_15 : LCode := .seq C10_4 C10_14
noncomputable abbrev C10_16 : LCode := .seq C10_3 C10_15
noncomputable abbrev C10_17 : LCode := .seq C10_2 C10_16
noncomputable abbrev C10_18 : LCode := .seq C10_1 C10_17
noncomputable def L_law19_begun : LF := { np := 0, res := [.tmp 0], keepRes := false, body := C10_18 }
noncomputable abbrev C25_1 : LCode := .region false 1 [
 ⟨some 4, .box (.mv 0), none⟩,
 ⟨some 7, .box (.cp 3), none⟩,
 ⟨some 8, .alloc 0 [.int .i64 0, .int .i64 0, .str [], .sl true 5 [], .sl true 1 []], none⟩,
 ⟨some 9, .mov (.c (.int .i64 0)), none⟩,
 ⟨some 10, .mov (.c (.int .i64 0)), none⟩] [] [1, 2, 4, 7, 8]
noncomputable abbrev C25_2 : LCode := .region false 0 [
 ⟨some 12, .load false (some 3) (.cp 4), none⟩,
 ⟨some 13, .mov (.cp 1), none⟩,
 ⟨some 14, .call N_tbin_known [.cp 12, .cp 13], none⟩,
 ⟨some 15, .un .not (.cp 14), none⟩] [] [1, 2, 4, 7, 8, 15]
noncomputable abbrev C25_3 : LCode := .region false 0 [
 ⟨some 16, .build [.int .i64 0, .int .i64 0, .str [], .sl true 5 [], .sl true 1 []] [], none⟩,
 ⟨none, .store (some 5) (.cp 8) (.mv 16), none⟩,
 ⟨some 9, .mov (.c (.int .i64 0)), none⟩,
 ⟨some 10, .mov (.c (.int .i64 1)), none⟩] [] [8, 9, 10]
noncomputable abbrev C25_4 : LCode := .seq C25_3 .ret
noncomputable abbrev C25_5 : LCode := .cond (.cp 15) C25_4 .skip
noncomputable abbrev C25_6 : LCode := .seq C25_2 C25_5
noncomputable abbrev C25_7 : LCode := .region false 0 [
 ⟨some 17, .mov (.mv 2), none⟩,
 ⟨some 18, .load false (some 2) (.cp 7), none⟩,
 ⟨some 19, .build [.sl true 1 [], .int .i64 0, .int .i64 0, .int .i64 0, .int .i64 0] [(0, 1, (.mv 17)), (2, 2, (.cp 18))], none⟩,
 ⟨some 20, .load false (some 3) (.cp 4), none⟩,
 ⟨some 21, .build [.sl true 1 [], .int .i64 0, .int .i64 0, .int .i64 0, .int .i64 0, .sl true 3 [], .sl true 2 [], .sl true 2 []] [(0, 5, (.mv 19)), (5, 3, (.mv 20))], none⟩,
 ⟨some 22, .box (.mv 21), none⟩,
 ⟨some 11, .mov (.cp 22), none⟩] [] [1, 8, 11]
noncomputable abbrev C25_8 : LCode := .region false 0 [
 ⟨some 23, .mov (.cp 11), none⟩,
 ⟨some 24, .mov (.cp 1), none⟩,
 ⟨some 25, .call N_tbin_reader_value [.cp 23, .cp 24, .c (.int .i64 1)], none⟩,
 ⟨none, .store (some 5) (.cp 8) (.mv 25), none⟩] [] [8, 11]
noncomputable abbrev C25_9 : LCode := .region false 0 [
 ⟨some 26, .mov (.cp 11), none⟩,
 ⟨some 27, .load false (some 5) (.cp 8), none⟩,
 ⟨some 28, .call N_tbin_reader_done [.cp 26, .cp 27], none⟩,
 ⟨some 29, .ext (.cp 28) 0, none⟩,
 ⟨some 30, .ext (.cp 28) 1, none⟩,
 ⟨some 31, .ext (.cp 28) 2, none⟩,
 ⟨none, .store (some 5) (.cp 8) (.mv 29), none⟩,
 ⟨some 9, .mov (.cp 30), none⟩,
 ⟨some 10, .mov (.cp 31), none⟩] [] [8, 9, 10]
noncomputable abbrev C25_10 : LCode := .seq C25_9 .ret
noncomputable abbrev C25_11 : LCode := .seq C25_8 C25_10
noncomputable abbrev C25_12 : LCode := .seq C25_7 C25_11
noncomputable abbrev C25_13 : LCode := .seq C25_6 C25_12
noncomputable abbrev C25_14 : LCode := .seq C25_1 C25_13
noncomputable def L_tbin_Decode : LF := { np := 4, res := [.cell 8 (some 5), .tmp 9, .tmp 10], keepRes := false, body := C25_14 }
noncomputable abbrev C26_1 : LCode := .region false 0 [
 ⟨some 4, .box (.mv 0), none⟩,
 ⟨some 5, .box (.mv 1), none⟩,
 ⟨some 6, .box (.mv 2), none⟩,
 ⟨some 7, .box (.cp 3), none⟩,
 ⟨some 8, .mov (.c (.sl true 1 [])), none⟩,
 ⟨some 9, .mov (.c (.int .i64 0)), none⟩] [] [4, 5, 6, 7]
noncomputable abbrev C26_2 : LCode := .region false 0 [
 ⟨some 11, .load false (some 3) (.cp 4), none⟩,
 ⟨some 12, .load false (some 3) (.cp 5), none⟩,
 ⟨some 13, .load false (some 5) (.cp 6), none⟩,
 ⟨some 14, .call N_value_Fields [.cp 11, .cp 12, .cp 13], none⟩,
 ⟨some 15, .un .not (.cp 14), none⟩] [] [4, 5, 6, 7, 15]
noncomputable abbrev C26_3 : LCode := .region false 0 [
 ⟨some 8, .mov (.c (.sl true 1 [])), none⟩,
 ⟨some 9, .mov (.c (.int .i64 1)), none⟩] [] [8, 9]
noncomputable abbrev C26_4 : LCode := .seq C26_3 .ret
noncomputable abbrev C26_5 : LCode := .cond (.cp 15) C26_4 .skip
noncomputable abbrev C26_6 : LCode := .seq C26_2 C26_5
noncomputable abbrev C26_7 : LCode := .region false 0 [
 ⟨some 16, .load false (some 3) (.cp 4), none⟩,
 ⟨some 17, .build [.sl true 3 [], .sl true 2 [], .sl true 2 [], .sl true 1 []] [(0, 3, (.mv 16))], none⟩,
 ⟨some 18, .box (.mv 17), none⟩,
 ⟨some 10, .mov (.cp 18), none⟩] [] [5, 6, 7, 10]
noncomputable abbrev C26_8 : LCode := .region false 0 [
 ⟨some 19, .mov (.cp 10), none⟩,
 ⟨some 20, .load false (some 3) (.cp 5), none⟩,
 ⟨some 21, .load false (some 5) (.cp 6), none⟩,
 ⟨some 22, .call N_tbin_writer_fields [.cp 19, .cp 20, .cp 21], none⟩] [] [6, 7, 10]
noncomputable abbrev C26_9 : LCode := .region false 0 [
 ⟨some 23, .mov (.cp 10), none⟩,
 ⟨some 24, .load false (some 5) (.cp 6), none⟩,
 ⟨some 25, .load false (some 2) (.cp 7), none⟩,
 ⟨some 26, .call N_tbin_writer_done [.cp 23, .cp 24, .cp 25], none⟩,
 ⟨some 27, .ext (.cp 26) 0, none⟩,
 ⟨some 28, .ext (.cp 26) 1, none⟩,
 ⟨some 8, .mov (.mv 27), none⟩,
 ⟨some 9, .mov (.cp 28), none⟩] [] [8, 9]
noncomputable abbrev C26_10 : LCode := .seq C26_9 .ret
noncomputable abbrev C26_11 : LCode := .seq C26_8 C26_10
noncomputable abbrev C26_12 : LCode := .seq C26_7 C26_11
noncomputable abbrev C26_13 : LCode := .seq C26_6 C26_12
noncomputable abbrev C26_14 : LCode := .seq C26_1 C26_13
noncomputable def L_tbin_EncodeAs : LF := { np := 4, res := [.tmp 8, .tmp 9], keepRes := false, body := C26_14 }
noncomputable abbrev C13_1 : LCode := .region false 1 [
 ⟨some 4, .box (.mv 0), none⟩,
 ⟨some 5, .box (.mv 1), none⟩,
 ⟨some 7, .box (.cp 3), none⟩,
 ⟨some 8, .alloc 0 [.int .i64 0, .int .i64 0, .str [], .sl true 5 [], .sl true 1 []], none⟩,
 ⟨some 9, .mov (.c (.int .i64 0)), none⟩,
 ⟨some 10, .mov (.c (.int .i64 0)), none⟩] [] [2, 4, 5, 7, 8]
noncomputable abbrev C13_2 : LCode := .region false 0 [
 ⟨some 12, .mov (.mv 2), none⟩,
 ⟨some 13, .load false (some 2) (.cp 7), none⟩,
 ⟨some 14, .build [.sl true 1 [], .int .i64 0, .int .i64 0, .int .i64 0, .int .i64 0] [(0, 1, (.mv 12)), (2, 2, (.cp 13))], none⟩,
 ⟨some 15, .load false (some 3) (.cp 4), none⟩,
 ⟨some 16, .build [.sl true 1 [], .int .i64 0, .int .i64 0, .int .i64 0, .int .i64 0, .sl true 3 [], .sl true 2 [], .sl true 2 []] [(0, 5, (.mv 14)), (5, 3, (.mv 15))], none⟩,
 ⟨some 17, .box (.mv 16), none⟩,
 ⟨some 11, .mov (.cp 17), none⟩] [] [5, 8, 11]
noncomputable abbrev C13_3 : LCode := .region false 0 [
 ⟨some 18, .mov (.cp 11), none⟩,
 ⟨some 19, .load false (some 3) (.cp 5), none⟩,
 ⟨some 20, .call N_tbin_reader_fields [.cp 18, .cp 19, .c (.int .i64 1)], none⟩,
 ⟨none, .store (some 5) (.cp 8) (.mv 20), none⟩] [] [8, 11]
noncomputable abbrev C13_4 : LCode := .region false 0 [
 ⟨some 21, .mov (.cp 11), none⟩,
 ⟨some 22, .load false (some 5) (.cp 8), none⟩,
 ⟨some 23, .call N_tbin_reader_done [.cp 21, .cp 22], none⟩,
 ⟨some 24, .ext (.cp 23) 0, none⟩,
 ⟨some 25, .ext (.cp 23) 1, none⟩,
 ⟨some 26, .ext (.cp 23) 2, none⟩,
 ⟨none, .store (some 5) (.cp 8) (.mv 24), none⟩,
 ⟨some 9, .mov (.cp 25), none⟩,
 ⟨some 10, .mov (.cp 26), none⟩] [] [8, 9, 10]
noncomputable abbrev C13_5 : LCode := .seq C13_4 .ret
noncomputable abbrev C13_6 : LCode := .seq C13_3 C13_5
noncomputable abbrev C13_7 : LCode := .seq C13_2 C13_6
noncomputable abbrev C13_8 : LCode := .seq C13_1 C13_7
noncomputable def L_tbin_DecodeAs : LF := { np := 4, res := [.cell 8 (some 5), .tmp 9, .tmp 10], keepRes := false, body := C13_8 }
noncomputable abbrev C27_1 : LCode := .region false 0 [
 ⟨some 5, .box (.cp 2), none⟩,
 ⟨some 6, .mov (.c (.int .i64 0)), none⟩,
 ⟨some 7, .mov (.c (.int .i64 0)), none⟩] [] [0, 1, 5]
noncomputable abbrev C27_2 : LCode := .region false 0 [
 ⟨some 9, .mov (.mv 0), none⟩,
 ⟨some 10, .load false (some 2) (.cp 5), none⟩,
 ⟨some 11, .build [.sl true 1 [], .int .i64 0, .int .i64 0, .int .i64 0, .int .i64 0] [(0, 1, (.mv 9)), (2, 2, (.cp 10))], none⟩,
 ⟨some 12, .box (.mv 11), none⟩,
 ⟨some 8, .mov (.cp 12), none⟩] [] [1, 8]
noncomputable abbrev C27_3 : LCode := .region false 0 [
 ⟨some 13, .mov (.cp 8), none⟩,
 ⟨some 14, .mov (.cp 1), none⟩,
 ⟨some 15, .call N_tbin_cursor_skip [.cp 13, .cp 14, .c (.int .i64 1)], none⟩] [] [8]
noncomputable abbrev C27_4 : LCode := .region false 0 [
 ⟨some 16, .mov (.cp 8), none⟩,
 ⟨some 17, .call N_tbin_cursor_ok [.cp 16], none⟩,
 ⟨some 18, .un .not (.cp 17), none⟩] [] [8, 18]
noncomputable abbrev C27_5 : LCode := .region true 0 [
 ⟨some 19, .mov (.cp 8), none⟩,
 ⟨some 20, .nilc (.cp 19), none⟩,
 ⟨some 21, .faddr (.cp 20) 4, none⟩,
 ⟨some 22, .load false none (.cp 21), none⟩,
 ⟨some 6, .mov (.c (.int .i64 0)), none⟩,
 ⟨some 7, .mov (.cp 22), none⟩] [] [6, 7]
noncomputable abbrev C27_6 : LCode := .seq C27_5 .ret
noncomputable abbrev C27_7 : LCode := .cond (.cp 18) C27_6 .skip
noncomputable abbrev C27_8 : LCode := .seq C27_4 C27_7
noncomputable abbrev C27_9 : LCode := .seq C27_3 C27_8
noncomputable abbrev C27_10 : LCode := .region false 0 [
 ⟨some 23, .mov (.cp 8), none⟩,
 ⟨some 24, .nilc (.cp 23), none⟩,
 ⟨some 25, .faddr (.cp 24) 1, none⟩,
 ⟨some 26, .load false none (.cp 25), none⟩,
 ⟨some 6, .mov (.cp 26), none⟩,
 ⟨some 7, .mov (.c (.int .i64 0)), none⟩] [] [6, 7]
noncomputable abbrev C27_11 : LCode := .seq C27_10 .ret
noncomputable abbrev C27_12 : LCode := .seq C27_9 C27_11
noncomputable abbrev C27_13 : LCode := .seq C27_2 C27_12
noncomputable abbrev C27_14 : LCode := .seq C27_1 C27_13
noncomputable def L_tbin_Skip : LF := { np := 3, res := [.tmp 6, .tmp 7], keepRes := false, body := C27_14 }
noncomputable abbrev C71_1 : LCode := .region false 1 [
 ⟨some 6, .alloc 0 [.int .i64 0, .int .i64 0, .str [], .sl true 5 [], .sl true 1 []], none⟩] [] [0, 1, 2, 6]
noncomputable abbrev C71_2 : LCode := .region false 0 [
 ⟨some 19, .mov (.cp 1), none⟩,
 ⟨some 20, .call N_kind_Head [.cp 19], none⟩,
 ⟨some 18, .mov (.cp 20), none⟩,
 ⟨some 21, .ext (.cp 18) 0, none⟩,
 ⟨some 22, .ext (.cp 18) 1, none⟩,
 ⟨some 23, .ext (.cp 18) 2, none⟩,
 ⟨some 24, .ext (.cp 18) 3, none⟩,
 ⟨some 25, .ext (.cp 18) 4, none⟩,
 ⟨some 7, .mov (.cp 21), none⟩,
 ⟨some 8, .mov (.cp 22), none⟩,
 ⟨some 9, .mov (.cp 23), none⟩,
 ⟨some 10, .mov (.cp 24), none⟩,
 ⟨some 11, .mov (.cp 25), none⟩] [] [0, 1, 2, 6, 8, 9, 10]
noncomputable abbrev C71_3 : LCode := .region false 1 [
 ⟨some 26, .mov (.cp 0), none⟩,
 ⟨some 27, .nilc (.cp 26), none⟩,
 ⟨some 28, .faddr (.cp 27) 5, none⟩,
 ⟨some 29, .load false (some 3) (.cp 28), none⟩,
 ⟨some 30, .mov (.cp 1), none⟩,
 ⟨some 31, .call N_value_Kind [.cp 29, .cp 30], none⟩,
 ⟨some 32, .build [.int .i64 0, .int .i64 0, .str [], .sl true 5 [], .sl true 1 []] [(0, 1, (.cp 31))], none⟩,
 ⟨some 12, .alloc 0 [.int .i64 0, .int .i64 0, .str [], .sl true 5 [], .sl true 1 []], none⟩,
 ⟨none, .store (some 5) (.cp 12) (.mv 32), none⟩] [] [0, 2, 6, 8, 9, 10, 12]
noncomputable abbrev C71_4 : LCode := .region false 0 [
 ⟨some 33, .mov (.cp 0), none⟩,
 ⟨some 34, .nilc (.cp 33), none⟩,
 ⟨some 35, .faddr (.cp 34) 0, none⟩,
 ⟨some 36, .call N_tbin_cursor_ok [.cp 35], none⟩,
 ⟨some 37, .un .not (.cp 36), none⟩] [] [0, 2, 6, 8, 9, 10, 12, 37]
noncomputable abbrev C71_5 : LCode := .region false 0 [
 ⟨some 38, .load false (some 5) (.cp 12), none⟩,
 ⟨none, .store (some 5) (.cp 6) (.mv 38), none⟩] [] [6]
noncomputable abbrev C71_6 : LCode := .seq C71_5 .ret
noncomputable abbrev C71_7 : LCode := .cond (.cp 37) C71_6 .skip
noncomputable abbrev C71_8 : LCode := .seq C71_4 C71_7
noncomputable abbrev C71_9 : LCode := .region false 0 [
 ⟨some 39, .faddr (.cp 12) 0, none⟩,
 ⟨some 40, .load false none (.cp 39), none⟩] [] [0, 2, 6, 8, 9, 10, 12, 40]
noncomputable abbrev C71_10 : LCode := .region false 0 [
 ⟨some 53, .bin .eql (.cp 40) (.c (.int .i64 2)), none⟩,
 ⟨some 52, .mov (.cp 53), none⟩] [] [0, 2, 6, 8, 9, 10, 12, 40, 52]
noncomputable abbrev C71_11 : LCode := .region false 0 [
 ⟨some 54, .mov (.cp 0), none⟩,
 ⟨some 55, .nilc (.cp 54), none⟩,
 ⟨some 56, .faddr (.cp 55) 0, none⟩,
 ⟨some 57, .call N_tbin_cursor_num [.cp 56, .c (.int .i64 1)], none⟩,
 ⟨some 58, .conv .i64 (.cp 57), none⟩,
 ⟨some 59, .faddr (.cp 12) 1, none⟩,
 ⟨none, .store none (.cp 59) (.cp 58), none⟩] [] [0, 6, 12]
noncomputable abbrev C71_12 : LCode := .region true 0 [
 ⟨some 60, .mov (.cp 0), none⟩,
 ⟨some 61, .nilc (.cp 60), none⟩,
 ⟨some 62, .faddr (.cp 61) 0, none⟩,
 ⟨some 63, .faddr (.cp 12) 1, none⟩,
 ⟨some 64, .load false none (.cp 63), none⟩,
 ⟨some 65, .bin .gtr (.cp 64) (.c (.int .i64 1)), none⟩,
 ⟨some 66, .call N_tbin_cursor_fails [.cp 62, .cp 65, .c (.int .i64 2)], none⟩] [] [6, 12]
noncomputable abbrev C71_13 : LCode := .seq C71_11 C71_12
noncomputable abbrev C71_14 : LCode := .region false 0 [
 ⟨some 68, .bin .eql (.cp 40) (.c (.int .i64 17)), none⟩,
 ⟨some 67, .mov (.cp 68), none⟩] [] [0, 2, 6, 8, 9, 10, 12, 40, 67]
noncomputable abbrev C71_15 : LCode := .region false 0 [
 ⟨some 69, .mov (.cp 0), none⟩,
 ⟨some 70, .nilc (.cp 69), none⟩,
 ⟨some 71, .faddr (.cp 70) 0, none⟩,
 ⟨some 72, .call N_tbin_cursor_num [.cp 71, .c (.int .i64 4)], none⟩,
 ⟨some 73, .call N_tbin_signed [.cp 72, .c (.int .i64 4)], none⟩,
 ⟨some 74, .faddr (.cp 12) 1, none⟩,
 ⟨none, .store none (.cp 74) (.cp 73), none⟩] [] [0, 6, 8, 12]
noncomputable abbrev C71_16 : LCode := .region false 1 [
 ⟨some 76, .mov (.cp 0), none⟩,
 ⟨some 77, .nilc (.cp 76), none⟩,
 ⟨some 78, .faddr (.cp 77) 5, none⟩,
 ⟨some 79, .load false (some 3) (.cp 78), none⟩,
 ⟨some 80, .mov (.cp 8), none⟩,
 ⟨some 81, .call N_value_Enum [.cp 79, .cp 80], none⟩,
 ⟨some 75, .mov (.cp 81), none⟩,
 ⟨some 82, .ext (.cp 75) 0, none⟩,
 ⟨some 83, .ext (.cp 75) 1, none⟩,
 ⟨some 13, .alloc 0 [.str [], .sl true 3 []], none⟩,
 ⟨none, .store (some 2) (.cp 13) (.mv 82), none⟩,
 ⟨some 14, .mov (.cp 83), none⟩] [] [0, 6, 12, 13]
noncomputable abbrev C71_17 : LCode := .region true 0 [
 ⟨some 84, .mov (.cp 0), none⟩,
 ⟨some 85, .nilc (.cp 84), none⟩,
 ⟨some 86, .faddr (.cp 85) 0, none⟩,
 ⟨some 87, .faddr (.cp 13) 1, none⟩,
 ⟨some 88, .load false none (.cp 87), none⟩,
 ⟨some 89, .mkfn N_tbin_reader_value_1 [.cp 12], none⟩,
 ⟨some 90, .call N_slices_ContainsFunc_api_Member_api_Member [.cp 88, .cp 89], none⟩,
 ⟨some 91, .un .not (.cp 90), none⟩,
 ⟨some 92, .call N_tbin_cursor_fails [.cp 86, .cp 91, .c (.int .i64 12)], none⟩] [] [6, 12]
noncomputable abbrev C71_18 : LCode := .seq C71_16 C71_17
noncomputable abbrev C71_19 : LCode := .seq C71_15 C71_18
noncomputable abbrev C71_20 : LCode := .region false 0 [
 ⟨some 94, .bin .eql (.cp 40) (.c (.int .i64 11)), none⟩,
 ⟨some 93, .mov (.cp 94), none⟩] [] [0, 2, 6, 8, 9, 10, 12, 40, 93]
noncomputable abbrev C71_21 : LCode := .region false 0 [
 ⟨some 95, .bin .eql (.cp 40) (.c (.int .i64 16)), none⟩,
 ⟨some 93, .mov (.cp 95), none⟩] [] [0, 2, 6, 8, 9, 10, 12, 40, 93]
noncomputable abbrev C71_22 : LCode := .cond (.cp 93) .skip C71_21
noncomputable abbrev C71_23 : LCode := .seq C71_20 C71_22
noncomputable abbrev C71_24 : LCode := .region true 0 [
 ⟨some 96, .mov (.cp 0), none⟩,
 ⟨some 97, .nilc (.cp 96), none⟩,
 ⟨some 98, .faddr (.cp 97) 0, none⟩,
 ⟨some 99, .mov (.cp 0), none⟩,
 ⟨some 100, .nilc (.cp 99), none⟩,
 ⟨some 101, .faddr (.cp 100) 0, none⟩,
 ⟨some 102, .call N_tbin_cursor_count [.cp 101], none⟩,
 ⟨some 103, .call N_tbin_cursor_bytes [.cp 98, .cp 102], none⟩,
 ⟨some 104, .bytesStr (.cp 103), none⟩,
 ⟨some 105, .faddr (.cp 12) 2, none⟩,
 ⟨none, .store none (.cp 105) (.cp 104), none⟩] [] [0, 6, 12]
noncomputable abbrev C71_25 : LCode := .region true 0 [
 ⟨some 106, .mov (.cp 0), none⟩,
 ⟨some 107, .nilc (.cp 106), none⟩,
 ⟨some 108, .faddr (.cp 107) 0, none⟩,
 ⟨some 109, .faddr (.cp 12) 0, none⟩,
 ⟨some 110, .load false none (.cp 109), none⟩,
 ⟨some 111, .bin .eql (.cp 110) (.c (.int .i64 11)), none⟩,
 ⟨some 112, .mov (.cp 111), none⟩,
 ⟨some 113, .faddr (.cp 12) 2, some (112, true)⟩,
 ⟨some 114, .load false none (.cp 113), some (112, true)⟩,
 ⟨some 115, .call N_value_Valid [.cp 114], some (112, true)⟩,
 ⟨some 116, .un .not (.cp 115), some (112, true)⟩,
 ⟨some 117, .pick (.cp 112) (.cp 116) (.c (.bool false)), none⟩,
 ⟨some 118, .call N_tbin_cursor_fails [.cp 108, .cp 117, .c (.int .i64 2)], none⟩] [] [6, 12]
noncomputable abbrev C71_26 : LCode := .seq C71_24 C71_25
noncomputable abbrev C71_27 : LCode := .region false 0 [
 ⟨some 120, .bin .eql (.cp 40) (.c (.int .i64 15)), none⟩,
 ⟨some 119, .mov (.cp 120), none⟩] [] [0, 2, 6, 8, 9, 10, 12, 40, 119]
noncomputable abbrev C71_28 : LCode := .region false 0 [
 ⟨some 121, .bin .eql (.cp 40) (.c (.int .i64 14)), none⟩,
 ⟨some 119, .mov (.cp 121), none⟩] [] [0, 2, 6, 8, 9, 10, 12, 40, 119]
noncomputable abbrev C71_29 : LCode := .region false 0 [
 ⟨some 122, .bin .eql (.cp 40) (.c (.int .i64 13)), none⟩,
 ⟨some 119, .mov (.cp 122), none⟩] [] [0, 2, 6, 8, 9, 10, 12, 40, 119]
noncomputable abbrev C71_30 : LCode := .cond (.cp 119) .skip C71_29
noncomputable abbrev C71_31 : LCode := .seq C71_28 C71_30
noncomputable abbrev C71_32 : LCode := .cond (.cp 119) .skip C71_31
noncomputable abbrev C71_33 : LCode := .seq C71_27 C71_32
noncomputable abbrev C71_34 : LCode := .region true 0 [
 ⟨some 123, .mov (.cp 0), none⟩,
 ⟨some 124, .nilc (.cp 123), none⟩,
 ⟨some 125, .faddr (.cp 124) 0, none⟩,
 ⟨some 126, .mov (.cp 2), none⟩,
 ⟨some 127, .mov (.cp 0), none⟩,
 ⟨some 128, .nilc (.cp 127), none⟩,
 ⟨some 129, .faddr (.cp 128) 0, none⟩,
 ⟨some 130, .faddr (.cp 129) 2, none⟩,
 ⟨some 131, .faddr (.cp 130) 0, none⟩,
 ⟨some 132, .load false none (.cp 131), none⟩,
 ⟨some 133, .bin .gtr (.cp 126) (.cp 132), none⟩,
 ⟨some 134, .call N_tbin_cursor_fails [.cp 125, .cp 133, .c (.int .i64 6)], none⟩] [] [0, 2, 6, 9, 10, 12]
noncomputable abbrev C71_35 : LCode := .region false 0 [
 ⟨some 135, .mov (.cp 0), none⟩,
 ⟨some 136, .faddr (.cp 12) 0, none⟩,
 ⟨some 137, .load false none (.cp 136), none⟩,
 ⟨some 138, .mov (.cp 9), none⟩,
 ⟨some 139, .mov (.cp 10), none⟩,
 ⟨some 140, .mov (.cp 2), none⟩,
 ⟨some 141, .call N_tbin_reader_parts [.cp 135, .cp 137, .cp 138, .cp 139, .cp 140], none⟩,
 ⟨none, .store (some 5) (.cp 6) (.mv 141), none⟩] [] [6]
noncomputable abbrev C71_36 : LCode := .seq C71_35 .ret
noncomputable abbrev C71_37 : LCode := .seq C71_34 C71_36
noncomputable abbrev C71_38 : LCode := .region false 0 [
 ⟨some 143, .bin .eql (.cp 40) (.c (.int .i64 12)), none⟩,
 ⟨some 142, .mov (.cp 143), none⟩] [] [0, 2, 6, 8, 12, 142]
noncomputable abbrev C71_39 : LCode := .region false 1 [
 ⟨some 145, .mov (.cp 0), none⟩,
 ⟨some 146, .nilc (.cp 145), none⟩,
 ⟨some 147, .faddr (.cp 146) 5, none⟩,
 ⟨some 148, .load false (some 3) (.cp 147), none⟩,
 ⟨some 149, .mov (.cp 8), none⟩,
 ⟨some 150, .call N_value_Struct [.cp 148, .cp 149], none⟩,
 ⟨some 144, .mov (.cp 150), none⟩,
 ⟨some 151, .ext (.cp 144) 0, none⟩,
 ⟨some 152, .ext (.cp 144) 1, none⟩,
 ⟨some 15, .alloc 0 [.int .i64 0, .str [], .sl true 10 []], none⟩,
 ⟨none, .store (some 3) (.cp 15) (.mv 151), none⟩,
 ⟨some 16, .mov (.cp 152), none⟩] [] [0, 2, 6, 15]
noncomputable abbrev C71_40 : LCode := .region false 0 [
 ⟨some 153, .mov (.cp 0), none⟩,
 ⟨some 154, .load false (some 3) (.cp 15), none⟩,
 ⟨some 155, .mov (.cp 2), none⟩,
 ⟨some 156, .call N_tbin_reader_fields [.cp 153, .cp 154, .cp 155], none⟩,
 ⟨none, .store (some 5) (.cp 6) (.mv 156), none⟩] [] [6]
noncomputable abbrev C71_41 : LCode := .seq C71_40 .ret
noncomputable abbrev C71_42 : LCode := .seq C71_39 C71_41
noncomputable abbrev C71_43 : LCode := .region false 0 [
 ⟨some 41, .faddr (.cp 12) 0, none⟩,
 ⟨some 42, .load false none (.cp 41), none⟩,
 ⟨some 43, .call N_tbin_width [.cp 42], none⟩,
 ⟨some 17, .mov (.cp 43), none⟩] [] [0, 6, 12, 17]
noncomputable abbrev C71_44 : LCode := .region false 0 [
 ⟨some 44, .mov (.cp 0), none⟩,
 ⟨some 45, .nilc (.cp 44), none⟩,
 ⟨some 46, .faddr (.cp 45) 0, none⟩,
 ⟨some 47, .mov (.cp 17), none⟩,
 ⟨some 48, .call N_tbin_cursor_num [.cp 46, .cp 47], none⟩,
 ⟨some 49, .mov (.cp 17), none⟩,
 ⟨some 50, .call N_tbin_signed [.cp 48, .cp 49], none⟩,
 ⟨some 51, .faddr (.cp 12) 1, none⟩,
 ⟨none, .store none (.cp 51) (.cp 50), none⟩] [] [6, 12]
noncomputable abbrev C71_45 : LCode := .seq C71_43 C71_44
noncomputable abbrev C71_46 : LCode := .cond (.cp 142) C71_42 C71_45
noncomputable abbrev C71_47 : LCode := .seq C71_38 C71_46
noncomputable def C71_48 : LCode := .cond (.cp 119) C71_37 C71_47
noncomputable abbrev C71_49 : LCode := .only [0, 2, 6, 8, 9, 10, 12, 40, 119] C71_48
noncomputable abbrev C71_50 : LCode := .seq C71_33 C71_49
noncomputable def C71_51 : LCode := .cond (.cp 93) C71_26 C71_50
noncomputable abbrev C71_52 : LCode := .only [0, 2, 6, 8, 9, 10, 12, 40, 93] C71_51
noncomputable abbrev C71_53 : LCode := .seq C71_23 C71_52
noncomputable abbrev C71_54 : LCode := .cond (.cp 67) C71_19 C71_53
noncomputable abbrev C71_55 : LCode := .seq C71_14 C71_54
noncomputable abbrev C71_56 : LCode := .cond (.cp 52) C71_13 C71_55
noncomputable abbrev C71_57 : LCode := .seq C71_10 C71_56
noncomputable abbrev C71_58 : LCode := .block 0 C71_57
noncomputable abbrev C71_59 : LCode := .seq C71_9 C71_58
noncomputable abbrev C71_60 : LCode := .region false 0 [
 ⟨some 157, .load false (some 5) (.cp 12), none⟩,
 ⟨none, .store (some 5) (.cp 6) (.mv 157), none⟩] [] [6]
noncomputable abbrev C71_61 : LCode := .seq C71_60 .ret
noncomputable abbrev C71_62 : LCode := .seq C71_59 C71_61
noncomputable abbrev C71_63 : LCode := .seq C71_8 C71_62
noncomputable abbrev C71_64 : LCode := .seq C71_3 C71_63
noncomputable abbrev C71_65 : LCode := .seq C71_2 C71_64
noncomputable abbrev C71_66 : LCode := .seq C71_1 C71_65
noncomputable def L_tbin_reader_value : LF := { np := 3, res := [.cell 6 (some 5)], keepRes := false, body := C71_66 }
noncomputable abbrev C33_1 : LCode := .region false 1 [
 ⟨some 3, .box (.mv 1), none⟩,
 ⟨some 4, .alloc 0 [.int .i64 0, .int .i64 0, .str [], .sl true 5 [], .sl true 1 []], none⟩,
 ⟨some 5, .mov (.c (.int .i64 0)), none⟩,
 ⟨some 6, .mov (.c (.int .i64 0)), none⟩] [] [0, 3, 4]
noncomputable abbrev C33_2 : LCode := .region false 0 [
 ⟨some 7, .mov (.cp 0), none⟩,
 ⟨some 8, .nilc (.cp 7), none⟩,
 ⟨some 9, .faddr (.cp 8) 0, none⟩,
 ⟨some 10, .call N_tbin_cursor_ok [.cp 9], none⟩,
 ⟨some 11, .un .not (.cp 10), none⟩] [] [0, 3, 4, 11]
noncomputable abbrev C33_3 : LCode := .region true 0 [
 ⟨some 12, .build [.int .i64 0, .int .i64 0, .str [], .sl true 5 [], .sl true 1 []] [], none⟩,
 ⟨some 13, .mov (.cp 0), none⟩,
 ⟨some 14, .nilc (.cp 13), none⟩,
 ⟨some 15, .faddr (.cp 14) 0, none⟩,
 ⟨some 16, .faddr (.cp 15) 4, none⟩,
 ⟨some 17, .load false none (.cp 16), none⟩,
 ⟨none, .store (some 5) (.cp 4) (.mv 12), none⟩,
 ⟨some 5, .mov (.c (.int .i64 0)), none⟩,
 ⟨some 6, .mov (.cp 17), none⟩] [(5, 6)] [4, 5, 6]
noncomputable abbrev C33_4 : LCode := .seq C33_3 .ret
noncomputable abbrev C33_5 : LCode := .cond (.cp 11) C33_4 .skip
noncomputable abbrev C33_6 : LCode := .seq C33_2 C33_5
noncomputable abbrev C33_7 : LCode := .region true 0 [
 ⟨some 18, .load false (some 5) (.cp 3), none⟩,
 ⟨some 19, .mov (.cp 0), none⟩,
 ⟨some 20, .nilc (.cp 19), none⟩,
 ⟨some 21, .faddr (.cp 20) 0, none⟩,
 ⟨some 22, .faddr (.cp 21) 1, none⟩,
 ⟨some 23, .load false none (.cp 22), none⟩,
 ⟨none, .store (some 5) (.cp 4) (.mv 18), none⟩,
 ⟨some 5, .mov (.cp 23), none⟩,
 ⟨some 6, .mov (.c (.int .i64 0)), none⟩] [(0, 5), (5, 6)] [4, 5, 6]
noncomputable abbrev C33_8 : LCode := .seq C33_7 .ret
noncomputable abbrev C33_9 : LCode := .seq C33_6 C33_8
noncomputable abbrev C33_10 : LCode := .seq C33_1 C33_9
noncomputable def L_tbin_reader_done : LF := { np := 2, res := [.cell 4 (some 5), .tmp 5, .tmp 6], keepRes := false, body := C33_10 }
noncomputable abbrev C32_1 : LCode := .region false 1 [
 ⟨some 4, .box (.mv 1), none⟩,
 ⟨some 6, .alloc 0 [.int .i64 0, .int .i64 0, .str [], .sl true 5 [], .sl true 1 []], none⟩] [] [0, 2, 4, 6]
noncomputable abbrev C32_2 : LCode := .region true 0 [
 ⟨some 13, .mov (.cp 0), none⟩,
 ⟨some 14, .nilc (.cp 13), none⟩,
 ⟨some 15, .faddr (.cp 14) 0, none⟩,
 ⟨some 16, .mov (.cp 2), none⟩,
 ⟨some 17, .mov (.cp 0), none⟩,
 ⟨some 18, .nilc (.cp 17), none⟩,
 ⟨some 19, .faddr (.cp 18) 0, none⟩,
 ⟨some 20, .faddr (.cp 19) 2, none⟩,
 ⟨some 21, .faddr (.cp 20) 0, none⟩,
 ⟨some 22, .load false none (.cp 21), none⟩,
 ⟨some 23, .bin .gtr (.cp 16) (.cp 22), none⟩,
 ⟨some 24, .call N_tbin_cursor_fails [.cp 15, .cp 23, .c (.int .i64 6)], none⟩] [] [0, 2, 4, 6]
noncomputable abbrev C32_3 : LCode := .region false 1 [
 ⟨some 25, .build [.int .i64 0, .int .i64 0, .str [], .sl true 5 [], .sl true 1 []] [(0, 1, (.c (.int .i64 12)))], none⟩,
 ⟨some 7, .alloc 0 [.int .i64 0, .int .i64 0, .str [], .sl true 5 [], .sl true 1 []], none⟩,
 ⟨none, .store (some 5) (.cp 7) (.mv 25), none⟩] [] [0, 2, 4, 6, 7]
noncomputable abbrev C32_4 : LCode := .region false 0 [
 ⟨some 8, .mov (.c (.bool false)), none⟩] [] [0, 2, 4, 6, 7, 8]
noncomputable abbrev C32_5 : LCode := .region false 0 [
 ⟨some 26, .mov (.cp 0), none⟩,
 ⟨some 27, .nilc (.cp 26), none⟩,
 ⟨some 28, .faddr (.cp 27) 0, none⟩,
 ⟨some 29, .call N_tbin_cursor_ok [.cp 28], none⟩] [] [0, 2, 4, 6, 7, 8, 29]
noncomputable abbrev C32_6 : LCode := .cond (.cp 29) .skip (.exit 0)
noncomputable abbrev C32_7 : LCode := .seq C32_5 C32_6
noncomputable abbrev C32_8 : LCode := .region false 0 [
 ⟨some 30, .mov (.cp 0), none⟩,
 ⟨some 31, .nilc (.cp 30), none⟩,
 ⟨some 32, .faddr (.cp 31) 0, none⟩,
 ⟨some 33, .call N_tbin_cursor_num [.cp 32, .c (.int .i64 1)], none⟩,
 ⟨some 34, .conv .i64 (.cp 33), none⟩,
 ⟨some 9, .mov (.cp 34), none⟩] [] [0, 2, 4, 6, 7, 8, 9]
noncomputable abbrev C32_9 : LCode := .region false 0 [
 ⟨some 35, .mov (.cp 0), none⟩,
 ⟨some 36, .nilc (.cp 35), none⟩,
 ⟨some 37, .faddr (.cp 36) 0, none⟩,
 ⟨some 38, .call N_tbin_cursor_ok [.cp 37], none⟩,
 ⟨some 39, .un .not (.cp 38), none⟩,
 ⟨some 40, .mov (.cp 39), none⟩,
 ⟨some 41, .mov (.cp 9), some (40, false)⟩,
 ⟨some 42, .bin .eql (.cp 41) (.c (.int .i64 0)), some (40, false)⟩,
 ⟨some 43, .pick (.cp 40) (.c (.bool true)) (.cp 42), none⟩] [] [0, 2, 4, 6, 7, 8, 9, 43]
noncomputable abbrev C32_10 : LCode := .cond (.cp 43) (.exit 0) .skip
noncomputable abbrev C32_11 : LCode := .seq C32_9 C32_10
noncomputable abbrev C32_12 : LCode := .region true 0 [
 ⟨some 44, .mov (.cp 0), none⟩,
 ⟨some 45, .nilc (.cp 44), none⟩,
 ⟨some 46, .faddr (.cp 45) 0, none⟩,
 ⟨some 47, .mov (.cp 9), none⟩,
 ⟨some 48, .call N_tbin_none [.cp 47], none⟩,
 ⟨some 49, .call N_tbin_cursor_fails [.cp 46, .cp 48, .c (.int .i64 2)], none⟩] [] [0, 2, 4, 6, 7, 8, 9]
noncomputable abbrev C32_13 : LCode := .region false 0 [
 ⟨some 50, .mov (.cp 0), none⟩,
 ⟨some 51, .nilc (.cp 50), none⟩,
 ⟨some 52, .faddr (.cp 51) 0, none⟩,
 ⟨some 53, .call N_tbin_cursor_num [.cp 52, .c (.int .i64 2)], none⟩,
 ⟨some 54, .conv .i16 (.cp 53), none⟩,
 ⟨some 55, .conv .i64 (.cp 54), none⟩,
 ⟨some 10, .mov (.cp 55), none⟩] [] [0, 2, 4, 6, 7, 8, 9, 10]
noncomputable abbrev C32_14 : LCode := .region false 1 [
 ⟨some 57, .load false (some 3) (.cp 4), none⟩,
 ⟨some 58, .mov (.cp 10), none⟩,
 ⟨some 59, .call N_value_Field [.cp 57, .cp 58], none⟩,
 ⟨some 56, .mov (.cp 59), none⟩,
 ⟨some 60, .ext (.cp 56) 0, none⟩,
 ⟨some 61, .ext (.cp 56) 1, none⟩,
 ⟨some 11, .alloc 0 [.int .i64 0, .int .i64 0, .str [], .str [], .bool false, .int .i64 0, .int .i64 0, .str [], .sl true 5 [], .sl true 1 []], none⟩,
 ⟨none, .store (some 10) (.cp 11) (.mv 60), none⟩,
 ⟨some 12, .mov (.cp 61), none⟩] [] [0, 2, 4, 6, 7, 8, 9, 10, 11, 12]
noncomputable abbrev C32_15 : LCode := .region false 0 [
 ⟨some 62, .mov (.cp 12), none⟩,
 ⟨some 63, .un .not (.cp 62), none⟩] [] [0, 2, 4, 6, 7, 8, 9, 10, 11, 63]
noncomputable abbrev C32_16 : LCode := .region false 0 [
 ⟨some 8, .mov (.c (.bool true)), none⟩] [] [0, 2, 4, 6, 7, 8, 9]
noncomputable abbrev C32_17 : LCode := .region false 0 [
 ⟨some 64, .mov (.cp 0), none⟩,
 ⟨some 65, .nilc (.cp 64), none⟩,
 ⟨some 66, .faddr (.cp 65) 0, none⟩,
 ⟨some 67, .mov (.cp 9), none⟩,
 ⟨some 68, .mov (.cp 2), none⟩,
 ⟨some 69, .bin .add (.cp 68) (.c (.int .i64 1)), none⟩,
 ⟨some 70, .call N_tbin_cursor_skip [.cp 66, .cp 67, .cp 69], none⟩] [] [0, 2, 4, 6, 7, 8]
noncomputable abbrev C32_18 : LCode := .seq C32_17 (.exit 1)
noncomputable abbrev C32_19 : LCode := .seq C32_16 C32_18
noncomputable abbrev C32_20 : LCode := .cond (.cp 63) C32_19 .skip
noncomputable abbrev C32_21 : LCode := .seq C32_15 C32_20
noncomputable abbrev C32_22 : LCode := .region false 0 [
 ⟨some 71, .mov (.cp 0), none⟩,
 ⟨some 72, .mov (.cp 9), none⟩,
 ⟨some 73, .faddr (.cp 11) 2, none⟩,
 ⟨some 74, .load false none (.cp 73), none⟩,
 ⟨some 75, .call N_tbin_reader_is [.cp 71, .cp 72, .cp 74], none⟩] [] [0, 2, 4, 6, 7, 8, 10, 11]
noncomputable abbrev C32_23 : LCode := .region true 0 [
 ⟨some 76, .mov (.cp 0), none⟩,
 ⟨some 77, .nilc (.cp 76), none⟩,
 ⟨some 78, .faddr (.cp 77) 0, none⟩,
 ⟨some 79, .faddr (.cp 7) 4, none⟩,
 ⟨some 80, .load false none (.cp 79), none⟩,
 ⟨some 81, .mov (.cp 10), none⟩,
 ⟨some 82, .call N_slices_Contains_int_int [.cp 80, .cp 81], none⟩,
 ⟨some 83, .call N_tbin_cursor_fails [.cp 78, .cp 82, .c (.int .i64 8)], none⟩] [] [0, 2, 4, 6, 7, 8, 10, 11]
noncomputable abbrev C32_24 : LCode := .region true 0 [
 ⟨some 84, .faddr (.cp 7) 4, none⟩,
 ⟨some 85, .load true none (.cp 84), none⟩,
 ⟨some 86, .mov (.cp 10), none⟩,
 ⟨some 87, .bslice 1 (List.replicate 1 (.int .i64 0)) [(0, (.cp 86))], none⟩,
 ⟨some 88, .append 1 8 (.mv 85) (.cp 87), none⟩,
 ⟨some 89, .faddr (.cp 7) 3, none⟩,
 ⟨some 90, .load true none (.cp 89), none⟩,
 ⟨some 91, .mov (.cp 0), none⟩,
 ⟨some 92, .faddr (.cp 11) 2, none⟩,
 ⟨some 93, .load false none (.cp 92), none⟩,
 ⟨some 94, .mov (.cp 2), none⟩,
 ⟨some 95, .bin .add (.cp 94) (.c (.int .i64 1)), none⟩,
 ⟨some 96, .call N_tbin_reader_value [.cp 91, .cp 93, .cp 95], none⟩,
 ⟨some 97, .bslice 5 (List.replicate 1 (.agg [.int .i64 0, .int .i64 0, .str [], .sl true 5 [], .sl true 1 []])) [(0, (.cp 96))], none⟩,
 ⟨some 98, .append 5 80 (.mv 90) (.cp 97), none⟩,
 ⟨some 99, .faddr (.cp 7) 4, none⟩,
 ⟨none, .store none (.cp 99) (.mv 88), none⟩,
 ⟨some 100, .faddr (.cp 7) 3, none⟩,
 ⟨none, .store none (.cp 100) (.mv 98), none⟩] [(1, 6), (1, 9), (6, 9), (6, 12)] [0, 2, 4, 6, 7, 8]
noncomputable abbrev C32_25 : LCode := .seq C32_23 C32_24
noncomputable abbrev C32_26 : LCode := .seq C32_22 C32_25
noncomputable abbrev C32_27 : LCode := .seq C32_21 C32_26
noncomputable abbrev C32_28 : LCode := .seq C32_14 C32_27
noncomputable abbrev C32_29 : LCode := .seq C32_13 C32_28
noncomputable def C32_30 : LCode := .seq C32_12 C32_29
noncomputable abbrev C32_31 : LCode := .only [0, 2, 4, 6, 7, 8, 9] C32_30
noncomputable abbrev C32_32 : LCode := .seq C32_11 C32_31
noncomputable abbrev C32_33 : LCode := .seq C32_8 C32_32
noncomputable abbrev C32_34 : LCode := .block 1 C32_33
noncomputable def C32_35 : LCode := .seq C32_7 C32_34
noncomputable abbrev C32_36 : LCode := .gc (.only [0, 2, 4, 6, 7, 8] C32_35)
noncomputable abbrev C32_37 : LCode := .only [0, 2, 4, 6, 7, 8] (.loop C32_36)
noncomputable abbrev C32_38 : LCode := .block 0 C32_37
noncomputable abbrev C32_39 : LCode := .region false 0 [
 ⟨some 101, .mov (.cp 0), none⟩,
 ⟨some 102, .load false (some 3) (.cp 4), none⟩,
 ⟨some 103, .load false (some 5) (.cp 7), none⟩,
 ⟨some 104, .mov (.cp 8), none⟩,
 ⟨some 105, .call N_tbin_reader_whole [.cp 101, .cp 102, .cp 103, .cp 104], none⟩] [] [0, 6, 7]
noncomputable abbrev C32_40 : LCode := .region false 0 [
 ⟨some 106, .mov (.cp 0), none⟩,
 ⟨some 107, .nilc (.cp 106), none⟩,
 ⟨some 108, .faddr (.cp 107) 0, none⟩,
 ⟨some 109, .call N_tbin_cursor_ok [.cp 108], none⟩,
 ⟨some 110, .un .not (.cp 109), none⟩] [] [0, 6, 7, 110]
noncomputable abbrev C32_41 : LCode := .region false 0 [
 ⟨some 111, .load false (some 5) (.cp 7), none⟩,
 ⟨none, .store (some 5) (.cp 6) (.mv 111), none⟩] [] [6]
noncomputable abbrev C32_42 : LCode := .seq C32_41 .ret
noncomputable abbrev C32_43 : LCode := .cond (.cp 110) C32_42 .skip
noncomputable abbrev C32_44 : LCode := .seq C32_40 C32_43
noncomputable abbrev C32_45 : LCode := .region false 0 [
 ⟨some 112, .mov (.cp 0), none⟩,
 ⟨some 113, .load false (some 5) (.cp 7), none⟩,
 ⟨some 114, .call N_tbin_reader_normal [.cp 112, .cp 113], none⟩,
 ⟨none, .store (some 5) (.cp 6) (.mv 114), none⟩] [] [6]
noncomputable abbrev C32_46 : LCode := .seq C32_45 .ret
noncomputable abbrev C32_47 : LCode := .seq C32_44 C32_46
noncomputable def C32_48 : LCode := .seq C32_39 C32_47
noncomputable abbrev C32_49 : LCode := .only [0, 4, 6, 7, 8] C32_48
noncomputable abbrev C32_50 : LCode := .seq (.gc C32_38) C32_49
noncomputable abbrev C32_51 : LCode := .seq C32_4 C32_50
noncomputable abbrev C32_52 : LCode := .seq C32_3 C32_51
noncomputable abbrev C32_53 : LCode := .seq C32_2 C32_52
noncomputable abbrev C32_54 : LCode := .seq C32_1 C32_53
noncomputable def L_tbin_reader_fields : LF := { np := 3, res := [.cell 6 (some 5)], keepRes := false, body := C32_54 }
noncomputable abbrev C74_1 : LCode := .region false 0 [
 ⟨some 6, .mov (.cp 0), none⟩,
 ⟨some 7, .mov (.cp 1), none⟩,
 ⟨some 8, .call N_tbin_none [.cp 7], none⟩,
 ⟨some 9, .call N_tbin_cursor_fails [.cp 6, .cp 8, .c (.int .i64 2)], none⟩] [] [0, 1, 2]
noncomputable abbrev C74_2 : LCode := .region false 0 [
 ⟨some 24, .mov (.cp 0), none⟩,
 ⟨some 25, .call N_tbin_cursor_ok [.cp 24], none⟩,
 ⟨some 26, .un .not (.cp 25), none⟩,
 ⟨some 23, .mov (.cp 26), none⟩] [] [0, 1, 2, 23]
noncomputable abbrev C74_3 : LCode := .region false 0 [
 ⟨some 28, .mov (.cp 1), none⟩,
 ⟨some 29, .call N_tbin_width [.cp 28], none⟩,
 ⟨some 30, .bin .gtr (.cp 29) (.c (.int .i64 0)), none⟩,
 ⟨some 27, .mov (.cp 30), none⟩] [] [0, 1, 2, 27]
noncomputable abbrev C74_4 : LCode := .region false 0 [
 ⟨some 31, .mov (.cp 0), none⟩,
 ⟨some 32, .mov (.cp 1), none⟩,
 ⟨some 33, .call N_tbin_width [.cp 32], none⟩,
 ⟨some 34, .call N_tbin_cursor_num [.cp 31, .cp 33], none⟩] [] []
noncomputable abbrev C74_5 : LCode := .region false 0 [
 ⟨some 36, .mov (.cp 1), none⟩,
 ⟨some 37, .bin .eql (.cp 36) (.c (.int .i64 11)), none⟩,
 ⟨some 35, .mov (.cp 37), none⟩] [] [0, 1, 2, 35]
noncomputable abbrev C74_6 : LCode := .region false 0 [
 ⟨some 38, .mov (.cp 0), none⟩,
 ⟨some 39, .mov (.cp 0), none⟩,
 ⟨some 40, .call N_tbin_cursor_count [.cp 39], none⟩,
 ⟨some 41, .call N_tbin_cursor_bytes [.cp 38, .cp 40], none⟩] [] []
noncomputable abbrev C74_7 : LCode := .region false 0 [
 ⟨some 10, .mov (.cp 0), none⟩,
 ⟨some 11, .mov (.cp 2), none⟩,
 ⟨some 12, .mov (.cp 0), none⟩,
 ⟨some 13, .nilc (.cp 12), none⟩,
 ⟨some 14, .faddr (.cp 13) 2, none⟩,
 ⟨some 15, .faddr (.cp 14) 0, none⟩,
 ⟨some 16, .load false none (.cp 15), none⟩,
 ⟨some 17, .bin .gtr (.cp 11) (.cp 16), none⟩,
 ⟨some 18, .call N_tbin_cursor_fails [.cp 10, .cp 17, .c (.int .i64 6)], none⟩] [] [0, 1, 2]
noncomputable abbrev C74_8 : LCode := .region false 0 [
 ⟨some 19, .mov (.cp 0), none⟩,
 ⟨some 20, .mov (.cp 1), none⟩,
 ⟨some 21, .mov (.cp 2), none⟩,
 ⟨some 22, .call N_tbin_cursor_skips [.cp 19, .cp 20, .cp 21], none⟩] [] []
noncomputable abbrev C74_9 : LCode := .seq C74_7 C74_8
noncomputable abbrev C74_10 : LCode := .cond (.cp 35) C74_6 C74_9
noncomputable abbrev C74_11 : LCode := .seq C74_5 C74_10
noncomputable abbrev C74_12 : LCode := .cond (.cp 27) C74_4 C74_11
noncomputable abbrev C74_13 : LCode := .seq C74_3 C74_12
noncomputable abbrev C74_14 : LCode := .cond (.cp 23) .skip C74_13
noncomputable abbrev C74_15 : LCode := .seq C74_2 C74_14
noncomputable abbrev C74_16 : LCode := .block 0 C74_15
noncomputable abbrev C74_17 : LCode := .seq C74_1 C74_16
noncomputable def L_tbin_cursor_skip : LF := { np := 3, res := [], keepRes := false, body := C74_17 }
noncomputable abbrev C75_1 : LCode := .region false 0 [
 ⟨some 2, .mov (.c (.bool false)), none⟩] [] [0]
noncomputable abbrev C75_2 : LCode := .region false 0 [
 ⟨some 3, .mov (.cp 0), none⟩,
 ⟨some 4, .nilc (.cp 3), none⟩,
 ⟨some 5, .faddr (.cp 4) 4, none⟩,
 ⟨some 6, .load false none (.cp 5), none⟩,
 ⟨some 7, .bin .eql (.cp 6) (.c (.int .i64 0)), none⟩,
 ⟨some 2, .mov (.cp 7), none⟩] [] [2]
noncomputable abbrev C75_3 : LCode := .seq C75_2 .ret
noncomputable abbrev C75_4 : LCode := .seq C75_1 C75_3
noncomputable def L_tbin_cursor_ok : LF := { np := 1, res := [.tmp 2], keepRes := false, body := C75_4 }
noncomputable abbrev C90_1 : LCode := .region false 0 [
 ⟨some 4, .mov (.c (.int .u64 0)), none⟩] [] [0, 1]
noncomputable abbrev C90_2 : LCode := .region false 0 [
 ⟨some 8, .mov (.cp 0), none⟩,
 ⟨some 9, .mov (.cp 1), none⟩,
 ⟨some 10, .conv .u64 (.cp 9), none⟩,
 ⟨some 11, .call N_tbin_cursor_bytes [.cp 8, .cp 10], none⟩,
 ⟨some 12, .mov (.cp 1), none⟩,
 ⟨some 13, .call N_octet_Take [.cp 11, .cp 12], none⟩,
 ⟨some 7, .mov (.cp 13), none⟩,
 ⟨some 14, .ext (.cp 7) 0, none⟩,
 ⟨some 15, .ext (.cp 7) 1, none⟩,
 ⟨some 5, .mov (.cp 14), none⟩,
 ⟨some 6, .mov (.cp 15), none⟩] [] [5]
noncomputable abbrev C90_3 : LCode := .region false 0 [
 ⟨some 16, .mov (.cp 5), none⟩,
 ⟨some 4, .mov (.cp 16), none⟩] [] [4]
noncomputable abbrev C90_4 : LCode := .seq C90_3 .ret
noncomputable abbrev C90_5 : LCode := .seq C90_2 C90_4
noncomputable abbrev C90_6 : LCode := .seq C90_1 C90_5
noncomputable def L_tbin_cursor_num : LF := { np := 2, res := [.tmp 4], keepRes := false, body := C90_6 }
noncomputable abbrev C89_1 : LCode := .region false 0 [
 ⟨some 6, .mov (.cp 1), none⟩,
 ⟨some 7, .mov (.cp 6), none⟩,
 ⟨some 8, .mov (.cp 0), some (7, true)⟩,
 ⟨some 9, .nilc (.cp 8), some (7, true)⟩,
 ⟨some 10, .faddr (.cp 9) 4, some (7, true)⟩,
 ⟨some 11, .load false none (.cp 10), some (7, true)⟩,
 ⟨some 12, .bin .eql (.cp 11) (.c (.int .i64 0)), some (7, true)⟩,
 ⟨some 13, .pick (.cp 7) (.cp 12) (.c (.bool false)), none⟩] [] [0, 2, 13]
noncomputable abbrev C89_2 : LCode := .region false 0 [
 ⟨some 14, .mov (.cp 0), none⟩,
 ⟨some 15, .mov (.cp 2), none⟩,
 ⟨some 16, .nilc (.cp 14), none⟩,
 ⟨some 17, .faddr (.cp 16) 4, none⟩,
 ⟨none, .store none (.cp 17) (.cp 15), none⟩] [] []
noncomputable abbrev C89_3 : LCode := .cond (.cp 13) C89_2 .skip
noncomputable abbrev C89_4 : LCode := .seq C89_1 C89_3
noncomputable def L_tbin_cursor_fails : LF := { np := 3, res := [], keepRes := false, body := C89_4 }
noncomputable abbrev C131_1 : LCode := .region false 0 [
 ⟨some 4, .mov (.c (.int .i64 0)), none⟩] [] [0, 1]
noncomputable abbrev C131_2 : LCode := .region false 0 [
 ⟨some 6, .mov (.cp 1), none⟩,
 ⟨some 7, .bin .mul (.c (.int .i64 8)) (.cp 6), none⟩,
 ⟨some 8, .bin .sub (.c (.int .i64 64)) (.cp 7), none⟩,
 ⟨some 5, .mov (.cp 8), none⟩] [] [0, 5]
noncomputable abbrev C131_3 : LCode := .region false 0 [
 ⟨some 9, .mov (.cp 0), none⟩,
 ⟨some 10, .mov (.cp 5), none⟩,
 ⟨some 11, .bin .shl (.cp 9) (.cp 10), none⟩,
 ⟨some 12, .conv .i64 (.cp 11), none⟩,
 ⟨some 13, .mov (.cp 5), none⟩,
 ⟨some 14, .bin .shr (.cp 12) (.cp 13), none⟩,
 ⟨some 4, .mov (.cp 14), none⟩] [] [4]
noncomputable abbrev C131_4 : LCode := .seq C131_3 .ret
noncomputable abbrev C131_5 : LCode := .seq C131_2 C131_4
noncomputable abbrev C131_6 : LCode := .seq C131_1 C131_5
noncomputable def L_tbin_signed : LF := { np := 2, res := [.tmp 4], keepRes := false, body := C131_6 }
noncomputable abbrev C132_1 : LCode := .region false 0 [
 ⟨some 2, .box (.cp 0), none⟩,
 ⟨some 3, .mov (.c (.bool false)), none⟩] [] [1, 2]
noncomputable abbrev C132_2 : LCode := .region false 0 [
 ⟨some 4, .faddr (.cp 2) 2, none⟩,
 ⟨some 5, .load false none (.cp 4), none⟩,
 ⟨some 6, .faddr (.cp 1) 1, none⟩,
 ⟨some 7, .load false none (.cp 6), none⟩,
 ⟨some 8, .bin .eql (.cp 5) (.cp 7), none⟩,
 ⟨some 3, .mov (.cp 8), none⟩] [] [3]
noncomputable abbrev C132_3 : LCode := .seq C132_2 .ret
noncomputable abbrev C132_4 : LCode := .seq C132_1 C132_3
noncomputable def L_tbin_reader_value_1 : LF := { np := 1, res := [.tmp 3], keepRes := false, body := C132_4 }
noncomputable abbrev C134_1 : LCode := .region false 0 [
 ⟨some 2, .mov (.c (.int .u64 0)), none⟩] [] [0]
noncomputable abbrev C134_2 : LCode := .region false 0 [
 ⟨some 4, .mov (.cp 0), none⟩,
 ⟨some 5, .call N_tbin_cursor_num [.cp 4, .c (.int .i64 4)], none⟩,
 ⟨some 3, .mov (.cp 5), none⟩] [] [0, 3]
noncomputable abbrev C134_3 : LCode := .region false 0 [
 ⟨some 6, .mov (.cp 0), none⟩,
 ⟨some 7, .mov (.cp 3), none⟩,
 ⟨some 8, .bin .gtr (.cp 7) (.c (.int .u64 2147483647)), none⟩,
 ⟨some 9, .call N_tbin_cursor_fails [.cp 6, .cp 8, .c (.int .i64 2)], none⟩] [] [0, 3]
noncomputable abbrev C134_4 : LCode := .region false 0 [
 ⟨some 10, .mov (.cp 0), none⟩,
 ⟨some 11, .call N_tbin_cursor_ok [.cp 10], none⟩,
 ⟨some 12, .un .not (.cp 11), none⟩] [] [3, 12]
noncomputable abbrev C134_5 : LCode := .region false 0 [
 ⟨some 2, .mov (.c (.int .u64 0)), none⟩] [] [2]
noncomputable abbrev C134_6 : LCode := .seq C134_5 .ret
noncomputable abbrev C134_7 : LCode := .cond (.cp 12) C134_6 .skip
noncomputable abbrev C134_8 : LCode := .seq C134_4 C134_7
noncomputable abbrev C134_9 : LCode := .region false 0 [
 ⟨some 13, .mov (.cp 3), none⟩,
 ⟨some 2, .mov (.cp 13), none⟩] [] [2]
noncomputable abbrev C134_10 : LCode := .seq C134_9 .ret
noncomputable abbrev C134_11 : LCode := .seq C134_8 C134_10
noncomputable abbrev C134_12 : LCode := .seq C134_3 C134_11
noncomputable abbrev C134_13 : LCode := .seq C134_2 C134_12
noncomputable abbrev C134_14 : LCode := .seq C134_1 C134_13
noncomputable def L_tbin_cursor_count : LF := { np := 1, res := [.tmp 2], keepRes := false, body := C134_14 }
noncomputable abbrev C133_1 : LCode := .region false 0 [
 ⟨some 4, .mov (.c (.sl true 1 [])), none⟩] [] [0, 1]
noncomputable abbrev C133_2 : LCode := .region true 0 [
 ⟨some 6, .mov (.cp 0), none⟩,
 ⟨some 7, .mov (.cp 0), none⟩,
 ⟨some 8, .nilc (.cp 7), none⟩,
 ⟨some 9, .faddr (.cp 8) 2, none⟩,
 ⟨some 10, .faddr (.cp 9) 1, none⟩,
 ⟨some 11, .load false none (.cp 10), none⟩,
 ⟨some 12, .mov (.cp 0), none⟩,
 ⟨some 13, .nilc (.cp 12), none⟩,
 ⟨some 14, .faddr (.cp 13) 1, none⟩,
 ⟨some 15, .load false none (.cp 14), none⟩,
 ⟨some 16, .bin .lss (.cp 11) (.cp 15), none⟩,
 ⟨some 17, .mov (.cp 16), none⟩,
 ⟨some 18, .mov (.cp 1), some (17, false)⟩,
 ⟨some 19, .mov (.cp 0), some (17, false)⟩,
 ⟨some 20, .nilc (.cp 19), some (17, false)⟩,
 ⟨some 21, .faddr (.cp 20) 2, some (17, false)⟩,
 ⟨some 22, .faddr (.cp 21) 1, some (17, false)⟩,
 ⟨some 23, .load false none (.cp 22), some (17, false)⟩,
 ⟨some 24, .mov (.cp 0), some (17, false)⟩,
 ⟨some 25, .nilc (.cp 24), some (17, false)⟩,
 ⟨some 26, .faddr (.cp 25) 1, some (17, false)⟩,
 ⟨some 27, .load false none (.cp 26), some (17, false)⟩,
 ⟨some 28, .bin .sub (.cp 23) (.cp 27), some (17, false)⟩,
 ⟨some 29, .max2 (.cp 28) (.c (.int .i64 0)), some (17, false)⟩,
 ⟨some 30, .conv .u64 (.cp 29), some (17, false)⟩,
 ⟨some 31, .bin .gtr (.cp 18) (.cp 30), some (17, false)⟩,
 ⟨some 32, .pick (.cp 17) (.c (.bool true)) (.cp 31), none⟩,
 ⟨some 33, .call N_tbin_cursor_fails [.cp 6, .cp 32, .c (.int .i64 4)], none⟩] [(5, 9), (17, 21)] [0, 1]
noncomputable abbrev C133_3 : LCode := .region true 0 [
 ⟨some 34, .mov (.cp 0), none⟩,
 ⟨some 35, .mov (.cp 1), none⟩,
 ⟨some 36, .mov (.cp 0), none⟩,
 ⟨some 37, .nilc (.cp 36), none⟩,
 ⟨some 38, .faddr (.cp 37) 0, none⟩,
 ⟨some 39, .load false none (.cp 38), none⟩,
 ⟨some 40, .len false (.cp 39), none⟩,
 ⟨some 41, .mov (.cp 0), none⟩,
 ⟨some 42, .nilc (.cp 41), none⟩,
 ⟨some 43, .faddr (.cp 42) 1, none⟩,
 ⟨some 44, .load false none (.cp 43), none⟩,
 ⟨some 45, .bin .sub (.cp 40) (.cp 44), none⟩,
 ⟨some 46, .conv .u64 (.cp 45), none⟩,
 ⟨some 47, .bin .gtr (.cp 35) (.cp 46), none⟩,
 ⟨some 48, .call N_tbin_cursor_fails [.cp 34, .cp 47, .c (.int .i64 3)], none⟩] [(5, 10)] [0, 1]
noncomputable abbrev C133_4 : LCode := .region false 0 [
 ⟨some 49, .mov (.cp 0), none⟩,
 ⟨some 50, .call N_tbin_cursor_ok [.cp 49], none⟩,
 ⟨some 51, .un .not (.cp 50), none⟩] [] [0, 1, 51]
noncomputable abbrev C133_5 : LCode := .region false 0 [
 ⟨some 4, .mov (.c (.sl true 1 [])), none⟩] [] [4]
noncomputable abbrev C133_6 : LCode := .seq C133_5 .ret
noncomputable abbrev C133_7 : LCode := .cond (.cp 51) C133_6 .skip
noncomputable abbrev C133_8 : LCode := .seq C133_4 C133_7
noncomputable abbrev C133_9 : LCode := .region true 0 [
 ⟨some 52, .mov (.cp 0), none⟩,
 ⟨some 53, .nilc (.cp 52), none⟩,
 ⟨some 54, .faddr (.cp 53) 0, none⟩,
 ⟨some 55, .load false none (.cp 54), none⟩,
 ⟨some 56, .mov (.cp 0), none⟩,
 ⟨some 57, .nilc (.cp 56), none⟩,
 ⟨some 58, .faddr (.cp 57) 1, none⟩,
 ⟨some 59, .load false none (.cp 58), none⟩,
 ⟨some 60, .mov (.cp 0), none⟩,
 ⟨some 61, .nilc (.cp 60), none⟩,
 ⟨some 62, .faddr (.cp 61) 1, none⟩,
 ⟨some 63, .load false none (.cp 62), none⟩,
 ⟨some 64, .mov (.cp 1), none⟩,
 ⟨some 65, .conv .i64 (.cp 64), none⟩,
 ⟨some 66, .bin .add (.cp 63) (.cp 65), none⟩,
 ⟨some 67, .slice (some 1) (.cp 55) (some (.cp 59)) (some (.cp 66)), none⟩,
 ⟨some 5, .mov (.mv 67), none⟩] [(3, 7), (3, 11), (7, 11)] [0, 1, 5]
noncomputable abbrev C133_10 : LCode := .region false 0 [
 ⟨some 68, .mov (.cp 0), none⟩,
 ⟨some 69, .nilc (.cp 68), none⟩,
 ⟨some 70, .faddr (.cp 69) 1, none⟩,
 ⟨some 71, .load false none (.cp 70), none⟩,
 ⟨some 72, .mov (.cp 1), none⟩,
 ⟨some 73, .conv .i64 (.cp 72), none⟩,
 ⟨some 74, .bin .add (.cp 71) (.cp 73), none⟩,
 ⟨some 75, .nilc (.cp 68), none⟩,
 ⟨some 76, .faddr (.cp 75) 1, none⟩,
 ⟨none, .store none (.cp 76) (.cp 74), none⟩] [] [5]
noncomputable abbrev C133_11 : LCode := .region false 0 [
 ⟨some 77, .mov (.mv 5), none⟩,
 ⟨some 4, .mov (.mv 77), none⟩] [] [4]
noncomputable abbrev C133_12 : LCode := .seq C133_11 .ret
noncomputable abbrev C133_13 : LCode := .seq C133_10 C133_12
noncomputable abbrev C133_14 : LCode := .seq C133_9 C133_13
noncomputable abbrev C133_15 : LCode := .seq C133_8 C133_14
noncomputable def C133_16 : LCode := .seq C133_3 C133_15
noncomputable abbrev C133_17 : LCode := .only [0, 1] C133_16
noncomputable abbrev C133_18 : LCode := .seq C133_2 C133_17
noncomputable abbrev C133_19 : LCode := .seq C133_1 C133_18
noncomputable def L_tbin_cursor_bytes : LF := { np := 2, res := [.tmp 4], keepRes := false, body := C133_19 }
noncomputable abbrev C135_1 : LCode := .region false 1 [
 ⟨some 10, .alloc 0 [.int .i64 0, .int .i64 0, .str [], .sl true 5 [], .sl true 1 []], none⟩] [] [0, 1, 2, 3, 4, 10]
noncomputable abbrev C135_2 : LCode := .region false 1 [
 ⟨some 15, .mov (.cp 1), none⟩,
 ⟨some 16, .build [.int .i64 0, .int .i64 0, .str [], .sl true 5 [], .sl true 1 []] [(0, 1, (.cp 15))], none⟩,
 ⟨some 11, .alloc 0 [.int .i64 0, .int .i64 0, .str [], .sl true 5 [], .sl true 1 []], none⟩,
 ⟨none, .store (some 5) (.cp 11) (.mv 16), none⟩] [] [0, 1, 2, 3, 4, 10, 11]
noncomputable abbrev C135_3 : LCode := .region false 0 [
 ⟨some 17, .mov (.cp 0), none⟩,
 ⟨some 18, .nilc (.cp 17), none⟩,
 ⟨some 19, .faddr (.cp 18) 0, none⟩,
 ⟨some 20, .call N_tbin_cursor_wire [.cp 19], none⟩,
 ⟨some 12, .mov (.cp 20), none⟩] [] [0, 1, 2, 3, 4, 10, 11, 12]
noncomputable abbrev C135_4 : LCode := .region false 0 [
 ⟨some 21, .mov (.cp 1), none⟩,
 ⟨some 22, .bin .eql (.cp 21) (.c (.int .i64 13)), none⟩] [] [0, 1, 2, 3, 4, 10, 11, 12, 22]
noncomputable abbrev C135_5 : LCode := .region false 0 [
 ⟨some 23, .mov (.cp 0), none⟩,
 ⟨some 24, .nilc (.cp 23), none⟩,
 ⟨some 25, .faddr (.cp 24) 0, none⟩,
 ⟨some 26, .call N_tbin_cursor_wire [.cp 25], none⟩,
 ⟨some 13, .mov (.cp 26), none⟩] [] [0, 1, 2, 3, 4, 10, 11, 12, 13]
noncomputable abbrev C135_6 : LCode := .region false 0 [
 ⟨some 27, .mov (.cp 0), none⟩,
 ⟨some 28, .mov (.cp 12), none⟩,
 ⟨some 29, .mov (.cp 2), none⟩,
 ⟨some 30, .call N_tbin_reader_is [.cp 27, .cp 28, .cp 29], none⟩] [] [0, 1, 2, 3, 4, 10, 11, 13]
noncomputable abbrev C135_7 : LCode := .region false 0 [
 ⟨some 31, .mov (.cp 0), none⟩,
 ⟨some 32, .mov (.cp 13), none⟩,
 ⟨some 33, .mov (.cp 3), none⟩,
 ⟨some 34, .call N_tbin_reader_is [.cp 31, .cp 32, .cp 33], none⟩] [] [0, 1, 2, 3, 4, 10, 11]
noncomputable abbrev C135_8 : LCode := .seq C135_6 C135_7
noncomputable abbrev C135_9 : LCode := .seq C135_5 C135_8
noncomputable abbrev C135_10 : LCode := .region false 0 [
 ⟨some 35, .mov (.cp 0), none⟩,
 ⟨some 36, .mov (.cp 12), none⟩,
 ⟨some 37, .mov (.cp 2), none⟩,
 ⟨some 38, .call N_tbin_reader_is [.cp 35, .cp 36, .cp 37], none⟩] [] [0, 1, 2, 3, 4, 10, 11]
noncomputable abbrev C135_11 : LCode := .cond (.cp 22) C135_9 C135_10
noncomputable abbrev C135_12 : LCode := .seq C135_4 C135_11
noncomputable abbrev C135_13 : LCode := .region false 0 [
 ⟨some 39, .mov (.cp 0), none⟩,
 ⟨some 40, .nilc (.cp 39), none⟩,
 ⟨some 41, .faddr (.cp 40) 0, none⟩,
 ⟨some 42, .call N_tbin_cursor_count [.cp 41], none⟩,
 ⟨some 14, .mov (.cp 42), none⟩] [] [0, 1, 2, 3, 4, 10, 11, 14]
noncomputable abbrev C135_14 : LCode := .region false 0 [
 ⟨some 43, .mov (.cp 14), none⟩,
 ⟨some 44, .bin .gtr (.cp 43) (.c (.int .u64 0)), none⟩,
 ⟨some 45, .mov (.cp 44), none⟩,
 ⟨some 46, .mov (.cp 0), some (45, true)⟩,
 ⟨some 47, .nilc (.cp 46), some (45, true)⟩,
 ⟨some 48, .faddr (.cp 47) 0, some (45, true)⟩,
 ⟨some 49, .call N_tbin_cursor_ok [.cp 48], some (45, true)⟩,
 ⟨some 50, .pick (.cp 45) (.cp 49) (.c (.bool false)), none⟩] [] [0, 1, 2, 3, 4, 10, 11, 14, 50]
noncomputable abbrev C135_15 : LCode := .cond (.cp 50) .skip (.exit 0)
noncomputable abbrev C135_16 : LCode := .seq C135_14 C135_15
noncomputable abbrev C135_17 : LCode := .region true 0 [
 ⟨some 53, .faddr (.cp 11) 3, none⟩,
 ⟨some 54, .load true none (.cp 53), none⟩,
 ⟨some 55, .mov (.cp 0), none⟩,
 ⟨some 56, .mov (.cp 2), none⟩,
 ⟨some 57, .mov (.cp 4), none⟩,
 ⟨some 58, .bin .add (.cp 57) (.c (.int .i64 1)), none⟩,
 ⟨some 59, .call N_tbin_reader_value [.cp 55, .cp 56, .cp 58], none⟩,
 ⟨some 60, .bslice 5 (List.replicate 1 (.agg [.int .i64 0, .int .i64 0, .str [], .sl true 5 [], .sl true 1 []])) [(0, (.cp 59))], none⟩,
 ⟨some 61, .append 5 80 (.mv 54) (.cp 60), none⟩,
 ⟨some 62, .faddr (.cp 11) 3, none⟩,
 ⟨none, .store none (.cp 62) (.mv 61), none⟩] [(1, 6)] [0, 1, 2, 3, 4, 10, 11, 14]
noncomputable abbrev C135_18 : LCode := .region false 0 [
 ⟨some 63, .mov (.cp 1), none⟩,
 ⟨some 64, .bin .eql (.cp 63) (.c (.int .i64 13)), none⟩] [] [0, 1, 2, 3, 4, 10, 11, 14, 64]
noncomputable abbrev C135_19 : LCode := .region true 0 [
 ⟨some 65, .faddr (.cp 11) 3, none⟩,
 ⟨some 66, .load true none (.cp 65), none⟩,
 ⟨some 67, .mov (.cp 0), none⟩,
 ⟨some 68, .mov (.cp 3), none⟩,
 ⟨some 69, .mov (.cp 4), none⟩,
 ⟨some 70, .bin .add (.cp 69) (.c (.int .i64 1)), none⟩,
 ⟨some 71, .call N_tbin_reader_value [.cp 67, .cp 68, .cp 70], none⟩,
 ⟨some 72, .bslice 5 (List.replicate 1 (.agg [.int .i64 0, .int .i64 0, .str [], .sl true 5 [], .sl true 1 []])) [(0, (.cp 71))], none⟩,
 ⟨some 73, .append 5 80 (.mv 66) (.cp 72), none⟩,
 ⟨some 74, .faddr (.cp 11) 3, none⟩,
 ⟨none, .store none (.cp 74) (.mv 73), none⟩] [(1, 6)] [0, 1, 2, 3, 4, 10, 11, 14]
noncomputable abbrev C135_20 : LCode := .cond (.cp 64) C135_19 .skip
noncomputable abbrev C135_21 : LCode := .seq C135_18 C135_20
noncomputable abbrev C135_22 : LCode := .seq C135_17 C135_21
noncomputable abbrev C135_23 : LCode := .block 1 C135_22
noncomputable abbrev C135_24 : LCode := .region false 0 [
 ⟨some 51, .mov (.cp 14), none⟩,
 ⟨some 52, .bin .sub (.cp 51) (.c (.int .u64 1)), none⟩,
 ⟨some 14, .mov (.cp 52), none⟩] [] [0, 1, 2, 3, 4, 10, 11, 14]
noncomputable def C135_25 : LCode := .seq C135_23 C135_24
noncomputable abbrev C135_26 : LCode := .only [0, 1, 2, 3, 4, 10, 11, 14] C135_25
noncomputable def C135_27 : LCode := .seq C135_16 C135_26
noncomputable abbrev C135_28 : LCode := .gc (.only [0, 1, 2, 3, 4, 10, 11, 14] C135_27)
noncomputable abbrev C135_29 : LCode := .only [0, 1, 2, 3, 4, 10, 11, 14] (.loop C135_28)
noncomputable abbrev C135_30 : LCode := .block 0 C135_29
noncomputable abbrev C135_31 : LCode := .seq C135_13 C135_30
noncomputable abbrev C135_32 : LCode := .region false 0 [
 ⟨some 75, .mov (.cp 0), none⟩,
 ⟨some 76, .nilc (.cp 75), none⟩,
 ⟨some 77, .faddr (.cp 76) 0, none⟩,
 ⟨some 78, .call N_tbin_cursor_ok [.cp 77], none⟩,
 ⟨some 79, .un .not (.cp 78), none⟩] [] [0, 10, 11, 79]
noncomputable abbrev C135_33 : LCode := .region false 0 [
 ⟨some 80, .load false (some 5) (.cp 11), none⟩,
 ⟨none, .store (some 5) (.cp 10) (.mv 80), none⟩] [] [10]
noncomputable abbrev C135_34 : LCode := .seq C135_33 .ret
noncomputable abbrev C135_35 : LCode := .cond (.cp 79) C135_34 .skip
noncomputable abbrev C135_36 : LCode := .seq C135_32 C135_35
noncomputable abbrev C135_37 : LCode := .region false 0 [
 ⟨some 81, .mov (.cp 0), none⟩,
 ⟨some 82, .load false (some 5) (.cp 11), none⟩,
 ⟨some 83, .call N_tbin_reader_normal [.cp 81, .cp 82], none⟩,
 ⟨none, .store (some 5) (.cp 10) (.mv 83), none⟩] [] [10]
noncomputable abbrev C135_38 : LCode := .seq C135_37 .ret
noncomputable def C135_39 : LCode := .seq C135_36 C135_38
noncomputable abbrev C135_40 : LCode := .only [0, 10, 11] C135_39
noncomputable def C135_41 : LCode := .seq C135_31 C135_40
noncomputable abbrev C135_42 : LCode := .only [0, 1, 2, 3, 4, 10, 11] C135_41
noncomputable abbrev C135_43 : LCode := .seq C135_12 C135_42
noncomputable abbrev C135_44 : LCode := .seq C135_3 C135_43
noncomputable abbrev C135_45 : LCode := .seq C135_2 C135_44
noncomputable abbrev C135_46 : LCode := .seq C135_1 C135_45
noncomputable def L_tbin_reader_parts : LF := { np := 5, res := [.cell 10 (some 5)], keepRes := false, body := C135_46 }
noncomputable abbrev C91_1 : LCode := .region false 0 [
 ⟨some 2, .mov (.c (.bool false)), none⟩] [] [0]
noncomputable abbrev C91_2 : LCode := .region false 0 [
 ⟨some 3, .bslice 1 (List.replicate 11 (.int .i64 0)) [(0, (.c (.int .i64 2))), (1, (.c (.int .i64 3))), (2, (.c (.int .i64 4))), (3, (.c (.int .i64 6))), (4, (.c (.int .i64 8))), (5, (.c (.int .i64 10))), (6, (.c (.int .i64 11))), (7, (.c (.int .i64 12))), (8, (.c (.int .i64 13))), (9, (.c (.int .i64 14))), (10, (.c (.int .i64 15)))], none⟩,
 ⟨some 4, .mov (.cp 0), none⟩,
 ⟨some 5, .call N_slices_Contains_int_int [.cp 3, .cp 4], none⟩,
 ⟨some 6, .un .not (.cp 5), none⟩,
 ⟨some 2, .mov (.cp 6), none⟩] [] [2]
noncomputable abbrev C91_3 : LCode := .seq C91_2 .ret
noncomputable abbrev C91_4 : LCode := .seq C91_1 C91_3
noncomputable def L_tbin_none : LF := { np := 1, res := [.tmp 2], keepRes := false, body := C91_4 }
noncomputable abbrev C93_1 : LCode := .region true 0 [
 ⟨some 6, .mov (.cp 0), none⟩,
 ⟨some 7, .nilc (.cp 6), none⟩,
 ⟨some 8, .faddr (.cp 7) 0, none⟩,
 ⟨some 9, .mov (.cp 1), none⟩,
 ⟨some 10, .mov (.cp 0), none⟩,
 ⟨some 11, .nilc (.cp 10), none⟩,
 ⟨some 12, .faddr (.cp 11) 5, none⟩,
 ⟨some 13, .load false (some 3) (.cp 12), none⟩,
 ⟨some 14, .mov (.cp 2), none⟩,
 ⟨some 15, .call N_value_Kind [.cp 13, .cp 14], none⟩,
 ⟨some 16, .call N_kind_Wire [.cp 15], none⟩,
 ⟨some 17, .bin .neq (.cp 9) (.cp 16), none⟩,
 ⟨some 18, .call N_tbin_cursor_fails [.cp 8, .cp 17, .c (.int .i64 10)], none⟩] [] []
noncomputable def L_tbin_reader_is : LF := { np := 3, res := [], keepRes := false, body := C93_1 }
noncomputable abbrev C95_1 : LCode := .region false 0 [
 ⟨some 5, .box (.mv 1), none⟩,
 ⟨some 6, .box (.mv 2), none⟩] [] [0, 3, 5, 6]
noncomputable abbrev C95_2 : LCode := .region false 0 [
 ⟨some 10, .faddr (.cp 5) 2, none⟩,
 ⟨some 11, .load false none (.cp 10), none⟩,
 ⟨some 12, .len false (.cp 11), none⟩,
 ⟨some 13, .mov (.c (.int .i64 0)), none⟩] [] [0, 3, 5, 6, 11, 12, 13]
noncomputable abbrev C95_3 : LCode := .region false 0 [
 ⟨some 14, .bin .lss (.cp 13) (.cp 12), none⟩] [] [0, 3, 5, 6, 11, 12, 13, 14]
noncomputable abbrev C95_4 : LCode := .cond (.cp 14) .skip (.exit 0)
noncomputable abbrev C95_5 : LCode := .region false 1 [
 ⟨some 15, .iaddr 10 none (.cp 11) (.cp 13), none⟩,
 ⟨some 16, .load false (some 10) (.cp 15), none⟩,
 ⟨some 9, .alloc 0 [.int .i64 0, .int .i64 0, .str [], .str [], .bool false, .int .i64 0, .int .i64 0, .str [], .sl true 5 [], .sl true 1 []], none⟩,
 ⟨none, .store (some 10) (.cp 9) (.mv 16), none⟩] [] [0, 3, 5, 6, 9, 11, 12, 13]
noncomputable abbrev C95_6 : LCode := .region true 0 [
 ⟨some 17, .mov (.cp 0), none⟩,
 ⟨some 18, .nilc (.cp 17), none⟩,
 ⟨some 19, .faddr (.cp 18) 0, none⟩,
 ⟨some 20, .faddr (.cp 9) 1, none⟩,
 ⟨some 21, .load false none (.cp 20), none⟩,
 ⟨some 22, .bin .eql (.cp 21) (.c (.int .i64 1)), none⟩,
 ⟨some 23, .mov (.cp 22), none⟩,
 ⟨some 24, .faddr (.cp 6) 4, some (23, true)⟩,
 ⟨some 25, .load false none (.cp 24), some (23, true)⟩,
 ⟨some 26, .faddr (.cp 9) 0, some (23, true)⟩,
 ⟨some 27, .load false none (.cp 26), some (23, true)⟩,
 ⟨some 28, .call N_slices_Contains_int_int [.cp 25, .cp 27], some (23, true)⟩,
 ⟨some 29, .un .not (.cp 28), some (23, true)⟩,
 ⟨some 30, .pick (.cp 23) (.cp 29) (.c (.bool false)), none⟩,
 ⟨some 31, .call N_tbin_cursor_fails [.cp 19, .cp 30, .c (.int .i64 14)], none⟩] [(8, 10)] [0, 3, 5, 6, 11, 12, 13]
noncomputable abbrev C95_7 : LCode := .seq C95_5 C95_6
noncomputable abbrev C95_8 : LCode := .block 1 C95_7
noncomputable abbrev C95_9 : LCode := .region false 0 [
 ⟨some 32, .bin .add (.cp 13) (.c (.int .i64 1)), none⟩,
 ⟨some 13, .mov (.cp 32), none⟩] [] [0, 3, 5, 6, 11, 12, 13]
noncomputable abbrev C95_10 : LCode := .seq C95_8 C95_9
noncomputable abbrev C95_11 : LCode := .seq C95_4 C95_10
noncomputable def C95_12 : LCode := .seq C95_3 C95_11
noncomputable abbrev C95_13 : LCode := .gc (.only [0, 3, 5, 6, 11, 12, 13] C95_12)
noncomputable abbrev C95_14 : LCode := .only [0, 3, 5, 6, 11, 12, 13] (.loop C95_13)
noncomputable abbrev C95_15 : LCode := .block 0 C95_14
noncomputable abbrev C95_16 : LCode := .seq C95_2 C95_15
noncomputable abbrev C95_17 : LCode := .region false 0 [
 ⟨some 33, .faddr (.cp 5) 0, none⟩,
 ⟨some 34, .load false none (.cp 33), none⟩,
 ⟨some 35, .bin .eql (.cp 34) (.c (.int .i64 5)), none⟩,
 ⟨some 36, .mov (.cp 35), none⟩,
 ⟨some 37, .faddr (.cp 5) 0, some (36, false)⟩,
 ⟨some 38, .load false none (.cp 37), some (36, false)⟩,
 ⟨some 39, .bin .eql (.cp 38) (.c (.int .i64 8)), some (36, false)⟩,
 ⟨some 40, .pick (.cp 36) (.c (.bool true)) (.cp 39), none⟩] [] [0, 3, 5, 6, 40]
noncomputable abbrev C95_18 : LCode := .region true 0 [
 ⟨some 41, .mov (.cp 0), none⟩,
 ⟨some 42, .nilc (.cp 41), none⟩,
 ⟨some 43, .faddr (.cp 42) 0, none⟩,
 ⟨some 44, .mov (.cp 3), none⟩,
 ⟨some 45, .mov (.cp 44), none⟩,
 ⟨some 46, .faddr (.cp 6) 4, some (45, false)⟩,
 ⟨some 47, .load false none (.cp 46), some (45, false)⟩,
 ⟨some 48, .len false (.cp 47), some (45, false)⟩,
 ⟨some 49, .bin .gtr (.cp 48) (.c (.int .i64 1)), some (45, false)⟩,
 ⟨some 50, .pick (.cp 45) (.c (.bool true)) (.cp 49), none⟩,
 ⟨some 51, .mov (.cp 50), none⟩,
 ⟨some 52, .faddr (.cp 5) 0, some (51, false)⟩,
 ⟨some 53, .load false none (.cp 52), some (51, false)⟩,
 ⟨some 54, .bin .eql (.cp 53) (.c (.int .i64 5)), some (51, false)⟩,
 ⟨some 55, .mov (.cp 54), some (51, false)⟩,
 ⟨some 56, .faddr (.cp 6) 4, some (55, true)⟩,
 ⟨some 57, .load false none (.cp 56), some (55, true)⟩,
 ⟨some 58, .len false (.cp 57), some (55, true)⟩,
 ⟨some 59, .bin .eql (.cp 58) (.c (.int .i64 0)), some (55, true)⟩,
 ⟨some 60, .pick (.cp 55) (.cp 59) (.c (.bool false)), some (51, false)⟩,
 ⟨some 61, .pick (.cp 51) (.c (.bool true)) (.cp 60), none⟩,
 ⟨some 62, .call N_tbin_cursor_fails [.cp 43, .cp 61, .c (.int .i64 14)], none⟩] [] []
noncomputable def C95_19 : LCode := .cond (.cp 40) C95_18 .skip
noncomputable abbrev C95_20 : LCode := .only [0, 3, 5, 6, 40] C95_19
noncomputable abbrev C95_21 : LCode := .seq C95_17 C95_20
noncomputable abbrev C95_22 : LCode := .seq C95_16 C95_21
noncomputable abbrev C95_23 : LCode := .seq C95_1 C95_22
noncomputable def L_tbin_reader_whole : LF := { np := 4, res := [], keepRes := false, body := C95_23 }
noncomputable abbrev C96_1 : LCode := .region false 1 [
 ⟨some 3, .box (.mv 1), none⟩,
 ⟨some 4, .alloc 0 [.int .i64 0, .int .i64 0, .str [], .sl true 5 [], .sl true 1 []], none⟩] [] [0, 3, 4]
noncomputable abbrev C96_2 : LCode := .region false 1 [
 ⟨some 8, .load false (some 5) (.cp 3), none⟩,
 ⟨some 9, .call N_order_Normal [.cp 8], none⟩,
 ⟨some 7, .mov (.cp 9), none⟩,
 ⟨some 10, .ext (.cp 7) 0, none⟩,
 ⟨some 11, .ext (.cp 7) 1, none⟩,
 ⟨some 5, .alloc 0 [.int .i64 0, .int .i64 0, .str [], .sl true 5 [], .sl true 1 []], none⟩,
 ⟨none, .store (some 5) (.cp 5) (.mv 10), none⟩,
 ⟨some 6, .mov (.cp 11), none⟩] [] [0, 3, 4, 5, 6]
noncomputable abbrev C96_3 : LCode := .region true 0 [
 ⟨some 12, .mov (.cp 0), none⟩,
 ⟨some 13, .nilc (.cp 12), none⟩,
 ⟨some 14, .faddr (.cp 13) 0, none⟩,
 ⟨some 15, .mov (.cp 6), none⟩,
 ⟨some 16, .bin .neq (.cp 15) (.c (.int .i64 0)), none⟩,
 ⟨some 17, .mov (.cp 16), none⟩,
 ⟨some 18, .faddr (.cp 3) 0, some (17, false)⟩,
 ⟨some 19, .load false none (.cp 18), some (17, false)⟩,
 ⟨some 20, .bin .eql (.cp 19) (.c (.int .i64 13)), some (17, false)⟩,
 ⟨some 21, .mov (.cp 20), some (17, false)⟩,
 ⟨some 22, .faddr (.cp 5) 3, some (21, true)⟩,
 ⟨some 23, .load false none (.cp 22), some (21, true)⟩,
 ⟨some 24, .len false (.cp 23), some (21, true)⟩,
 ⟨some 25, .faddr (.cp 3) 3, some (21, true)⟩,
 ⟨some 26, .load false none (.cp 25), some (21, true)⟩,
 ⟨some 27, .len false (.cp 26), some (21, true)⟩,
 ⟨some 28, .bin .neq (.cp 24) (.cp 27), some (21, true)⟩,
 ⟨some 29, .pick (.cp 21) (.cp 28) (.c (.bool false)), some (17, false)⟩,
 ⟨some 30, .pick (.cp 17) (.c (.bool true)) (.cp 29), none⟩,
 ⟨some 31, .call N_tbin_cursor_fails [.cp 14, .cp 30, .c (.int .i64 8)], none⟩] [(11, 14)] [4, 5]
noncomputable abbrev C96_4 : LCode := .region false 0 [
 ⟨some 32, .load false (some 5) (.cp 5), none⟩,
 ⟨none, .store (some 5) (.cp 4) (.mv 32), none⟩] [] [4]
noncomputable abbrev C96_5 : LCode := .seq C96_4 .ret
noncomputable abbrev C96_6 : LCode := .seq C96_3 C96_5
noncomputable abbrev C96_7 : LCode := .seq C96_2 C96_6
noncomputable abbrev C96_8 : LCode := .seq C96_1 C96_7
noncomputable def L_tbin_reader_normal : LF := { np := 2, res := [.cell 4 (some 5)], keepRes := false, body := C96_8 }
noncomputable abbrev C136_1 : LCode := .region false 0 [
 ⟨some 11, .mov (.cp 1), none⟩,
 ⟨some 12, .bin .eql (.cp 11) (.c (.int .i64 12)), none⟩] [] [0, 1, 2, 12]
noncomputable abbrev C136_2 : LCode := .region false 0 [
 ⟨some 13, .mov (.cp 0), none⟩,
 ⟨some 14, .call N_tbin_cursor_ok [.cp 13], none⟩] [] [0, 2, 14]
noncomputable abbrev C136_3 : LCode := .cond (.cp 14) .skip (.exit 0)
noncomputable abbrev C136_4 : LCode := .seq C136_2 C136_3
noncomputable abbrev C136_5 : LCode := .region false 0 [
 ⟨some 15, .mov (.cp 0), none⟩,
 ⟨some 16, .call N_tbin_cursor_num [.cp 15, .c (.int .i64 1)], none⟩,
 ⟨some 17, .conv .i64 (.cp 16), none⟩,
 ⟨some 6, .mov (.cp 17), none⟩] [] [0, 2, 6]
noncomputable abbrev C136_6 : LCode := .region false 0 [
 ⟨some 18, .mov (.cp 6), none⟩,
 ⟨some 19, .bin .eql (.cp 18) (.c (.int .i64 0)), none⟩] [] [0, 2, 6, 19]
noncomputable abbrev C136_7 : LCode := .cond (.cp 19) .ret .skip
noncomputable abbrev C136_8 : LCode := .seq C136_6 C136_7
noncomputable abbrev C136_9 : LCode := .region false 0 [
 ⟨some 20, .mov (.cp 0), none⟩,
 ⟨some 21, .mov (.cp 6), none⟩,
 ⟨some 22, .call N_tbin_none [.cp 21], none⟩,
 ⟨some 23, .call N_tbin_cursor_fails [.cp 20, .cp 22, .c (.int .i64 2)], none⟩] [] [0, 2, 6]
noncomputable abbrev C136_10 : LCode := .region false 0 [
 ⟨some 24, .mov (.cp 0), none⟩,
 ⟨some 25, .call N_tbin_cursor_num [.cp 24, .c (.int .i64 2)], none⟩] [] [0, 2, 6]
noncomputable abbrev C136_11 : LCode := .region false 0 [
 ⟨some 26, .mov (.cp 0), none⟩,
 ⟨some 27, .mov (.cp 6), none⟩,
 ⟨some 28, .mov (.cp 2), none⟩,
 ⟨some 29, .bin .add (.cp 28) (.c (.int .i64 1)), none⟩,
 ⟨some 30, .call N_tbin_cursor_skip [.cp 26, .cp 27, .cp 29], none⟩] [] [0, 2]
noncomputable abbrev C136_12 : LCode := .seq C136_10 C136_11
noncomputable abbrev C136_13 : LCode := .seq C136_9 C136_12
noncomputable abbrev C136_14 : LCode := .seq C136_8 C136_13
noncomputable abbrev C136_15 : LCode := .seq C136_5 C136_14
noncomputable abbrev C136_16 : LCode := .block 1 C136_15
noncomputable def C136_17 : LCode := .seq C136_4 C136_16
noncomputable abbrev C136_18 : LCode := .gc (.only [0, 2] C136_17)
noncomputable abbrev C136_19 : LCode := .only [0, 2] (.loop C136_18)
noncomputable abbrev C136_20 : LCode := .block 0 C136_19
noncomputable abbrev C136_21 : LCode := .seq C136_20 .ret
noncomputable abbrev C136_22 : LCode := .cond (.cp 12) C136_21 .skip
noncomputable abbrev C136_23 : LCode := .seq C136_1 C136_22
noncomputable abbrev C136_24 : LCode := .region false 0 [
 ⟨some 31, .mov (.cp 0), none⟩,
 ⟨some 32, .call N_tbin_cursor_wire [.cp 31], none⟩,
 ⟨some 33, .bslice 1 (List.replicate 1 (.int .i64 0)) [(0, (.cp 32))], none⟩,
 ⟨some 7, .mov (.mv 33), none⟩] [] [0, 1, 2, 7]
noncomputable abbrev C136_25 : LCode := .region false 0 [
 ⟨some 34, .mov (.cp 1), none⟩,
 ⟨some 35, .bin .eql (.cp 34) (.c (.int .i64 13)), none⟩] [] [0, 2, 7, 35]
noncomputable abbrev C136_26 : LCode := .region false 0 [
 ⟨some 36, .mov (.mv 7), none⟩,
 ⟨some 37, .mov (.cp 0), none⟩,
 ⟨some 38, .call N_tbin_cursor_wire [.cp 37], none⟩,
 ⟨some 39, .bslice 1 (List.replicate 1 (.int .i64 0)) [(0, (.cp 38))], none⟩,
 ⟨some 40, .append 1 8 (.mv 36) (.cp 39), none⟩,
 ⟨some 7, .mov (.mv 40), none⟩] [] [0, 2, 7]
noncomputable abbrev C136_27 : LCode := .cond (.cp 35) C136_26 .skip
noncomputable abbrev C136_28 : LCode := .seq C136_25 C136_27
noncomputable abbrev C136_29 : LCode := .region false 0 [
 ⟨some 41, .mov (.cp 0), none⟩,
 ⟨some 42, .call N_tbin_cursor_count [.cp 41], none⟩,
 ⟨some 8, .mov (.cp 42), none⟩] [] [0, 2, 7, 8]
noncomputable abbrev C136_30 : LCode := .region false 0 [
 ⟨some 43, .mov (.cp 8), none⟩,
 ⟨some 44, .bin .gtr (.cp 43) (.c (.int .u64 0)), none⟩,
 ⟨some 45, .mov (.cp 44), none⟩,
 ⟨some 46, .mov (.cp 0), some (45, true)⟩,
 ⟨some 47, .call N_tbin_cursor_ok [.cp 46], some (45, true)⟩,
 ⟨some 48, .pick (.cp 45) (.cp 47) (.c (.bool false)), none⟩] [] [0, 2, 7, 8, 48]
noncomputable abbrev C136_31 : LCode := .cond (.cp 48) .skip (.exit 2)
noncomputable abbrev C136_32 : LCode := .seq C136_30 C136_31
noncomputable abbrev C136_33 : LCode := .region false 0 [
 ⟨some 51, .mov (.cp 7), none⟩,
 ⟨some 52, .len false (.cp 51), none⟩,
 ⟨some 53, .mov (.c (.int .i64 0)), none⟩] [] [0, 2, 7, 8, 51, 52, 53]
noncomputable abbrev C136_34 : LCode := .region false 0 [
 ⟨some 54, .bin .lss (.cp 53) (.cp 52), none⟩] [] [0, 2, 7, 8, 51, 52, 53, 54]
noncomputable abbrev C136_35 : LCode := .cond (.cp 54) .skip (.exit 4)
noncomputable abbrev C136_36 : LCode := .region false 0 [
 ⟨some 55, .iaddr 1 none (.cp 51) (.cp 53), none⟩,
 ⟨some 56, .load false none (.cp 55), none⟩,
 ⟨some 10, .mov (.cp 56), none⟩] [] [0, 2, 7, 8, 10, 51, 52, 53]
noncomputable abbrev C136_37 : LCode := .region false 0 [
 ⟨some 57, .mov (.cp 0), none⟩,
 ⟨some 58, .mov (.cp 10), none⟩,
 ⟨some 59, .mov (.cp 2), none⟩,
 ⟨some 60, .bin .add (.cp 59) (.c (.int .i64 1)), none⟩,
 ⟨some 61, .call N_tbin_cursor_skip [.cp 57, .cp 58, .cp 60], none⟩] [] [0, 2, 7, 8, 51, 52, 53]
noncomputable abbrev C136_38 : LCode := .seq C136_36 C136_37
noncomputable abbrev C136_39 : LCode := .block 5 C136_38
noncomputable abbrev C136_40 : LCode := .region false 0 [
 ⟨some 62, .bin .add (.cp 53) (.c (.int .i64 1)), none⟩,
 ⟨some 53, .mov (.cp 62), none⟩] [] [0, 2, 7, 8, 51, 52, 53]
noncomputable abbrev C136_41 : LCode := .seq C136_39 C136_40
noncomputable abbrev C136_42 : LCode := .seq C136_35 C136_41
noncomputable def C136_43 : LCode := .seq C136_34 C136_42
noncomputable abbrev C136_44 : LCode := .gc (.only [0, 2, 7, 8, 51, 52, 53] C136_43)
noncomputable abbrev C136_45 : LCode := .only [0, 2, 7, 8, 51, 52, 53] (.loop C136_44)
noncomputable abbrev C136_46 : LCode := .block 4 C136_45
noncomputable abbrev C136_47 : LCode := .seq C136_33 C136_46
noncomputable abbrev C136_48 : LCode := .block 3 C136_47
noncomputable abbrev C136_49 : LCode := .region false 0 [
 ⟨some 49, .mov (.cp 8), none⟩,
 ⟨some 50, .bin .sub (.cp 49) (.c (.int .u64 1)), none⟩,
 ⟨some 8, .mov (.cp 50), none⟩] [] [0, 2, 7, 8]
noncomputable def C136_50 : LCode := .seq C136_48 C136_49
noncomputable abbrev C136_51 : LCode := .only [0, 2, 7, 8] C136_50
noncomputable def C136_52 : LCode := .seq C136_32 C136_51
noncomputable abbrev C136_53 : LCode := .gc (.only [0, 2, 7, 8] C136_52)
noncomputable abbrev C136_54 : LCode := .only [0, 2, 7, 8] (.loop C136_53)
noncomputable abbrev C136_55 : LCode := .block 2 C136_54
noncomputable def C136_56 : LCode := .seq C136_29 C136_55
noncomputable abbrev C136_57 : LCode := .only [0, 2, 7] C136_56
noncomputable abbrev C136_58 : LCode := .seq C136_28 C136_57
noncomputable abbrev C136_59 : LCode := .seq C136_24 C136_58
noncomputable abbrev C136_60 : LCode := .seq C136_23 C136_59
noncomputable def L_tbin_cursor_skips : LF := { np := 3, res := [], keepRes := false, body := C136_60 }
noncomputable abbrev C142_1 : LCode := .region false 0 [
 ⟨some 4, .mov (.c (.int .u64 0)), none⟩,
 ⟨some 5, .mov (.c (.int .i64 0)), none⟩] [] [0, 1, 4]
noncomputable abbrev C142_2 : LCode := .region false 0 [
 ⟨some 7, .mov (.cp 1), none⟩,
 ⟨some 8, .bin .lss (.cp 7) (.c (.int .i64 0)), none⟩,
 ⟨some 9, .mov (.cp 8), none⟩,
 ⟨some 10, .mov (.cp 1), some (9, false)⟩,
 ⟨some 11, .bin .gtr (.cp 10) (.c (.int .i64 8)), some (9, false)⟩,
 ⟨some 12, .pick (.cp 9) (.c (.bool true)) (.cp 11), none⟩] [] [0, 1, 4, 12]
noncomputable abbrev C142_3 : LCode := .region false 0 [
 ⟨some 4, .mov (.c (.int .u64 0)), none⟩,
 ⟨some 5, .mov (.c (.int .i64 1)), none⟩] [] [4, 5]
noncomputable abbrev C142_4 : LCode := .seq C142_3 .ret
noncomputable abbrev C142_5 : LCode := .cond (.cp 12) C142_4 .skip
noncomputable abbrev C142_6 : LCode := .seq C142_2 C142_5
noncomputable abbrev C142_7 : LCode := .region false 0 [
 ⟨some 13, .mov (.cp 1), none⟩,
 ⟨some 14, .mov (.cp 0), none⟩,
 ⟨some 15, .len false (.cp 14), none⟩,
 ⟨some 16, .bin .gtr (.cp 13) (.cp 15), none⟩] [] [0, 1, 4, 16]
noncomputable abbrev C142_8 : LCode := .region false 0 [
 ⟨some 4, .mov (.c (.int .u64 0)), none⟩,
 ⟨some 5, .mov (.c (.int .i64 3)), none⟩] [] [4, 5]
noncomputable abbrev C142_9 : LCode := .seq C142_8 .ret
noncomputable abbrev C142_10 : LCode := .cond (.cp 16) C142_9 .skip
noncomputable abbrev C142_11 : LCode := .seq C142_7 C142_10
noncomputable abbrev C142_12 : LCode := .region false 0 [
 ⟨some 17, .mov (.cp 1), none⟩,
 ⟨some 18, .bin .sub (.cp 17) (.c (.int .i64 1)), none⟩,
 ⟨some 19, .bin .mul (.c (.int .i64 8)) (.cp 18), none⟩,
 ⟨some 6, .mov (.cp 19), none⟩] [] [0, 1, 4, 6]
noncomputable abbrev C142_13 : LCode := .region false 0 [
 ⟨some 20, .mov (.cp 6), none⟩,
 ⟨some 21, .bin .geq (.cp 20) (.c (.int .i64 0)), none⟩] [] [0, 1, 4, 6, 21]
noncomputable abbrev C142_14 : LCode := .cond (.cp 21) .skip (.exit 0)
noncomputable abbrev C142_15 : LCode := .seq C142_13 C142_14
noncomputable abbrev C142_16 : LCode := .region false 0 [
 ⟨some 24, .mov (.cp 4), none⟩,
 ⟨some 25, .mov (.cp 0), none⟩,
 ⟨some 26, .mov (.cp 1), none⟩,
 ⟨some 27, .bin .sub (.cp 26) (.c (.int .i64 1)), none⟩,
 ⟨some 28, .mov (.cp 6), none⟩,
 ⟨some 29, .bin .quo (.cp 28) (.c (.int .i64 8)), none⟩,
 ⟨some 30, .bin .sub (.cp 27) (.cp 29), none⟩,
 ⟨some 31, .iaddr 1 none (.cp 25) (.cp 30), none⟩,
 ⟨some 32, .load false none (.cp 31), none⟩,
 ⟨some 33, .conv .u64 (.cp 32), none⟩,
 ⟨some 34, .mov (.cp 6), none⟩,
 ⟨some 35, .bin .shl (.cp 33) (.cp 34), none⟩,
 ⟨some 36, .bin .or (.cp 24) (.cp 35), none⟩,
 ⟨some 4, .mov (.cp 36), none⟩] [] [0, 1, 4, 6]
noncomputable abbrev C142_17 : LCode := .block 1 C142_16
noncomputable abbrev C142_18 : LCode := .region false 0 [
 ⟨some 22, .mov (.cp 6), none⟩,
 ⟨some 23, .bin .sub (.cp 22) (.c (.int .i64 8)), none⟩,
 ⟨some 6, .mov (.cp 23), none⟩] [] [0, 1, 4, 6]
noncomputable abbrev C142_19 : LCode := .seq C142_17 C142_18
noncomputable def C142_20 : LCode := .seq C142_15 C142_19
noncomputable abbrev C142_21 : LCode := .gc (.only [0, 1, 4, 6] C142_20)
noncomputable abbrev C142_22 : LCode := .only [0, 1, 4, 6] (.loop C142_21)
noncomputable abbrev C142_23 : LCode := .block 0 C142_22
noncomputable abbrev C142_24 : LCode := .seq C142_12 C142_23
noncomputable abbrev C142_25 : LCode := .region false 0 [
 ⟨some 37, .mov (.cp 4), none⟩,
 ⟨some 4, .mov (.cp 37), none⟩,
 ⟨some 5, .mov (.c (.int .i64 0)), none⟩] [] [4, 5]
noncomputable abbrev C142_26 : LCode := .seq C142_25 .ret
noncomputable abbrev C142_27 : LCode := .seq C142_24 C142_26
noncomputable def C142_28 : LCode := .seq C142_11 C142_27
noncomputable abbrev C142_29 : LCode := .only [0, 1, 4] C142_28
noncomputable abbrev C142_30 : LCode := .seq C142_6 C142_29
noncomputable abbrev C142_31 : LCode := .seq C142_1 C142_30
noncomputable def L_octet_Take : LF := { np := 2, res := [.tmp 4, .tmp 5], keepRes := false, body := C142_31 }
noncomputable abbrev C183_1 : LCode := .region false 0 [
 ⟨some 2, .mov (.c (.int .i64 0)), none⟩] [] [0]
noncomputable abbrev C183_2 : LCode := .region false 0 [
 ⟨some 4, .mov (.cp 0), none⟩,
 ⟨some 5, .call N_tbin_cursor_num [.cp 4, .c (.int .i64 1)], none⟩,
 ⟨some 6, .conv .i64 (.cp 5), none⟩,
 ⟨some 3, .mov (.cp 6), none⟩] [] [0, 3]
noncomputable abbrev C183_3 : LCode := .region false 0 [
 ⟨some 7, .mov (.cp 0), none⟩,
 ⟨some 8, .mov (.cp 3), none⟩,
 ⟨some 9, .call N_tbin_none [.cp 8], none⟩,
 ⟨some 10, .call N_tbin_cursor_fails [.cp 7, .cp 9, .c (.int .i64 2)], none⟩] [] [3]
noncomputable abbrev C183_4 : LCode := .region false 0 [
 ⟨some 11, .mov (.cp 3), none⟩,
 ⟨some 2, .mov (.cp 11), none⟩] [] [2]
noncomputable abbrev C183_5 : LCode := .seq C183_4 .ret
noncomputable abbrev C183_6 : LCode := .seq C183_3 C183_5
noncomputable abbrev C183_7 : LCode := .seq C183_2 C183_6
noncomputable abbrev C183_8 : LCode := .seq C183_1 C183_7
noncomputable def L_tbin_cursor_wire : LF := { np := 1, res := [.tmp 2], keepRes := false, body := C183_8 }
noncomputable abbrev C146_1 : LCode := .region false 1 [
 ⟨some 1, .box (.mv 0), none⟩,
 ⟨some 2, .alloc 0 [.int .i64 0, .int .i64 0, .str [], .sl true 5 [], .sl true 1 []], none⟩,
 ⟨some 3, .mov (.c (.int .i64 0)), none⟩] [] [1, 2]
noncomputable abbrev C146_2 : LCode := .region false 0 [
 ⟨some 4, .load false (some 5) (.cp 1), none⟩,
 ⟨some 5, .call N_order_within [.cp 4], none⟩,
 ⟨some 6, .ext (.cp 5) 0, none⟩,
 ⟨some 7, .ext (.cp 5) 1, none⟩,
 ⟨none, .store (some 5) (.cp 2) (.mv 6), none⟩,
 ⟨some 3, .mov (.cp 7), none⟩] [] [2, 3]
noncomputable abbrev C146_3 : LCode := .seq C146_2 .ret
noncomputable abbrev C146_4 : LCode := .seq C146_1 C146_3
noncomputable def L_order_Normal : LF := { np := 1, res := [.cell 2 (some 5), .tmp 3], keepRes := false, body := C146_4 }
noncomputable abbrev C190_1 : LCode := .region false 1 [
 ⟨some 1, .box (.mv 0), none⟩,
 ⟨some 2, .alloc 0 [.int .i64 0, .int .i64 0, .str [], .sl true 5 [], .sl true 1 []], none⟩,
 ⟨some 3, .mov (.c (.int .i64 0)), none⟩] [] [1, 2]
noncomputable abbrev C190_2 : LCode := .region false 0 [
 ⟨some 11, .faddr (.cp 1) 0, none⟩,
 ⟨some 12, .load false none (.cp 11), none⟩,
 ⟨some 13, .call N_order_holds [.cp 12], none⟩,
 ⟨some 14, .un .not (.cp 13), none⟩] [] [1, 2, 14]
noncomputable abbrev C190_3 : LCode := .region false 0 [
 ⟨some 15, .load false (some 5) (.cp 1), none⟩,
 ⟨some 16, .call N_order_Copy [.cp 15], none⟩,
 ⟨none, .store (some 5) (.cp 2) (.mv 16), none⟩,
 ⟨some 3, .mov (.c (.int .i64 0)), none⟩] [] [2, 3]
noncomputable abbrev C190_4 : LCode := .seq C190_3 .ret
noncomputable abbrev C190_5 : LCode := .cond (.cp 14) C190_4 .skip
noncomputable abbrev C190_6 : LCode := .seq C190_2 C190_5
noncomputable abbrev C190_7 : LCode := .region true 1 [
 ⟨some 17, .faddr (.cp 1) 0, none⟩,
 ⟨some 18, .load false none (.cp 17), none⟩,
 ⟨some 19, .faddr (.cp 1) 1, none⟩,
 ⟨some 20, .load false none (.cp 19), none⟩,
 ⟨some 21, .faddr (.cp 1) 2, none⟩,
 ⟨some 22, .load false none (.cp 21), none⟩,
 ⟨some 23, .faddr (.cp 1) 4, none⟩,
 ⟨some 24, .load false none (.cp 23), none⟩,
 ⟨some 25, .call N_slices_Clone_int_int [.cp 24], none⟩,
 ⟨some 26, .build [.int .i64 0, .int .i64 0, .str [], .sl true 5 [], .sl true 1 []] [(0, 1, (.cp 18)), (1, 1, (.cp 20)), (2, 1, (.cp 22)), (4, 1, (.mv 25))], none⟩,
 ⟨some 4, .alloc 0 [.int .i64 0, .int .i64 0, .str [], .sl true 5 [], .sl true 1 []], none⟩,
 ⟨none, .store (some 5) (.cp 4) (.mv 26), none⟩] [(1, 3), (1, 5), (3, 5), (1, 7), (3, 7), (5, 7), (1, 8), (3, 8), (5, 8), (1, 10), (3, 10), (5, 10), (7, 10), (8, 10)] [1, 2, 4]
noncomputable abbrev C190_8 : LCode := .region false 0 [
 ⟨some 27, .faddr (.cp 1) 3, none⟩,
 ⟨some 28, .load false none (.cp 27), none⟩,
 ⟨some 29, .len false (.cp 28), none⟩,
 ⟨some 30, .mov (.c (.int .i64 0)), none⟩] [] [1, 2, 4, 28, 29, 30]
noncomputable abbrev C190_9 : LCode := .region false 0 [
 ⟨some 31, .bin .lss (.cp 30) (.cp 29), none⟩] [] [1, 2, 4, 28, 29, 30, 31]
noncomputable abbrev C190_10 : LCode := .cond (.cp 31) .skip (.exit 0)
noncomputable abbrev C190_11 : LCode := .region false 1 [
 ⟨some 32, .iaddr 5 none (.cp 28) (.cp 30), none⟩,
 ⟨some 33, .load false (some 5) (.cp 32), none⟩,
 ⟨some 6, .alloc 0 [.int .i64 0, .int .i64 0, .str [], .sl true 5 [], .sl true 1 []], none⟩,
 ⟨none, .store (some 5) (.cp 6) (.mv 33), none⟩] [] [1, 2, 4, 6, 28, 29, 30]
noncomputable abbrev C190_12 : LCode := .region false 1 [
 ⟨some 35, .load false (some 5) (.cp 6), none⟩,
 ⟨some 36, .call N_order_within [.cp 35], none⟩,
 ⟨some 34, .mov (.cp 36), none⟩,
 ⟨some 37, .ext (.cp 34) 0, none⟩,
 ⟨some 38, .ext (.cp 34) 1, none⟩,
 ⟨some 7, .alloc 0 [.int .i64 0, .int .i64 0, .str [], .sl true 5 [], .sl true 1 []], none⟩,
 ⟨none, .store (some 5) (.cp 7) (.mv 37), none⟩,
 ⟨some 8, .mov (.cp 38), none⟩] [] [1, 2, 4, 7, 8, 28, 29, 30]
noncomputable abbrev C190_13 : LCode := .region false 0 [
 ⟨some 39, .mov (.cp 8), none⟩,
 ⟨some 40, .bin .neq (.cp 39) (.c (.int .i64 0)), none⟩] [] [1, 2, 4, 7, 8, 28, 29, 30, 40]
noncomputable abbrev C190_14 : LCode := .region false 0 [
 ⟨some 41, .build [.int .i64 0, .int .i64 0, .str [], .sl true 5 [], .sl true 1 []] [], none⟩,
 ⟨some 42, .mov (.cp 8), none⟩,
 ⟨none, .store (some 5) (.cp 2) (.mv 41), none⟩,
 ⟨some 3, .mov (.cp 42), none⟩] [] [2, 3]
noncomputable abbrev C190_15 : LCode := .seq C190_14 .ret
noncomputable abbrev C190_16 : LCode := .cond (.cp 40) C190_15 .skip
noncomputable abbrev C190_17 : LCode := .seq C190_13 C190_16
noncomputable abbrev C190_18 : LCode := .region false 0 [
 ⟨some 43, .faddr (.cp 4) 3, none⟩,
 ⟨some 44, .load true none (.cp 43), none⟩,
 ⟨some 45, .load false (some 5) (.cp 7), none⟩,
 ⟨some 46, .bslice 5 (List.replicate 1 (.agg [.int .i64 0, .int .i64 0, .str [], .sl true 5 [], .sl true 1 []])) [(0, (.cp 45))], none⟩,
 ⟨some 47, .append 5 80 (.mv 44) (.cp 46), none⟩,
 ⟨some 48, .faddr (.cp 4) 3, none⟩,
 ⟨none, .store none (.cp 48) (.mv 47), none⟩] [] [1, 2, 4, 28, 29, 30]
noncomputable abbrev C190_19 : LCode := .seq C190_17 C190_18
noncomputable abbrev C190_20 : LCode := .seq C190_12 C190_19
noncomputable abbrev C190_21 : LCode := .seq C190_11 C190_20
noncomputable abbrev C190_22 : LCode := .block 1 C190_21
noncomputable abbrev C190_23 : LCode := .region false 0 [
 ⟨some 49, .bin .add (.cp 30) (.c (.int .i64 1)), none⟩,
 ⟨some 30, .mov (.cp 49), none⟩] [] [1, 2, 4, 28, 29, 30]
noncomputable abbrev C190_24 : LCode := .seq C190_22 C190_23
noncomputable abbrev C190_25 : LCode := .seq C190_10 C190_24
noncomputable def C190_26 : LCode := .seq C190_9 C190_25
noncomputable abbrev C190_27 : LCode := .gc (.only [1, 2, 4, 28, 29, 30] C190_26)
noncomputable abbrev C190_28 : LCode := .only [1, 2, 4, 28, 29, 30] (.loop C190_27)
noncomputable abbrev C190_29 : LCode := .block 0 C190_28
noncomputable abbrev C190_30 : LCode := .seq C190_8 C190_29
noncomputable abbrev C190_31 : LCode := .region false 0 [
 ⟨some 50, .faddr (.cp 1) 0, none⟩,
 ⟨some 51, .load false none (.cp 50), none⟩] [] [2, 4, 51]
noncomputable abbrev C190_32 : LCode := .region false 0 [
 ⟨some 53, .bin .eql (.cp 51) (.c (.int .i64 14)), none⟩,
 ⟨some 52, .mov (.cp 53), none⟩] [] [2, 4, 51, 52]
noncomputable abbrev C190_33 : LCode := .region false 0 [
 ⟨some 54, .faddr (.cp 4) 3, none⟩,
 ⟨some 55, .load false none (.cp 54), none⟩,
 ⟨some 56, .call N_slices_SortStableFunc_api_Value_api_Value [.cp 55, .c (.fn N_order_Cmp [])], none⟩] [] [2, 4]
noncomputable abbrev C190_34 : LCode := .region false 0 [
 ⟨some 57, .faddr (.cp 4) 3, none⟩,
 ⟨some 58, .load false none (.cp 57), none⟩,
 ⟨some 59, .call N_slices_CompactFunc_api_Value_api_Value [.cp 58, .c (.fn N_order_within_1 [])], none⟩,
 ⟨some 60, .faddr (.cp 4) 3, none⟩,
 ⟨none, .store none (.cp 60) (.mv 59), none⟩] [] [2, 4]
noncomputable abbrev C190_35 : LCode := .seq C190_33 C190_34
noncomputable abbrev C190_36 : LCode := .region false 0 [
 ⟨some 62, .bin .eql (.cp 51) (.c (.int .i64 13)), none⟩,
 ⟨some 61, .mov (.cp 62), none⟩] [] [2, 4, 51, 61]
noncomputable abbrev C190_37 : LCode := .region false 0 [
 ⟨some 64, .faddr (.cp 4) 3, none⟩,
 ⟨some 65, .load false none (.cp 64), none⟩,
 ⟨some 66, .call N_order_mapped [.cp 65], none⟩,
 ⟨some 63, .mov (.cp 66), none⟩,
 ⟨some 67, .ext (.cp 63) 0, none⟩,
 ⟨some 68, .ext (.cp 63) 1, none⟩,
 ⟨some 9, .mov (.mv 67), none⟩,
 ⟨some 10, .mov (.cp 68), none⟩] [] [2, 4, 9, 10]
noncomputable abbrev C190_38 : LCode := .region false 0 [
 ⟨some 69, .mov (.cp 10), none⟩,
 ⟨some 70, .bin .neq (.cp 69) (.c (.int .i64 0)), none⟩] [] [2, 4, 9, 10, 70]
noncomputable abbrev C190_39 : LCode := .region false 0 [
 ⟨some 71, .build [.int .i64 0, .int .i64 0, .str [], .sl true 5 [], .sl true 1 []] [], none⟩,
 ⟨some 72, .mov (.cp 10), none⟩,
 ⟨none, .store (some 5) (.cp 2) (.mv 71), none⟩,
 ⟨some 3, .mov (.cp 72), none⟩] [] [2, 3]
noncomputable abbrev C190_40 : LCode := .seq C190_39 .ret
noncomputable abbrev C190_41 : LCode := .cond (.cp 70) C190_40 .skip
noncomputable abbrev C190_42 : LCode := .seq C190_38 C190_41
noncomputable abbrev C190_43 : LCode := .region false 0 [
 ⟨some 73, .mov (.mv 9), none⟩,
 ⟨some 74, .faddr (.cp 4) 3, none⟩,
 ⟨none, .store none (.cp 74) (.mv 73), none⟩] [] [2, 4]
noncomputable abbrev C190_44 : LCode := .seq C190_42 C190_43
noncomputable abbrev C190_45 : LCode := .seq C190_37 C190_44
noncomputable abbrev C190_46 : LCode := .region false 0 [
 ⟨some 76, .bin .eql (.cp 51) (.c (.int .i64 12)), none⟩,
 ⟨some 75, .mov (.cp 76), none⟩] [] [2, 4, 75]
noncomputable abbrev C190_47 : LCode := .region false 0 [
 ⟨some 77, .load false (some 5) (.cp 4), none⟩,
 ⟨some 78, .call N_order_fields [.cp 77], none⟩,
 ⟨some 79, .ext (.cp 78) 0, none⟩,
 ⟨some 80, .ext (.cp 78) 1, none⟩,
 ⟨none, .store (some 5) (.cp 2) (.mv 79), none⟩,
 ⟨some 3, .mov (.cp 80), none⟩] [] [2, 3]
noncomputable abbrev C190_48 : LCode := .seq C190_47 .ret
noncomputable abbrev C190_49 : LCode := .cond (.cp 75) C190_48 .skip
noncomputable abbrev C190_50 : LCode := .seq C190_46 C190_49
noncomputable abbrev C190_51 : LCode := .cond (.cp 61) C190_45 C190_50
noncomputable abbrev C190_52 : LCode := .seq C190_36 C190_51
noncomputable abbrev C190_53 : LCode := .cond (.cp 52) C190_35 C190_52
noncomputable abbrev C190_54 : LCode := .seq C190_32 C190_53
noncomputable abbrev C190_55 : LCode := .block 2 C190_54
noncomputable abbrev C190_56 : LCode := .seq C190_31 C190_55
noncomputable abbrev C190_57 : LCode := .region false 0 [
 ⟨some 81, .load false (some 5) (.cp 4), none⟩,
 ⟨none, .store (some 5) (.cp 2) (.mv 81), none⟩,
 ⟨some 3, .mov (.c (.int .i64 0)), none⟩] [] [2, 3]
noncomputable abbrev C190_58 : LCode := .seq C190_57 .ret
noncomputable abbrev C190_59 : LCode := .seq C190_56 C190_58
noncomputable abbrev C190_60 : LCode := .seq C190_30 C190_59
noncomputable abbrev C190_61 : LCode := .seq C190_7 C190_60
noncomputable abbrev C190_62 : LCode := .seq C190_6 C190_61
noncomputable abbrev C190_63 : LCode := .seq C190_1 C190_62
noncomputable def L_order_within : LF := { np := 1, res := [.cell 2 (some 5), .tmp 3], keepRes := false, body := C190_63 }
noncomputable abbrev C206_1 : LCode := .region false 0 [
 ⟨some 6, .mov (.c (.int .i64 0)), none⟩] [] [0, 1, 2]
noncomputable abbrev C206_2 : LCode := .region false 0 [
 ⟨some 11, .mov (.cp 0), none⟩,
 ⟨some 12, .len false (.cp 11), none⟩,
 ⟨some 13, .mov (.c (.int .i64 0)), none⟩] [] [0, 1, 2, 11, 12, 13]
noncomputable abbrev C206_3 : LCode := .region false 0 [
 ⟨some 14, .bin .lss (.cp 13) (.cp 12), none⟩] [] [0, 1, 2, 11, 12, 13, 14]
noncomputable abbrev C206_4 : LCode := .cond (.cp 14) .skip (.exit 0)
noncomputable abbrev C206_5 : LCode := .region false 1 [
 ⟨some 15, .mov (.cp 13), none⟩,
 ⟨some 16, .iaddr 5 none (.cp 11) (.cp 13), none⟩,
 ⟨some 17, .load false (some 5) (.cp 16), none⟩,
 ⟨some 8, .alloc 0 [.int .i64 0, .int .i64 0, .str [], .sl true 5 [], .sl true 1 []], none⟩,
 ⟨some 7, .mov (.cp 15), none⟩,
 ⟨none, .store (some 5) (.cp 8) (.mv 17), none⟩] [] [0, 1, 2, 7, 8, 11, 12, 13]
noncomputable abbrev C206_6 : LCode := .region false 0 [
 ⟨some 18, .mov (.cp 7), none⟩,
 ⟨some 19, .mov (.cp 1), none⟩,
 ⟨some 20, .len false (.cp 19), none⟩,
 ⟨some 21, .bin .geq (.cp 18) (.cp 20), none⟩] [] [0, 1, 2, 7, 8, 11, 12, 13, 21]
noncomputable abbrev C206_7 : LCode := .region false 0 [
 ⟨some 6, .mov (.c (.int .i64 1)), none⟩] [] [6]
noncomputable abbrev C206_8 : LCode := .seq C206_7 .ret
noncomputable abbrev C206_9 : LCode := .cond (.cp 21) C206_8 .skip
noncomputable abbrev C206_10 : LCode := .seq C206_6 C206_9
noncomputable abbrev C206_11 : LCode := .region false 1 [
 ⟨some 22, .mov (.cp 1), none⟩,
 ⟨some 23, .mov (.cp 7), none⟩,
 ⟨some 24, .iaddr 5 none (.cp 22) (.cp 23), none⟩,
 ⟨some 25, .load false (some 5) (.cp 24), none⟩,
 ⟨some 9, .alloc 0 [.int .i64 0, .int .i64 0, .str [], .sl true 5 [], .sl true 1 []], none⟩,
 ⟨none, .store (some 5) (.cp 9) (.mv 25), none⟩] [] [0, 1, 2, 8, 9, 11, 12, 13]
noncomputable abbrev C206_12 : LCode := .region false 0 [
 ⟨some 26, .mov (.cp 2), none⟩,
 ⟨some 27, .load false (some 5) (.cp 8), none⟩,
 ⟨some 28, .load false (some 5) (.cp 9), none⟩,
 ⟨some 29, .callv (.cp 26) [.cp 27, .cp 28], none⟩,
 ⟨some 10, .mov (.cp 29), none⟩] [] [0, 1, 2, 10, 11, 12, 13]
noncomputable abbrev C206_13 : LCode := .region false 0 [
 ⟨some 30, .mov (.cp 10), none⟩,
 ⟨some 31, .bin .neq (.cp 30) (.c (.int .i64 0)), none⟩] [] [0, 1, 2, 10, 11, 12, 13, 31]
noncomputable abbrev C206_14 : LCode := .region false 0 [
 ⟨some 32, .mov (.cp 10), none⟩,
 ⟨some 6, .mov (.cp 32), none⟩] [] [6]
noncomputable abbrev C206_15 : LCode := .seq C206_14 .ret
noncomputable abbrev C206_16 : LCode := .cond (.cp 31) C206_15 .skip
noncomputable abbrev C206_17 : LCode := .seq C206_13 C206_16
noncomputable abbrev C206_18 : LCode := .seq C206_12 C206_17
noncomputable abbrev C206_19 : LCode := .seq C206_11 C206_18
noncomputable abbrev C206_20 : LCode := .seq C206_10 C206_19
noncomputable abbrev C206_21 : LCode := .seq C206_5 C206_20
noncomputable abbrev C206_22 : LCode := .block 1 C206_21
noncomputable abbrev C206_23 : LCode := .region false 0 [
 ⟨some 33, .bin .add (.cp 13) (.c (.int .i64 1)), none⟩,
 ⟨some 13, .mov (.cp 33), none⟩] [] [0, 1, 2, 11, 12, 13]
noncomputable abbrev C206_24 : LCode := .seq C206_22 C206_23
noncomputable abbrev C206_25 : LCode := .seq C206_4 C206_24
noncomputable def C206_26 : LCode := .seq C206_3 C206_25
noncomputable abbrev C206_27 : LCode := .gc (.only [0, 1, 2, 11, 12, 13] C206_26)
noncomputable abbrev C206_28 : LCode := .only [0, 1, 2, 11, 12, 13] (.loop C206_27)
noncomputable abbrev C206_29 : LCode := .block 0 C206_28
noncomputable abbrev C206_30 : LCode := .seq C206_2 C206_29
noncomputable abbrev C206_31 : LCode := .region false 0 [
 ⟨some 34, .mov (.mv 0), none⟩,
 ⟨some 35, .len false (.cp 34), none⟩,
 ⟨some 36, .mov (.mv 1), none⟩,
 ⟨some 37, .len false (.cp 36), none⟩,
 ⟨some 38, .bin .lss (.cp 35) (.cp 37), none⟩] [] [38]
noncomputable abbrev C206_32 : LCode := .region false 0 [
 ⟨some 6, .mov (.c (.int .i64 (-1))), none⟩] [] [6]
noncomputable abbrev C206_33 : LCode := .seq C206_32 .ret
noncomputable abbrev C206_34 : LCode := .cond (.cp 38) C206_33 .skip
noncomputable abbrev C206_35 : LCode := .seq C206_31 C206_34
noncomputable abbrev C206_36 : LCode := .region false 0 [
 ⟨some 6, .mov (.c (.int .i64 0)), none⟩] [] [6]
noncomputable abbrev C206_37 : LCode := .seq C206_36 .ret
noncomputable abbrev C206_38 : LCode := .seq C206_35 C206_37
noncomputable abbrev C206_39 : LCode := .seq C206_30 C206_38
noncomputable abbrev C206_40 : LCode := .seq C206_1 C206_39
noncomputable def L_slices_CompareFunc_api_Value_api_Value_api_Value_api_Value : LF := { np := 3, res := [.tmp 6], keepRes := false, body := C206_40 }
noncomputable abbrev C207_1 : LCode := .region false 0 [
 ⟨some 2, .mov (.c (.bool false)), none⟩] [] [0]
noncomputable abbrev C207_2 : LCode := .region false 0 [
 ⟨some 3, .mov (.cp 0), none⟩,
 ⟨some 4, .bin .eql (.cp 3) (.c (.int .i64 15)), none⟩,
 ⟨some 5, .mov (.cp 4), none⟩,
 ⟨some 6, .mov (.cp 0), some (5, false)⟩,
 ⟨some 7, .bin .eql (.cp 6) (.c (.int .i64 14)), some (5, false)⟩,
 ⟨some 8, .pick (.cp 5) (.c (.bool true)) (.cp 7), none⟩,
 ⟨some 9, .mov (.cp 8), none⟩,
 ⟨some 10, .mov (.cp 0), some (9, false)⟩,
 ⟨some 11, .bin .eql (.cp 10) (.c (.int .i64 13)), some (9, false)⟩,
 ⟨some 12, .pick (.cp 9) (.c (.bool true)) (.cp 11), none⟩,
 ⟨some 13, .mov (.cp 12), none⟩,
 ⟨some 14, .mov (.cp 0), some (13, false)⟩,
 ⟨some 15, .bin .eql (.cp 14) (.c (.int .i64 12)), some (13, false)⟩,
 ⟨some 16, .pick (.cp 13) (.c (.bool true)) (.cp 15), none⟩,
 ⟨some 2, .mov (.cp 16), none⟩] [] [2]
noncomputable abbrev C207_3 : LCode := .seq C207_2 .ret
noncomputable abbrev C207_4 : LCode := .seq C207_1 C207_3
noncomputable def L_order_holds : LF := { np := 1, res := [.tmp 2], keepRes := false, body := C207_4 }
noncomputable abbrev C208_1 : LCode := .region false 1 [
 ⟨some 1, .box (.mv 0), none⟩,
 ⟨some 2, .alloc 0 [.int .i64 0, .int .i64 0, .str [], .sl true 5 [], .sl true 1 []], none⟩] [] [1, 2]
noncomputable abbrev C208_2 : LCode := .region false 0 [
 ⟨some 6, .faddr (.cp 1) 4, none⟩,
 ⟨some 7, .load false none (.cp 6), none⟩,
 ⟨some 8, .call N_slices_Clone_int_int [.cp 7], none⟩,
 ⟨some 9, .faddr (.cp 1) 4, none⟩,
 ⟨none, .store none (.cp 9) (.mv 8), none⟩] [] [1, 2]
noncomputable abbrev C208_3 : LCode := .region false 0 [
 ⟨some 10, .faddr (.cp 1) 3, none⟩,
 ⟨some 11, .load false none (.cp 10), none⟩,
 ⟨some 3, .mov (.mv 11), none⟩] [] [1, 2, 3]
noncomputable abbrev C208_4 : LCode := .region false 0 [
 ⟨some 12, .faddr (.cp 1) 3, none⟩,
 ⟨none, .store none (.cp 12) (.c (.sl true 5 [])), none⟩] [] [1, 2, 3]
noncomputable abbrev C208_5 : LCode := .region false 0 [
 ⟨some 13, .mov (.mv 3), none⟩,
 ⟨some 14, .len false (.cp 13), none⟩,
 ⟨some 15, .mov (.c (.int .i64 0)), none⟩] [] [1, 2, 13, 14, 15]
noncomputable abbrev C208_6 : LCode := .region false 0 [
 ⟨some 16, .bin .lss (.cp 15) (.cp 14), none⟩] [] [1, 2, 13, 14, 15, 16]
noncomputable abbrev C208_7 : LCode := .cond (.cp 16) .skip (.exit 0)
noncomputable abbrev C208_8 : LCode := .region false 1 [
 ⟨some 17, .iaddr 5 none (.cp 13) (.cp 15), none⟩,
 ⟨some 18, .load false (some 5) (.cp 17), none⟩,
 ⟨some 5, .alloc 0 [.int .i64 0, .int .i64 0, .str [], .sl true 5 [], .sl true 1 []], none⟩,
 ⟨none, .store (some 5) (.cp 5) (.mv 18), none⟩] [] [1, 2, 5, 13, 14, 15]
noncomputable abbrev C208_9 : LCode := .region true 0 [
 ⟨some 19, .faddr (.cp 1) 3, none⟩,
 ⟨some 20, .load true none (.cp 19), none⟩,
 ⟨some 21, .load false (some 5) (.cp 5), none⟩,
 ⟨some 22, .call N_order_Copy [.cp 21], none⟩,
 ⟨some 23, .bslice 5 (List.replicate 1 (.agg [.int .i64 0, .int .i64 0, .str [], .sl true 5 [], .sl true 1 []])) [(0, (.cp 22))], none⟩,
 ⟨some 24, .append 5 80 (.mv 20) (.cp 23), none⟩,
 ⟨some 25, .faddr (.cp 1) 3, none⟩,
 ⟨none, .store none (.cp 25) (.mv 24), none⟩] [(1, 2), (1, 3)] [1, 2, 13, 14, 15]
noncomputable abbrev C208_10 : LCode := .seq C208_8 C208_9
noncomputable abbrev C208_11 : LCode := .block 1 C208_10
noncomputable abbrev C208_12 : LCode := .region false 0 [
 ⟨some 26, .bin .add (.cp 15) (.c (.int .i64 1)), none⟩,
 ⟨some 15, .mov (.cp 26), none⟩] [] [1, 2, 13, 14, 15]
noncomputable abbrev C208_13 : LCode := .seq C208_11 C208_12
noncomputable abbrev C208_14 : LCode := .seq C208_7 C208_13
noncomputable def C208_15 : LCode := .seq C208_6 C208_14
noncomputable abbrev C208_16 : LCode := .gc (.only [1, 2, 13, 14, 15] C208_15)
noncomputable abbrev C208_17 : LCode := .only [1, 2, 13, 14, 15] (.loop C208_16)
noncomputable abbrev C208_18 : LCode := .block 0 C208_17
noncomputable abbrev C208_19 : LCode := .seq C208_5 C208_18
noncomputable abbrev C208_20 : LCode := .region false 0 [
 ⟨some 27, .load false (some 5) (.cp 1), none⟩,
 ⟨none, .store (some 5) (.cp 2) (.mv 27), none⟩] [] [2]
noncomputable abbrev C208_21 : LCode := .seq C208_20 .ret
noncomputable abbrev C208_22 : LCode := .seq C208_19 C208_21
noncomputable abbrev C208_23 : LCode := .seq C208_4 C208_22
noncomputable abbrev C208_24 : LCode := .seq C208_3 C208_23
noncomputable abbrev C208_25 : LCode := .seq C208_2 C208_24
noncomputable abbrev C208_26 : LCode := .seq C208_1 C208_25
noncomputable def L_order_Copy : LF := { np := 1, res := [.cell 2 (some 5)], keepRes := false, body := C208_26 }
noncomputable abbrev C211_1 : LCode := .region false 0 [
 ⟨some 2, .box (.mv 0), none⟩,
 ⟨some 3, .box (.mv 1), none⟩,
 ⟨some 4, .mov (.c (.bool false)), none⟩] [] [2, 3]
noncomputable abbrev C211_2 : LCode := .region false 0 [
 ⟨some 5, .load false (some 5) (.cp 2), none⟩,
 ⟨some 6, .load false (some 5) (.cp 3), none⟩,
 ⟨some 7, .call N_order_Cmp [.cp 5, .cp 6], none⟩,
 ⟨some 8, .bin .eql (.cp 7) (.c (.int .i64 0)), none⟩,
 ⟨some 4, .mov (.cp 8), none⟩] [] [4]
noncomputable abbrev C211_3 : LCode := .seq C211_2 .ret
noncomputable abbrev C211_4 : LCode := .seq C211_1 C211_3
noncomputable def L_order_within_1 : LF := { np := 2, res := [.tmp 4], keepRes := false, body := C211_4 }
noncomputable abbrev C213_1 : LCode := .region false 1 [
 ⟨some 1, .box (.mv 0), none⟩,
 ⟨some 2, .alloc 0 [.int .i64 0, .int .i64 0, .str [], .sl true 5 [], .sl true 1 []], none⟩,
 ⟨some 3, .mov (.c (.int .i64 0)), none⟩] [] [1, 2]
noncomputable abbrev C213_2 : LCode := .region false 0 [
 ⟨some 9, .faddr (.cp 1) 4, none⟩,
 ⟨some 10, .load false none (.cp 9), none⟩,
 ⟨some 11, .len false (.cp 10), none⟩,
 ⟨some 12, .faddr (.cp 1) 3, none⟩,
 ⟨some 13, .load false none (.cp 12), none⟩,
 ⟨some 14, .len false (.cp 13), none⟩,
 ⟨some 15, .bin .neq (.cp 11) (.cp 14), none⟩] [] [1, 2, 15]
noncomputable abbrev C213_3 : LCode := .region false 0 [
 ⟨some 16, .build [.int .i64 0, .int .i64 0, .str [], .sl true 5 [], .sl true 1 []] [], none⟩,
 ⟨none, .store (some 5) (.cp 2) (.mv 16), none⟩,
 ⟨some 3, .mov (.c (.int .i64 1)), none⟩] [] [2, 3]
noncomputable abbrev C213_4 : LCode := .seq C213_3 .ret
noncomputable abbrev C213_5 : LCode := .cond (.cp 15) C213_4 .skip
noncomputable abbrev C213_6 : LCode := .seq C213_2 C213_5
noncomputable abbrev C213_7 : LCode := .region false 0 [
 ⟨some 17, .faddr (.cp 1) 4, none⟩,
 ⟨some 18, .load false none (.cp 17), none⟩,
 ⟨some 19, .len false (.cp 18), none⟩,
 ⟨some 20, .mkslice none 8 [.int .i64 0] (.cp 19) (.cp 19), none⟩,
 ⟨some 4, .mov (.mv 20), none⟩] [] [1, 2, 4]
noncomputable abbrev C213_8 : LCode := .region false 0 [
 ⟨some 21, .mov (.cp 4), none⟩,
 ⟨some 22, .len false (.cp 21), none⟩,
 ⟨some 23, .mov (.c (.int .i64 0)), none⟩] [] [1, 2, 4, 22, 23]
noncomputable abbrev C213_9 : LCode := .region false 0 [
 ⟨some 24, .bin .lss (.cp 23) (.cp 22), none⟩] [] [1, 2, 4, 22, 23, 24]
noncomputable abbrev C213_10 : LCode := .cond (.cp 24) .skip (.exit 0)
noncomputable abbrev C213_11 : LCode := .region false 0 [
 ⟨some 25, .mov (.cp 23), none⟩,
 ⟨some 5, .mov (.cp 25), none⟩] [] [1, 2, 4, 5, 22, 23]
noncomputable abbrev C213_12 : LCode := .region false 0 [
 ⟨some 26, .mov (.cp 4), none⟩,
 ⟨some 27, .mov (.cp 5), none⟩,
 ⟨some 28, .mov (.cp 5), none⟩,
 ⟨some 29, .iaddr 1 none (.cp 26) (.cp 27), none⟩,
 ⟨none, .store none (.cp 29) (.cp 28), none⟩] [] [1, 2, 4, 22, 23]
noncomputable abbrev C213_13 : LCode := .seq C213_11 C213_12
noncomputable abbrev C213_14 : LCode := .block 1 C213_13
noncomputable abbrev C213_15 : LCode := .region false 0 [
 ⟨some 30, .bin .add (.cp 23) (.c (.int .i64 1)), none⟩,
 ⟨some 23, .mov (.cp 30), none⟩] [] [1, 2, 4, 22, 23]
noncomputable abbrev C213_16 : LCode := .seq C213_14 C213_15
noncomputable abbrev C213_17 : LCode := .seq C213_10 C213_16
noncomputable def C213_18 : LCode := .seq C213_9 C213_17
noncomputable abbrev C213_19 : LCode := .gc (.only [1, 2, 4, 22, 23] C213_18)
noncomputable abbrev C213_20 : LCode := .only [1, 2, 4, 22, 23] (.loop C213_19)
noncomputable abbrev C213_21 : LCode := .block 0 C213_20
noncomputable abbrev C213_22 : LCode := .seq C213_8 C213_21
noncomputable abbrev C213_23 : LCode := .region false 0 [
 ⟨some 31, .mov (.cp 4), none⟩,
 ⟨some 32, .mkfn N_order_fields_1 [.cp 1], none⟩,
 ⟨some 33, .call N_slices_SortStableFunc_int_int [.cp 31, .cp 32], none⟩] [] [1, 2, 4]
noncomputable abbrev C213_24 : LCode := .region false 1 [
 ⟨some 34, .faddr (.cp 1) 0, none⟩,
 ⟨some 35, .load false none (.cp 34), none⟩,
 ⟨some 36, .faddr (.cp 1) 1, none⟩,
 ⟨some 37, .load false none (.cp 36), none⟩,
 ⟨some 38, .faddr (.cp 1) 2, none⟩,
 ⟨some 39, .load false none (.cp 38), none⟩,
 ⟨some 40, .build [.int .i64 0, .int .i64 0, .str [], .sl true 5 [], .sl true 1 []] [(0, 1, (.cp 35)), (1, 1, (.cp 37)), (2, 1, (.cp 39))], none⟩,
 ⟨some 6, .alloc 0 [.int .i64 0, .int .i64 0, .str [], .sl true 5 [], .sl true 1 []], none⟩,
 ⟨none, .store (some 5) (.cp 6) (.mv 40), none⟩] [] [1, 2, 4, 6]
noncomputable abbrev C213_25 : LCode := .region false 0 [
 ⟨some 41, .mov (.cp 4), none⟩,
 ⟨some 42, .len false (.cp 41), none⟩,
 ⟨some 43, .mov (.c (.int .i64 0)), none⟩] [] [1, 2, 4, 6, 41, 42, 43]
noncomputable abbrev C213_26 : LCode := .region false 0 [
 ⟨some 44, .bin .lss (.cp 43) (.cp 42), none⟩] [] [1, 2, 4, 6, 41, 42, 43, 44]
noncomputable abbrev C213_27 : LCode := .cond (.cp 44) .skip (.exit 2)
noncomputable abbrev C213_28 : LCode := .region false 0 [
 ⟨some 45, .mov (.cp 43), none⟩,
 ⟨some 46, .iaddr 1 none (.cp 41) (.cp 43), none⟩,
 ⟨some 47, .load false none (.cp 46), none⟩,
 ⟨some 7, .mov (.cp 45), none⟩,
 ⟨some 8, .mov (.cp 47), none⟩] [] [1, 2, 4, 6, 7, 8, 41, 42, 43]
noncomputable abbrev C213_29 : LCode := .region true 0 [
 ⟨some 48, .mov (.cp 7), none⟩,
 ⟨some 49, .bin .gtr (.cp 48) (.c (.int .i64 0)), none⟩,
 ⟨some 50, .mov (.cp 49), none⟩,
 ⟨some 51, .faddr (.cp 1) 4, some (50, true)⟩,
 ⟨some 52, .load false none (.cp 51), some (50, true)⟩,
 ⟨some 53, .mov (.cp 4), some (50, true)⟩,
 ⟨some 54, .mov (.cp 7), some (50, true)⟩,
 ⟨some 55, .bin .sub (.cp 54) (.c (.int .i64 1)), some (50, true)⟩,
 ⟨some 56, .iaddr 1 none (.cp 53) (.cp 55), some (50, true)⟩,
 ⟨some 57, .load false none (.cp 56), some (50, true)⟩,
 ⟨some 58, .iaddr 1 none (.cp 52) (.cp 57), some (50, true)⟩,
 ⟨some 59, .load false none (.cp 58), some (50, true)⟩,
 ⟨some 60, .faddr (.cp 1) 4, some (50, true)⟩,
 ⟨some 61, .load false none (.cp 60), some (50, true)⟩,
 ⟨some 62, .mov (.cp 8), some (50, true)⟩,
 ⟨some 63, .iaddr 1 none (.cp 61) (.cp 62), some (50, true)⟩,
 ⟨some 64, .load false none (.cp 63), some (50, true)⟩,
 ⟨some 65, .bin .eql (.cp 59) (.cp 64), some (50, true)⟩,
 ⟨some 66, .pick (.cp 50) (.cp 65) (.c (.bool false)), none⟩] [(4, 9), (4, 13), (9, 13), (11, 13), (4, 16), (9, 16), (11, 16)] [1, 2, 4, 6, 8, 41, 42, 43, 66]
noncomputable abbrev C213_30 : LCode := .region false 0 [
 ⟨some 67, .build [.int .i64 0, .int .i64 0, .str [], .sl true 5 [], .sl true 1 []] [], none⟩,
 ⟨none, .store (some 5) (.cp 2) (.mv 67), none⟩,
 ⟨some 3, .mov (.c (.int .i64 8)), none⟩] [] [2, 3]
noncomputable abbrev C213_31 : LCode := .seq C213_30 .ret
noncomputable abbrev C213_32 : LCode := .cond (.cp 66) C213_31 .skip
noncomputable abbrev C213_33 : LCode := .seq C213_29 C213_32
noncomputable def C213_34 : LCode := .region true 0 [
 ⟨some 68, .faddr (.cp 6) 4, none⟩,
 ⟨some 69, .load true none (.cp 68), none⟩,
 ⟨some 70, .faddr (.cp 1) 4, none⟩,
 ⟨some 71, .load false none (.cp 70), none⟩,
 ⟨some 72, .mov (.cp 8), none⟩,
 ⟨some 73, .iaddr 1 none (.cp 71) (.cp 72), none⟩,
 ⟨some 74, .load false none (.cp 73), none⟩,
 ⟨some 75, .bslice 1 (List.replicate 1 (.int .i64 0)) [(0, (.cp 74))], none⟩,
 ⟨some 76, .append 1 8 (.mv 69) (.cp 75), none⟩,
 ⟨some 77, .faddr (.cp 6) 3, none⟩,
 ⟨some 78, .load true none (.cp 77), none⟩,
 ⟨some 79, .faddr (.cp 1) 3, none⟩,
 ⟨some 80, .load false none (.cp 79), none⟩,
 ⟨some 81, .mov (.cp 8), none⟩,
 ⟨some 82, .iaddr 5 none (.cp 80) (.cp 81), none⟩,
 ⟨some 83, .load false (some 5) (.cp 82), none⟩,
 ⟨some 84, .bslice 5 (List.replicate 1 (.agg [.int .i64 0, .int .i64 0, .str [], .sl true 5 [], .sl true 1 []])) [(0, (.cp 83))], none⟩,
 ⟨some 85, .append 5 80 (.mv 78) (.cp 84), none⟩,
 ⟨some 86, .faddr (.cp 6) 4, none⟩,
 ⟨none, .store none (.cp 86) (.mv 76), none⟩,
 ⟨some 87, .faddr (.cp 6) 3, none⟩,
 ⟨none, .store none (.cp 87) (.mv 85), none⟩] [(1, 3), (1, 6), (1, 10), (3, 10), (6, 10), (1, 12), (3, 12), (6, 12), (10, 12), (1, 15), (3, 15), (6, 15), (10, 15)] [1, 2, 4, 6, 41, 42, 43]
noncomputable abbrev C213_35 : LCode := .only [1, 2, 4, 6, 8, 41, 42, 43] C213_34
noncomputable abbrev C213_36 : LCode := .seq C213_33 C213_35
noncomputable abbrev C213_37 : LCode := .seq C213_28 C213_36
noncomputable abbrev C213_38 : LCode := .block 3 C213_37
noncomputable abbrev C213_39 : LCode := .region false 0 [
 ⟨some 88, .bin .add (.cp 43) (.c (.int .i64 1)), none⟩,
 ⟨some 43, .mov (.cp 88), none⟩] [] [1, 2, 4, 6, 41, 42, 43]
noncomputable abbrev C213_40 : LCode := .seq C213_38 C213_39
noncomputable abbrev C213_41 : LCode := .seq C213_27 C213_40
noncomputable def C213_42 : LCode := .seq C213_26 C213_41
noncomputable abbrev C213_43 : LCode := .gc (.only [1, 2, 4, 6, 41, 42, 43] C213_42)
noncomputable abbrev C213_44 : LCode := .only [1, 2, 4, 6, 41, 42, 43] (.loop C213_43)
noncomputable abbrev C213_45 : LCode := .block 2 C213_44
noncomputable abbrev C213_46 : LCode := .seq C213_25 C213_45
noncomputable abbrev C213_47 : LCode := .region false 0 [
 ⟨some 89, .load false (some 5) (.cp 6), none⟩,
 ⟨none, .store (some 5) (.cp 2) (.mv 89), none⟩,
 ⟨some 3, .mov (.c (.int .i64 0)), none⟩] [] [2, 3]
noncomputable abbrev C213_48 : LCode := .seq C213_47 .ret
noncomputable abbrev C213_49 : LCode := .seq C213_46 C213_48
noncomputable abbrev C213_50 : LCode := .seq C213_24 C213_49
noncomputable abbrev C213_51 : LCode := .seq C213_23 C213_50
noncomputable abbrev C213_52 : LCode := .seq C213_22 C213_51
noncomputable abbrev C213_53 : LCode := .seq C213_7 C213_52
noncomputable abbrev C213_54 : LCode := .seq C213_6 C213_53
noncomputable abbrev C213_55 : LCode := .seq C213_1 C213_54
noncomputable def L_order_fields : LF := { np := 1, res := [.cell 2 (some 5), .tmp 3], keepRes := false, body := C213_55 }
noncomputable abbrev C221_1 : LCode := .region false 0 [
 ⟨some 5, .mov (.c (.int .i64 0)), none⟩] [] [0, 1, 2]
noncomputable abbrev C221_2 : LCode := .region true 0 [
 ⟨some 6, .faddr (.cp 2) 4, none⟩,
 ⟨some 7, .load false none (.cp 6), none⟩,
 ⟨some 8, .mov (.cp 0), none⟩,
 ⟨some 9, .iaddr 1 none (.cp 7) (.cp 8), none⟩,
 ⟨some 10, .load false none (.cp 9), none⟩,
 ⟨some 11, .faddr (.cp 2) 4, none⟩,
 ⟨some 12, .load false none (.cp 11), none⟩,
 ⟨some 13, .mov (.cp 1), none⟩,
 ⟨some 14, .iaddr 1 none (.cp 12) (.cp 13), none⟩,
 ⟨some 15, .load false none (.cp 14), none⟩,
 ⟨some 16, .call N_cmp_Compare_int [.cp 10, .cp 15], none⟩,
 ⟨some 5, .mov (.cp 16), none⟩] [(1, 6), (4, 6), (1, 9), (4, 9)] [5]
noncomputable abbrev C221_3 : LCode := .seq C221_2 .ret
noncomputable abbrev C221_4 : LCode := .seq C221_1 C221_3
noncomputable def L_order_fields_1 : LF := { np := 2, res := [.tmp 5], keepRes := false, body := C221_4 }
end Go.Proofs.YtfihinodhhhllaaGreat

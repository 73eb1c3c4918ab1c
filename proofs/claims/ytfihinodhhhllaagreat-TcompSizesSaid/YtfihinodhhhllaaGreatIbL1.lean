/- The small code of the functions; printed by lift.py. -/
import Derived.Test.YtfihinodhhhllaaGreatIbL0
set_option linter.unusedVariables false
set_option linter.unusedSimpArgs false
namespace Go.Proofs.YtfihinodhhhllaaGreat
open Go
noncomputable abbrev C163_1 : LCode := .region false 0 [
 ⟨some 4, .mov (.c (.int .i64 0)), none⟩] [] [0, 1]
noncomputable abbrev C163_2 : LCode := .region false 0 [
 ⟨some 5, .mov (.cp 0), none⟩,
 ⟨some 6, .nilc (.cp 5), none⟩,
 ⟨some 7, .faddr (.cp 6) 0, none⟩,
 ⟨some 8, .load false (some 3) (.cp 7), none⟩,
 ⟨some 9, .mov (.cp 1), none⟩,
 ⟨some 10, .call N_value_Kind [.cp 8, .cp 9], none⟩,
 ⟨some 11, .call N_tcomp_Short [.cp 10], none⟩,
 ⟨some 4, .mov (.cp 11), none⟩] [] [4]
noncomputable abbrev C163_3 : LCode := .seq C163_2 .ret
noncomputable abbrev C163_4 : LCode := .seq C163_1 C163_3
noncomputable def L_tcomp_writer_short : LF := { np := 2, res := [.tmp 4], keepRes := false, body := C163_4 }
noncomputable abbrev C108_1 : LCode := .region false 0 [
 ⟨some 8, .mov (.cp 2), none⟩,
 ⟨some 9, .len false (.cp 8), none⟩,
 ⟨some 10, .bin .lss (.cp 9) (.c (.int .i64 15)), none⟩] [] [0, 1, 2, 10]
noncomputable abbrev C108_2 : LCode := .region false 0 [
 ⟨some 11, .mov (.cp 0), none⟩,
 ⟨some 12, .mov (.cp 2), none⟩,
 ⟨some 13, .len false (.cp 12), none⟩,
 ⟨some 14, .bin .shl (.cp 13) (.c (.int .u64 4)), none⟩,
 ⟨some 15, .mov (.cp 0), none⟩,
 ⟨some 16, .mov (.cp 1), none⟩,
 ⟨some 17, .call N_tcomp_writer_short [.cp 15, .cp 16], none⟩,
 ⟨some 18, .bin .or (.cp 14) (.cp 17), none⟩,
 ⟨some 19, .call N_tcomp_writer_byte [.cp 11, .cp 18], none⟩] [] [0, 1, 2]
noncomputable abbrev C108_3 : LCode := .region false 0 [
 ⟨some 20, .mov (.cp 0), none⟩,
 ⟨some 21, .mov (.cp 0), none⟩,
 ⟨some 22, .mov (.cp 1), none⟩,
 ⟨some 23, .call N_tcomp_writer_short [.cp 21, .cp 22], none⟩,
 ⟨some 24, .bin .or (.c (.int .i64 240)) (.cp 23), none⟩,
 ⟨some 25, .call N_tcomp_writer_byte [.cp 20, .cp 24], none⟩] [] [0, 1, 2]
noncomputable abbrev C108_4 : LCode := .region false 0 [
 ⟨some 26, .mov (.cp 0), none⟩,
 ⟨some 27, .mov (.cp 2), none⟩,
 ⟨some 28, .len false (.cp 27), none⟩,
 ⟨some 29, .conv .u64 (.cp 28), none⟩,
 ⟨some 30, .call N_tcomp_writer_num [.cp 26, .cp 29], none⟩] [] [0, 1, 2]
noncomputable abbrev C108_5 : LCode := .seq C108_3 C108_4
noncomputable abbrev C108_6 : LCode := .cond (.cp 10) C108_2 C108_5
noncomputable abbrev C108_7 : LCode := .seq C108_1 C108_6
noncomputable abbrev C108_8 : LCode := .region false 0 [
 ⟨some 31, .mov (.mv 2), none⟩,
 ⟨some 32, .len false (.cp 31), none⟩,
 ⟨some 33, .mov (.c (.int .i64 0)), none⟩] [] [0, 1, 31, 32, 33]
noncomputable abbrev C108_9 : LCode := .region false 0 [
 ⟨some 34, .bin .lss (.cp 33) (.cp 32), none⟩] [] [0, 1, 31, 32, 33, 34]
noncomputable abbrev C108_10 : LCode := .cond (.cp 34) .skip (.exit 0)
noncomputable abbrev C108_11 : LCode := .region false 1 [
 ⟨some 35, .iaddr 5 none (.cp 31) (.cp 33), none⟩,
 ⟨some 36, .load false (some 5) (.cp 35), none⟩,
 ⟨some 7, .alloc 0 [.int .i64 0, .int .i64 0, .str [], .sl true 5 [], .sl true 1 []], none⟩,
 ⟨none, .store (some 5) (.cp 7) (.mv 36), none⟩] [] [0, 1, 7, 31, 32, 33]
noncomputable abbrev C108_12 : LCode := .region false 0 [
 ⟨some 37, .mov (.cp 0), none⟩,
 ⟨some 38, .mov (.cp 1), none⟩,
 ⟨some 39, .load false (some 5) (.cp 7), none⟩,
 ⟨some 40, .call N_tcomp_writer_value [.cp 37, .cp 38, .cp 39], none⟩] [] [0, 1, 31, 32, 33]
noncomputable abbrev C108_13 : LCode := .seq C108_11 C108_12
noncomputable abbrev C108_14 : LCode := .block 1 C108_13
noncomputable abbrev C108_15 : LCode := .region false 0 [
 ⟨some 41, .bin .add (.cp 33) (.c (.int .i64 1)), none⟩,
 ⟨some 33, .mov (.cp 41), none⟩] [] [0, 1, 31, 32, 33]
noncomputable abbrev C108_16 : LCode := .seq C108_14 C108_15
noncomputable abbrev C108_17 : LCode := .seq C108_10 C108_16
noncomputable def C108_18 : LCode := .seq C108_9 C108_17
noncomputable abbrev C108_19 : LCode := .gc (.only [0, 1, 31, 32, 33] C108_18)
noncomputable abbrev C108_20 : LCode := .only [0, 1, 31, 32, 33] (.loop C108_19)
noncomputable abbrev C108_21 : LCode := .block 0 C108_20
noncomputable def C108_22 : LCode := .seq C108_8 C108_21
noncomputable abbrev C108_23 : LCode := .only [0, 1, 2] C108_22
noncomputable abbrev C108_24 : LCode := .seq C108_7 C108_23
noncomputable def L_tcomp_writer_list : LF := { np := 3, res := [], keepRes := false, body := C108_24 }
noncomputable abbrev C109_1 : LCode := .region false 0 [
 ⟨some 10, .mov (.cp 0), none⟩,
 ⟨some 11, .mov (.cp 3), none⟩,
 ⟨some 12, .len false (.cp 11), none⟩,
 ⟨some 13, .bin .quo (.cp 12) (.c (.int .i64 2)), none⟩,
 ⟨some 14, .conv .u64 (.cp 13), none⟩,
 ⟨some 15, .call N_tcomp_writer_num [.cp 10, .cp 14], none⟩] [] [0, 1, 2, 3]
noncomputable abbrev C109_2 : LCode := .region false 0 [
 ⟨some 16, .mov (.cp 3), none⟩,
 ⟨some 17, .len false (.cp 16), none⟩,
 ⟨some 18, .bin .eql (.cp 17) (.c (.int .i64 0)), none⟩] [] [0, 1, 2, 3, 18]
noncomputable abbrev C109_3 : LCode := .cond (.cp 18) .ret .skip
noncomputable abbrev C109_4 : LCode := .seq C109_2 C109_3
noncomputable abbrev C109_5 : LCode := .region false 0 [
 ⟨some 19, .mov (.cp 0), none⟩,
 ⟨some 20, .mov (.cp 0), none⟩,
 ⟨some 21, .mov (.cp 1), none⟩,
 ⟨some 22, .call N_tcomp_writer_short [.cp 20, .cp 21], none⟩,
 ⟨some 23, .bin .shl (.cp 22) (.c (.int .u64 4)), none⟩,
 ⟨some 24, .mov (.cp 0), none⟩,
 ⟨some 25, .mov (.cp 2), none⟩,
 ⟨some 26, .call N_tcomp_writer_short [.cp 24, .cp 25], none⟩,
 ⟨some 27, .bin .or (.cp 23) (.cp 26), none⟩,
 ⟨some 28, .call N_tcomp_writer_byte [.cp 19, .cp 27], none⟩] [] [0, 1, 2, 3]
noncomputable abbrev C109_6 : LCode := .region false 0 [
 ⟨some 29, .mov (.mv 3), none⟩,
 ⟨some 30, .len false (.cp 29), none⟩,
 ⟨some 31, .mov (.c (.int .i64 0)), none⟩] [] [0, 1, 2, 29, 30, 31]
noncomputable abbrev C109_7 : LCode := .region false 0 [
 ⟨some 32, .bin .lss (.cp 31) (.cp 30), none⟩] [] [0, 1, 2, 29, 30, 31, 32]
noncomputable abbrev C109_8 : LCode := .cond (.cp 32) .skip (.exit 0)
noncomputable abbrev C109_9 : LCode := .region false 1 [
 ⟨some 33, .mov (.cp 31), none⟩,
 ⟨some 34, .iaddr 5 none (.cp 29) (.cp 31), none⟩,
 ⟨some 35, .load false (some 5) (.cp 34), none⟩,
 ⟨some 9, .alloc 0 [.int .i64 0, .int .i64 0, .str [], .sl true 5 [], .sl true 1 []], none⟩,
 ⟨some 8, .mov (.cp 33), none⟩,
 ⟨none, .store (some 5) (.cp 9) (.mv 35), none⟩] [] [0, 1, 2, 8, 9, 29, 30, 31]
noncomputable abbrev C109_10 : LCode := .region true 0 [
 ⟨some 36, .mov (.cp 0), none⟩,
 ⟨some 37, .mov (.cp 1), none⟩,
 ⟨some 38, .mov (.cp 2), none⟩,
 ⟨some 39, .bslice 1 (List.replicate 2 (.str [])) [(0, (.cp 37)), (1, (.cp 38))], none⟩,
 ⟨some 40, .mov (.cp 8), none⟩,
 ⟨some 41, .bin .rem (.cp 40) (.c (.int .i64 2)), none⟩,
 ⟨some 42, .iaddr 1 none (.cp 39) (.cp 41), none⟩,
 ⟨some 43, .load false none (.cp 42), none⟩,
 ⟨some 44, .load false (some 5) (.cp 9), none⟩,
 ⟨some 45, .call N_tcomp_writer_value [.cp 36, .cp 43, .cp 44], none⟩] [(7, 8)] [0, 1, 2, 29, 30, 31]
noncomputable abbrev C109_11 : LCode := .seq C109_9 C109_10
noncomputable abbrev C109_12 : LCode := .block 1 C109_11
noncomputable abbrev C109_13 : LCode := .region false 0 [
 ⟨some 46, .bin .add (.cp 31) (.c (.int .i64 1)), none⟩,
 ⟨some 31, .mov (.cp 46), none⟩] [] [0, 1, 2, 29, 30, 31]
noncomputable abbrev C109_14 : LCode := .seq C109_12 C109_13
noncomputable abbrev C109_15 : LCode := .seq C109_8 C109_14
noncomputable def C109_16 : LCode := .seq C109_7 C109_15
noncomputable abbrev C109_17 : LCode := .gc (.only [0, 1, 2, 29, 30, 31] C109_16)
noncomputable abbrev C109_18 : LCode := .only [0, 1, 2, 29, 30, 31] (.loop C109_17)
noncomputable abbrev C109_19 : LCode := .block 0 C109_18
noncomputable abbrev C109_20 : LCode := .seq C109_6 C109_19
noncomputable abbrev C109_21 : LCode := .seq C109_5 C109_20
noncomputable abbrev C109_22 : LCode := .seq C109_4 C109_21
noncomputable abbrev C109_23 : LCode := .seq C109_1 C109_22
noncomputable def L_tcomp_writer_pairs : LF := { np := 4, res := [], keepRes := false, body := C109_23 }
noncomputable abbrev C99_1 : LCode := .region false 0 [
 ⟨some 4, .box (.mv 1), none⟩,
 ⟨some 5, .box (.mv 2), none⟩] [] [0, 4, 5]
noncomputable abbrev C99_2 : LCode := .region false 0 [
 ⟨some 6, .mov (.c (.int .i64 0)), none⟩] [] [0, 4, 5, 6]
noncomputable abbrev C99_3 : LCode := .region false 0 [
 ⟨some 14, .faddr (.cp 5) 4, none⟩,
 ⟨some 15, .load false none (.cp 14), none⟩,
 ⟨some 16, .len false (.cp 15), none⟩,
 ⟨some 17, .mov (.c (.int .i64 0)), none⟩] [] [0, 4, 5, 6, 15, 16, 17]
noncomputable abbrev C99_4 : LCode := .region false 0 [
 ⟨some 18, .bin .lss (.cp 17) (.cp 16), none⟩] [] [0, 4, 5, 6, 15, 16, 17, 18]
noncomputable abbrev C99_5 : LCode := .cond (.cp 18) .skip (.exit 0)
noncomputable abbrev C99_6 : LCode := .region false 0 [
 ⟨some 19, .mov (.cp 17), none⟩,
 ⟨some 20, .iaddr 1 none (.cp 15) (.cp 17), none⟩,
 ⟨some 21, .load false none (.cp 20), none⟩,
 ⟨some 7, .mov (.cp 19), none⟩,
 ⟨some 8, .mov (.cp 21), none⟩] [] [0, 4, 5, 6, 7, 8, 15, 16, 17]
noncomputable abbrev C99_7 : LCode := .region false 1 [
 ⟨some 23, .load false (some 3) (.cp 4), none⟩,
 ⟨some 24, .mov (.cp 8), none⟩,
 ⟨some 25, .call N_value_Field [.cp 23, .cp 24], none⟩,
 ⟨some 22, .mov (.cp 25), none⟩,
 ⟨some 26, .ext (.cp 22) 0, none⟩,
 ⟨some 27, .ext (.cp 22) 1, none⟩,
 ⟨some 9, .alloc 0 [.int .i64 0, .int .i64 0, .str [], .str [], .bool false, .int .i64 0, .int .i64 0, .str [], .sl true 5 [], .sl true 1 []], none⟩,
 ⟨none, .store (some 10) (.cp 9) (.mv 26), none⟩,
 ⟨some 10, .mov (.cp 27), none⟩] [] [0, 4, 5, 6, 7, 8, 9, 15, 16, 17]
noncomputable abbrev C99_8 : LCode := .region true 0 [
 ⟨some 28, .mov (.cp 0), none⟩,
 ⟨some 29, .nilc (.cp 28), none⟩,
 ⟨some 30, .faddr (.cp 29) 0, none⟩,
 ⟨some 31, .load false (some 3) (.cp 30), none⟩,
 ⟨some 32, .faddr (.cp 9) 2, none⟩,
 ⟨some 33, .load false none (.cp 32), none⟩,
 ⟨some 34, .call N_value_Kind [.cp 31, .cp 33], none⟩,
 ⟨some 11, .mov (.cp 34), none⟩] [(3, 5)] [0, 4, 5, 6, 7, 8, 9, 11, 15, 16, 17]
noncomputable abbrev C99_9 : LCode := .region false 0 [
 ⟨some 35, .mov (.cp 11), none⟩,
 ⟨some 36, .call N_tcomp_Short [.cp 35], none⟩,
 ⟨some 12, .mov (.cp 36), none⟩] [] [0, 4, 5, 6, 7, 8, 9, 11, 12, 15, 16, 17]
noncomputable abbrev C99_10 : LCode := .region false 0 [
 ⟨some 37, .mov (.cp 11), none⟩,
 ⟨some 38, .bin .eql (.cp 37) (.c (.int .i64 2)), none⟩] [] [0, 4, 5, 6, 7, 8, 9, 11, 12, 15, 16, 17, 38]
noncomputable abbrev C99_11 : LCode := .region false 0 [
 ⟨some 39, .faddr (.cp 5) 3, none⟩,
 ⟨some 40, .load false none (.cp 39), none⟩,
 ⟨some 41, .mov (.cp 7), none⟩,
 ⟨some 42, .iaddr 5 none (.cp 40) (.cp 41), none⟩,
 ⟨some 43, .faddr (.cp 42) 1, none⟩,
 ⟨some 44, .load false none (.cp 43), none⟩,
 ⟨some 45, .bin .sub (.c (.int .i64 2)) (.cp 44), none⟩,
 ⟨some 12, .mov (.cp 45), none⟩] [] [0, 4, 5, 6, 7, 8, 9, 11, 12, 15, 16, 17]
noncomputable abbrev C99_12 : LCode := .cond (.cp 38) C99_11 .skip
noncomputable abbrev C99_13 : LCode := .seq C99_10 C99_12
noncomputable abbrev C99_14 : LCode := .region false 0 [
 ⟨some 46, .mov (.cp 8), none⟩,
 ⟨some 47, .mov (.cp 6), none⟩,
 ⟨some 48, .bin .sub (.cp 46) (.cp 47), none⟩,
 ⟨some 13, .mov (.cp 48), none⟩] [] [0, 4, 5, 7, 8, 9, 11, 12, 13, 15, 16, 17]
noncomputable abbrev C99_15 : LCode := .region false 0 [
 ⟨some 49, .mov (.cp 13), none⟩,
 ⟨some 50, .bin .geq (.cp 49) (.c (.int .i64 1)), none⟩,
 ⟨some 51, .mov (.cp 50), none⟩,
 ⟨some 52, .mov (.cp 13), some (51, true)⟩,
 ⟨some 53, .bin .leq (.cp 52) (.c (.int .i64 15)), some (51, true)⟩,
 ⟨some 54, .pick (.cp 51) (.cp 53) (.c (.bool false)), none⟩] [] [0, 4, 5, 7, 8, 9, 11, 12, 13, 15, 16, 17, 54]
noncomputable abbrev C99_16 : LCode := .region false 0 [
 ⟨some 55, .mov (.cp 0), none⟩,
 ⟨some 56, .mov (.cp 13), none⟩,
 ⟨some 57, .bin .shl (.cp 56) (.c (.int .u64 4)), none⟩,
 ⟨some 58, .mov (.cp 12), none⟩,
 ⟨some 59, .bin .or (.cp 57) (.cp 58), none⟩,
 ⟨some 60, .call N_tcomp_writer_byte [.cp 55, .cp 59], none⟩] [] [0, 4, 5, 7, 8, 9, 11, 15, 16, 17]
noncomputable abbrev C99_17 : LCode := .region false 0 [
 ⟨some 61, .mov (.cp 0), none⟩,
 ⟨some 62, .mov (.cp 12), none⟩,
 ⟨some 63, .call N_tcomp_writer_byte [.cp 61, .cp 62], none⟩] [] [0, 4, 5, 7, 8, 9, 11, 15, 16, 17]
noncomputable abbrev C99_18 : LCode := .region false 0 [
 ⟨some 64, .mov (.cp 0), none⟩,
 ⟨some 65, .mov (.cp 8), none⟩,
 ⟨some 66, .conv .i32 (.cp 65), none⟩,
 ⟨some 67, .call N_zig_Zig32 [.cp 66], none⟩,
 ⟨some 68, .conv .u64 (.cp 67), none⟩,
 ⟨some 69, .call N_tcomp_writer_num [.cp 64, .cp 68], none⟩] [] [0, 4, 5, 7, 8, 9, 11, 15, 16, 17]
noncomputable abbrev C99_19 : LCode := .seq C99_17 C99_18
noncomputable def C99_20 : LCode := .cond (.cp 54) C99_16 C99_19
noncomputable abbrev C99_21 : LCode := .only [0, 4, 5, 7, 8, 9, 11, 12, 13, 15, 16, 17, 54] C99_20
noncomputable abbrev C99_22 : LCode := .seq C99_15 C99_21
noncomputable abbrev C99_23 : LCode := .seq C99_14 C99_22
noncomputable abbrev C99_24 : LCode := .region false 0 [
 ⟨some 70, .mov (.cp 8), none⟩,
 ⟨some 6, .mov (.cp 70), none⟩] [] [0, 4, 5, 6, 7, 9, 11, 15, 16, 17]
noncomputable abbrev C99_25 : LCode := .region false 0 [
 ⟨some 71, .mov (.cp 11), none⟩,
 ⟨some 72, .bin .neq (.cp 71) (.c (.int .i64 2)), none⟩] [] [0, 4, 5, 6, 7, 9, 15, 16, 17, 72]
noncomputable abbrev C99_26 : LCode := .region true 0 [
 ⟨some 73, .mov (.cp 0), none⟩,
 ⟨some 74, .faddr (.cp 9) 2, none⟩,
 ⟨some 75, .load false none (.cp 74), none⟩,
 ⟨some 76, .faddr (.cp 5) 3, none⟩,
 ⟨some 77, .load false none (.cp 76), none⟩,
 ⟨some 78, .mov (.cp 7), none⟩,
 ⟨some 79, .iaddr 5 none (.cp 77) (.cp 78), none⟩,
 ⟨some 80, .load false (some 5) (.cp 79), none⟩,
 ⟨some 81, .call N_tcomp_writer_value [.cp 73, .cp 75, .cp 80], none⟩] [(2, 4), (2, 7)] [0, 4, 5, 6, 15, 16, 17]
noncomputable abbrev C99_27 : LCode := .cond (.cp 72) C99_26 .skip
noncomputable abbrev C99_28 : LCode := .seq C99_25 C99_27
noncomputable def C99_29 : LCode := .seq C99_24 C99_28
noncomputable abbrev C99_30 : LCode := .only [0, 4, 5, 7, 8, 9, 11, 15, 16, 17] C99_29
noncomputable def C99_31 : LCode := .seq C99_23 C99_30
noncomputable abbrev C99_32 : LCode := .only [0, 4, 5, 6, 7, 8, 9, 11, 12, 15, 16, 17] C99_31
noncomputable abbrev C99_33 : LCode := .seq C99_13 C99_32
noncomputable abbrev C99_34 : LCode := .seq C99_9 C99_33
noncomputable abbrev C99_35 : LCode := .seq C99_8 C99_34
noncomputable abbrev C99_36 : LCode := .seq C99_7 C99_35
noncomputable abbrev C99_37 : LCode := .seq C99_6 C99_36
noncomputable abbrev C99_38 : LCode := .block 1 C99_37
noncomputable abbrev C99_39 : LCode := .region false 0 [
 ⟨some 82, .bin .add (.cp 17) (.c (.int .i64 1)), none⟩,
 ⟨some 17, .mov (.cp 82), none⟩] [] [0, 4, 5, 6, 15, 16, 17]
noncomputable abbrev C99_40 : LCode := .seq C99_38 C99_39
noncomputable abbrev C99_41 : LCode := .seq C99_5 C99_40
noncomputable def C99_42 : LCode := .seq C99_4 C99_41
noncomputable abbrev C99_43 : LCode := .gc (.only [0, 4, 5, 6, 15, 16, 17] C99_42)
noncomputable abbrev C99_44 : LCode := .only [0, 4, 5, 6, 15, 16, 17] (.loop C99_43)
noncomputable abbrev C99_45 : LCode := .block 0 C99_44
noncomputable abbrev C99_46 : LCode := .seq C99_3 C99_45
noncomputable abbrev C99_47 : LCode := .region false 0 [
 ⟨some 83, .mov (.cp 0), none⟩,
 ⟨some 84, .call N_tcomp_writer_byte [.cp 83, .c (.int .i64 0)], none⟩] [] []
noncomputable abbrev C99_48 : LCode := .seq C99_46 C99_47
noncomputable abbrev C99_49 : LCode := .seq C99_2 C99_48
noncomputable abbrev C99_50 : LCode := .seq C99_1 C99_49
noncomputable def L_tcomp_writer_fields : LF := { np := 3, res := [], keepRes := false, body := C99_50 }
noncomputable abbrev C40_1 : LCode := .region false 0 [
 ⟨some 5, .box (.mv 2), none⟩] [] [0, 1, 5]
noncomputable abbrev C40_2 : LCode := .region false 0 [
 ⟨some 16, .mov (.cp 1), none⟩,
 ⟨some 17, .call N_kind_Head [.cp 16], none⟩,
 ⟨some 15, .mov (.cp 17), none⟩,
 ⟨some 18, .ext (.cp 15) 0, none⟩,
 ⟨some 19, .ext (.cp 15) 1, none⟩,
 ⟨some 20, .ext (.cp 15) 2, none⟩,
 ⟨some 21, .ext (.cp 15) 3, none⟩,
 ⟨some 22, .ext (.cp 15) 4, none⟩,
 ⟨some 6, .mov (.cp 18), none⟩,
 ⟨some 7, .mov (.cp 19), none⟩,
 ⟨some 8, .mov (.cp 20), none⟩,
 ⟨some 9, .mov (.cp 21), none⟩,
 ⟨some 10, .mov (.cp 22), none⟩] [] [0, 1, 5, 7, 8, 9]
noncomputable abbrev C40_3 : LCode := .region false 0 [
 ⟨some 23, .mov (.cp 0), none⟩,
 ⟨some 24, .nilc (.cp 23), none⟩,
 ⟨some 25, .faddr (.cp 24) 0, none⟩,
 ⟨some 26, .load false (some 3) (.cp 25), none⟩,
 ⟨some 27, .mov (.cp 1), none⟩,
 ⟨some 28, .call N_value_Kind [.cp 26, .cp 27], none⟩,
 ⟨some 11, .mov (.cp 28), none⟩] [] [0, 5, 7, 8, 9, 11]
noncomputable abbrev C40_4 : LCode := .region false 0 [
 ⟨some 29, .mov (.cp 11), none⟩] [] [0, 5, 7, 8, 9, 29]
noncomputable abbrev C40_5 : LCode := .region false 0 [
 ⟨some 44, .bin .eql (.cp 29) (.c (.int .i64 2)), none⟩,
 ⟨some 43, .mov (.cp 44), none⟩] [] [0, 5, 7, 8, 9, 29, 43]
noncomputable abbrev C40_6 : LCode := .region false 0 [
 ⟨some 45, .mov (.cp 0), none⟩,
 ⟨some 46, .faddr (.cp 5) 1, none⟩,
 ⟨some 47, .load false none (.cp 46), none⟩,
 ⟨some 48, .bin .sub (.c (.int .i64 2)) (.cp 47), none⟩,
 ⟨some 49, .call N_tcomp_writer_byte [.cp 45, .cp 48], none⟩] [] []
noncomputable abbrev C40_7 : LCode := .region false 0 [
 ⟨some 51, .bin .eql (.cp 29) (.c (.int .i64 3)), none⟩,
 ⟨some 50, .mov (.cp 51), none⟩] [] [0, 5, 7, 8, 9, 29, 50]
noncomputable abbrev C40_8 : LCode := .region false 0 [
 ⟨some 52, .mov (.cp 0), none⟩,
 ⟨some 53, .faddr (.cp 5) 1, none⟩,
 ⟨some 54, .load false none (.cp 53), none⟩,
 ⟨some 55, .call N_tcomp_writer_byte [.cp 52, .cp 54], none⟩] [] []
noncomputable abbrev C40_9 : LCode := .region false 0 [
 ⟨some 57, .bin .eql (.cp 29) (.c (.int .i64 6)), none⟩,
 ⟨some 56, .mov (.cp 57), none⟩] [] [0, 5, 7, 8, 9, 29, 56]
noncomputable abbrev C40_10 : LCode := .region false 0 [
 ⟨some 58, .bin .eql (.cp 29) (.c (.int .i64 8)), none⟩,
 ⟨some 56, .mov (.cp 58), none⟩] [] [0, 5, 7, 8, 9, 29, 56]
noncomputable abbrev C40_11 : LCode := .region false 0 [
 ⟨some 59, .bin .eql (.cp 29) (.c (.int .i64 17)), none⟩,
 ⟨some 56, .mov (.cp 59), none⟩] [] [0, 5, 7, 8, 9, 29, 56]
noncomputable abbrev C40_12 : LCode := .cond (.cp 56) .skip C40_11
noncomputable abbrev C40_13 : LCode := .seq C40_10 C40_12
noncomputable abbrev C40_14 : LCode := .cond (.cp 56) .skip C40_13
noncomputable abbrev C40_15 : LCode := .seq C40_9 C40_14
noncomputable abbrev C40_16 : LCode := .region false 0 [
 ⟨some 60, .mov (.cp 0), none⟩,
 ⟨some 61, .faddr (.cp 5) 1, none⟩,
 ⟨some 62, .load false none (.cp 61), none⟩,
 ⟨some 63, .conv .i32 (.cp 62), none⟩,
 ⟨some 64, .call N_zig_Zig32 [.cp 63], none⟩,
 ⟨some 65, .conv .u64 (.cp 64), none⟩,
 ⟨some 66, .call N_tcomp_writer_num [.cp 60, .cp 65], none⟩] [] []
noncomputable abbrev C40_17 : LCode := .region false 0 [
 ⟨some 68, .bin .eql (.cp 29) (.c (.int .i64 10)), none⟩,
 ⟨some 67, .mov (.cp 68), none⟩] [] [0, 5, 7, 8, 9, 29, 67]
noncomputable abbrev C40_18 : LCode := .region false 0 [
 ⟨some 69, .mov (.cp 0), none⟩,
 ⟨some 70, .faddr (.cp 5) 1, none⟩,
 ⟨some 71, .load false none (.cp 70), none⟩,
 ⟨some 72, .call N_zig_Zig64 [.cp 71], none⟩,
 ⟨some 73, .call N_tcomp_writer_num [.cp 69, .cp 72], none⟩] [] []
noncomputable abbrev C40_19 : LCode := .region false 0 [
 ⟨some 75, .bin .eql (.cp 29) (.c (.int .i64 4)), none⟩,
 ⟨some 74, .mov (.cp 75), none⟩] [] [0, 5, 7, 8, 9, 29, 74]
noncomputable abbrev C40_20 : LCode := .region false 0 [
 ⟨some 76, .mov (.c (.int .i64 0)), none⟩] [] [0, 5, 76]
noncomputable abbrev C40_21 : LCode := .region false 0 [
 ⟨some 77, .bin .lss (.cp 76) (.c (.int .i64 8)), none⟩] [] [0, 5, 76, 77]
noncomputable abbrev C40_22 : LCode := .cond (.cp 77) .skip (.exit 1)
noncomputable abbrev C40_23 : LCode := .region false 0 [
 ⟨some 78, .mov (.cp 76), none⟩,
 ⟨some 12, .mov (.cp 78), none⟩] [] [0, 5, 12, 76]
noncomputable abbrev C40_24 : LCode := .region false 0 [
 ⟨some 79, .mov (.cp 0), none⟩,
 ⟨some 80, .faddr (.cp 5) 1, none⟩,
 ⟨some 81, .load false none (.cp 80), none⟩,
 ⟨some 82, .conv .u64 (.cp 81), none⟩,
 ⟨some 83, .mov (.cp 12), none⟩,
 ⟨some 84, .bin .mul (.c (.int .i64 8)) (.cp 83), none⟩,
 ⟨some 85, .bin .shr (.cp 82) (.cp 84), none⟩,
 ⟨some 86, .bin .and (.cp 85) (.c (.int .u64 255)), none⟩,
 ⟨some 87, .conv .i64 (.cp 86), none⟩,
 ⟨some 88, .call N_tcomp_writer_byte [.cp 79, .cp 87], none⟩] [] [0, 5, 76]
noncomputable abbrev C40_25 : LCode := .seq C40_23 C40_24
noncomputable abbrev C40_26 : LCode := .block 2 C40_25
noncomputable abbrev C40_27 : LCode := .region false 0 [
 ⟨some 89, .bin .add (.cp 76) (.c (.int .i64 1)), none⟩,
 ⟨some 76, .mov (.cp 89), none⟩] [] [0, 5, 76]
noncomputable abbrev C40_28 : LCode := .seq C40_26 C40_27
noncomputable abbrev C40_29 : LCode := .seq C40_22 C40_28
noncomputable def C40_30 : LCode := .seq C40_21 C40_29
noncomputable abbrev C40_31 : LCode := .gc (.only [0, 5, 76] C40_30)
noncomputable abbrev C40_32 : LCode := .only [0, 5, 76] (.loop C40_31)
noncomputable abbrev C40_33 : LCode := .block 1 C40_32
noncomputable abbrev C40_34 : LCode := .seq C40_20 C40_33
noncomputable abbrev C40_35 : LCode := .region false 0 [
 ⟨some 91, .bin .eql (.cp 29) (.c (.int .i64 11)), none⟩,
 ⟨some 90, .mov (.cp 91), none⟩] [] [0, 5, 7, 8, 9, 29, 90]
noncomputable abbrev C40_36 : LCode := .region false 0 [
 ⟨some 92, .bin .eql (.cp 29) (.c (.int .i64 16)), none⟩,
 ⟨some 90, .mov (.cp 92), none⟩] [] [0, 5, 7, 8, 9, 29, 90]
noncomputable abbrev C40_37 : LCode := .cond (.cp 90) .skip C40_36
noncomputable abbrev C40_38 : LCode := .seq C40_35 C40_37
noncomputable abbrev C40_39 : LCode := .region false 0 [
 ⟨some 93, .mov (.cp 0), none⟩,
 ⟨some 94, .faddr (.cp 5) 2, none⟩,
 ⟨some 95, .load false none (.cp 94), none⟩,
 ⟨some 96, .len true (.cp 95), none⟩,
 ⟨some 97, .conv .u64 (.cp 96), none⟩,
 ⟨some 98, .call N_tcomp_writer_num [.cp 93, .cp 97], none⟩] [] [0, 5]
noncomputable abbrev C40_40 : LCode := .region true 0 [
 ⟨some 99, .mov (.cp 0), none⟩,
 ⟨some 100, .mov (.cp 0), none⟩,
 ⟨some 101, .nilc (.cp 100), none⟩,
 ⟨some 102, .faddr (.cp 101) 3, none⟩,
 ⟨some 103, .load true none (.cp 102), none⟩,
 ⟨some 104, .faddr (.cp 5) 2, none⟩,
 ⟨some 105, .load false none (.cp 104), none⟩,
 ⟨some 106, .appendS (.mv 103) (.cp 105), none⟩,
 ⟨some 107, .nilc (.cp 99), none⟩,
 ⟨some 108, .faddr (.cp 107) 3, none⟩,
 ⟨none, .store none (.cp 108) (.mv 106), none⟩] [(4, 6)] []
noncomputable abbrev C40_41 : LCode := .seq C40_39 C40_40
noncomputable abbrev C40_42 : LCode := .region false 0 [
 ⟨some 110, .bin .eql (.cp 29) (.c (.int .i64 15)), none⟩,
 ⟨some 109, .mov (.cp 110), none⟩] [] [0, 5, 7, 8, 9, 29, 109]
noncomputable abbrev C40_43 : LCode := .region false 0 [
 ⟨some 111, .bin .eql (.cp 29) (.c (.int .i64 14)), none⟩,
 ⟨some 109, .mov (.cp 111), none⟩] [] [0, 5, 7, 8, 9, 29, 109]
noncomputable abbrev C40_44 : LCode := .cond (.cp 109) .skip C40_43
noncomputable abbrev C40_45 : LCode := .seq C40_42 C40_44
noncomputable abbrev C40_46 : LCode := .region false 0 [
 ⟨some 112, .mov (.cp 0), none⟩,
 ⟨some 113, .mov (.cp 8), none⟩,
 ⟨some 114, .faddr (.cp 5) 3, none⟩,
 ⟨some 115, .load false none (.cp 114), none⟩,
 ⟨some 116, .call N_tcomp_writer_list [.cp 112, .cp 113, .cp 115], none⟩] [] []
noncomputable abbrev C40_47 : LCode := .region false 0 [
 ⟨some 118, .bin .eql (.cp 29) (.c (.int .i64 13)), none⟩,
 ⟨some 117, .mov (.cp 118), none⟩] [] [0, 5, 7, 8, 9, 117]
noncomputable abbrev C40_48 : LCode := .region false 0 [
 ⟨some 119, .mov (.cp 0), none⟩,
 ⟨some 120, .mov (.cp 8), none⟩,
 ⟨some 121, .mov (.cp 9), none⟩,
 ⟨some 122, .faddr (.cp 5) 3, none⟩,
 ⟨some 123, .load false none (.cp 122), none⟩,
 ⟨some 124, .call N_tcomp_writer_pairs [.cp 119, .cp 120, .cp 121, .cp 123], none⟩] [] []
noncomputable abbrev C40_49 : LCode := .region false 1 [
 ⟨some 31, .mov (.cp 0), none⟩,
 ⟨some 32, .nilc (.cp 31), none⟩,
 ⟨some 33, .faddr (.cp 32) 0, none⟩,
 ⟨some 34, .load false (some 3) (.cp 33), none⟩,
 ⟨some 35, .mov (.cp 7), none⟩,
 ⟨some 36, .call N_value_Struct [.cp 34, .cp 35], none⟩,
 ⟨some 30, .mov (.cp 36), none⟩,
 ⟨some 37, .ext (.cp 30) 0, none⟩,
 ⟨some 38, .ext (.cp 30) 1, none⟩,
 ⟨some 13, .alloc 0 [.int .i64 0, .str [], .sl true 10 []], none⟩,
 ⟨none, .store (some 3) (.cp 13) (.mv 37), none⟩,
 ⟨some 14, .mov (.cp 38), none⟩] [] [0, 5, 13]
noncomputable abbrev C40_50 : LCode := .region false 0 [
 ⟨some 39, .mov (.cp 0), none⟩,
 ⟨some 40, .load false (some 3) (.cp 13), none⟩,
 ⟨some 41, .load false (some 5) (.cp 5), none⟩,
 ⟨some 42, .call N_tcomp_writer_fields [.cp 39, .cp 40, .cp 41], none⟩] [] []
noncomputable abbrev C40_51 : LCode := .seq C40_49 C40_50
noncomputable abbrev C40_52 : LCode := .cond (.cp 117) C40_48 C40_51
noncomputable abbrev C40_53 : LCode := .seq C40_47 C40_52
noncomputable def C40_54 : LCode := .cond (.cp 109) C40_46 C40_53
noncomputable abbrev C40_55 : LCode := .only [0, 5, 7, 8, 9, 29, 109] C40_54
noncomputable abbrev C40_56 : LCode := .seq C40_45 C40_55
noncomputable def C40_57 : LCode := .cond (.cp 90) C40_41 C40_56
noncomputable abbrev C40_58 : LCode := .only [0, 5, 7, 8, 9, 29, 90] C40_57
noncomputable abbrev C40_59 : LCode := .seq C40_38 C40_58
noncomputable abbrev C40_60 : LCode := .cond (.cp 74) C40_34 C40_59
noncomputable abbrev C40_61 : LCode := .seq C40_19 C40_60
noncomputable abbrev C40_62 : LCode := .cond (.cp 67) C40_18 C40_61
noncomputable abbrev C40_63 : LCode := .seq C40_17 C40_62
noncomputable def C40_64 : LCode := .cond (.cp 56) C40_16 C40_63
noncomputable abbrev C40_65 : LCode := .only [0, 5, 7, 8, 9, 29, 56] C40_64
noncomputable abbrev C40_66 : LCode := .seq C40_15 C40_65
noncomputable abbrev C40_67 : LCode := .cond (.cp 50) C40_8 C40_66
noncomputable abbrev C40_68 : LCode := .seq C40_7 C40_67
noncomputable abbrev C40_69 : LCode := .cond (.cp 43) C40_6 C40_68
noncomputable abbrev C40_70 : LCode := .seq C40_5 C40_69
noncomputable abbrev C40_71 : LCode := .block 0 C40_70
noncomputable abbrev C40_72 : LCode := .seq C40_4 C40_71
noncomputable abbrev C40_73 : LCode := .seq C40_3 C40_72
noncomputable abbrev C40_74 : LCode := .seq C40_2 C40_73
noncomputable abbrev C40_75 : LCode := .seq C40_1 C40_74
noncomputable def L_tcomp_writer_value : LF := { np := 3, res := [], keepRes := false, body := C40_75 }
noncomputable abbrev C141_1 : LCode := .region false 0 [
 ⟨some 1, .box (.mv 0), none⟩,
 ⟨some 2, .mov (.c (.bool false)), none⟩] [] [1]
noncomputable abbrev C141_2 : LCode := .region false 0 [
 ⟨some 3, .faddr (.cp 1) 0, none⟩,
 ⟨some 4, .load false none (.cp 3), none⟩] [] [4]
noncomputable abbrev C141_3 : LCode := .region false 0 [
 ⟨some 6, .bin .eql (.cp 4) (.c (.int .i64 15)), none⟩,
 ⟨some 5, .mov (.cp 6), none⟩] [] [4, 5]
noncomputable abbrev C141_4 : LCode := .region false 0 [
 ⟨some 7, .bin .eql (.cp 4) (.c (.int .i64 14)), none⟩,
 ⟨some 5, .mov (.cp 7), none⟩] [] [4, 5]
noncomputable abbrev C141_5 : LCode := .region false 0 [
 ⟨some 8, .bin .eql (.cp 4) (.c (.int .i64 13)), none⟩,
 ⟨some 5, .mov (.cp 8), none⟩] [] [4, 5]
noncomputable abbrev C141_6 : LCode := .region false 0 [
 ⟨some 9, .bin .eql (.cp 4) (.c (.int .i64 12)), none⟩,
 ⟨some 5, .mov (.cp 9), none⟩] [] [5]
noncomputable abbrev C141_7 : LCode := .cond (.cp 5) .skip C141_6
noncomputable abbrev C141_8 : LCode := .seq C141_5 C141_7
noncomputable abbrev C141_9 : LCode := .cond (.cp 5) .skip C141_8
noncomputable abbrev C141_10 : LCode := .seq C141_4 C141_9
noncomputable abbrev C141_11 : LCode := .cond (.cp 5) .skip C141_10
noncomputable abbrev C141_12 : LCode := .seq C141_3 C141_11
noncomputable abbrev C141_13 : LCode := .region false 0 [
 ⟨some 2, .mov (.c (.bool true)), none⟩] [] [2]
noncomputable abbrev C141_14 : LCode := .seq C141_13 .ret
noncomputable abbrev C141_15 : LCode := .cond (.cp 5) C141_14 .skip
noncomputable abbrev C141_16 : LCode := .seq C141_12 C141_15
noncomputable abbrev C141_17 : LCode := .block 0 C141_16
noncomputable abbrev C141_18 : LCode := .seq C141_2 C141_17
noncomputable abbrev C141_19 : LCode := .region false 0 [
 ⟨some 2, .mov (.c (.bool false)), none⟩] [] [2]
noncomputable abbrev C141_20 : LCode := .seq C141_19 .ret
noncomputable abbrev C141_21 : LCode := .seq C141_18 C141_20
noncomputable abbrev C141_22 : LCode := .seq C141_1 C141_21
noncomputable def L_measure_holds : LF := { np := 1, res := [.tmp 2], keepRes := false, body := C141_22 }
noncomputable abbrev C88_1 : LCode := .region false 0 [
 ⟨some 1, .box (.mv 0), none⟩,
 ⟨some 2, .mov (.c (.int .i64 0)), none⟩] [] [1]
noncomputable abbrev C88_2 : LCode := .region false 0 [
 ⟨some 6, .load false (some 5) (.cp 1), none⟩,
 ⟨some 7, .call N_measure_holds [.cp 6], none⟩,
 ⟨some 8, .un .not (.cp 7), none⟩] [] [1, 8]
noncomputable abbrev C88_3 : LCode := .region false 0 [
 ⟨some 2, .mov (.c (.int .i64 0)), none⟩] [] [2]
noncomputable abbrev C88_4 : LCode := .seq C88_3 .ret
noncomputable abbrev C88_5 : LCode := .cond (.cp 8) C88_4 .skip
noncomputable abbrev C88_6 : LCode := .seq C88_2 C88_5
noncomputable abbrev C88_7 : LCode := .region false 0 [
 ⟨some 3, .mov (.c (.int .i64 0)), none⟩] [] [1, 3]
noncomputable abbrev C88_8 : LCode := .region false 0 [
 ⟨some 9, .faddr (.cp 1) 3, none⟩,
 ⟨some 10, .load false none (.cp 9), none⟩,
 ⟨some 11, .len false (.cp 10), none⟩,
 ⟨some 12, .mov (.c (.int .i64 0)), none⟩] [] [3, 10, 11, 12]
noncomputable abbrev C88_9 : LCode := .region false 0 [
 ⟨some 13, .bin .lss (.cp 12) (.cp 11), none⟩] [] [3, 10, 11, 12, 13]
noncomputable abbrev C88_10 : LCode := .cond (.cp 13) .skip (.exit 0)
noncomputable abbrev C88_11 : LCode := .region false 1 [
 ⟨some 14, .iaddr 5 none (.cp 10) (.cp 12), none⟩,
 ⟨some 15, .load false (some 5) (.cp 14), none⟩,
 ⟨some 5, .alloc 0 [.int .i64 0, .int .i64 0, .str [], .sl true 5 [], .sl true 1 []], none⟩,
 ⟨none, .store (some 5) (.cp 5) (.mv 15), none⟩] [] [3, 5, 10, 11, 12]
noncomputable abbrev C88_12 : LCode := .region false 0 [
 ⟨some 16, .mov (.cp 3), none⟩,
 ⟨some 17, .load false (some 5) (.cp 5), none⟩,
 ⟨some 18, .call N_measure_Depth [.cp 17], none⟩,
 ⟨some 19, .max2 (.cp 16) (.cp 18), none⟩,
 ⟨some 3, .mov (.cp 19), none⟩] [] [3, 10, 11, 12]
noncomputable abbrev C88_13 : LCode := .seq C88_11 C88_12
noncomputable abbrev C88_14 : LCode := .block 1 C88_13
noncomputable abbrev C88_15 : LCode := .region false 0 [
 ⟨some 20, .bin .add (.cp 12) (.c (.int .i64 1)), none⟩,
 ⟨some 12, .mov (.cp 20), none⟩] [] [3, 10, 11, 12]
noncomputable abbrev C88_16 : LCode := .seq C88_14 C88_15
noncomputable abbrev C88_17 : LCode := .seq C88_10 C88_16
noncomputable def C88_18 : LCode := .seq C88_9 C88_17
noncomputable abbrev C88_19 : LCode := .gc (.only [3, 10, 11, 12] C88_18)
noncomputable abbrev C88_20 : LCode := .only [3, 10, 11, 12] (.loop C88_19)
noncomputable abbrev C88_21 : LCode := .block 0 C88_20
noncomputable abbrev C88_22 : LCode := .seq C88_8 C88_21
noncomputable abbrev C88_23 : LCode := .region false 0 [
 ⟨some 21, .mov (.cp 3), none⟩,
 ⟨some 22, .bin .add (.cp 21) (.c (.int .i64 1)), none⟩,
 ⟨some 2, .mov (.cp 22), none⟩] [] [2]
noncomputable abbrev C88_24 : LCode := .seq C88_23 .ret
noncomputable abbrev C88_25 : LCode := .seq C88_22 C88_24
noncomputable abbrev C88_26 : LCode := .seq C88_7 C88_25
noncomputable abbrev C88_27 : LCode := .seq C88_6 C88_26
noncomputable abbrev C88_28 : LCode := .seq C88_1 C88_27
noncomputable def L_measure_Depth : LF := { np := 1, res := [.tmp 2], keepRes := false, body := C88_28 }
noncomputable abbrev C41_1 : LCode := .region false 0 [
 ⟨some 4, .box (.mv 1), none⟩,
 ⟨some 5, .box (.cp 2), none⟩,
 ⟨some 6, .mov (.c (.sl true 1 [])), none⟩,
 ⟨some 7, .mov (.c (.int .i64 0)), none⟩] [] [0, 4, 5]
noncomputable abbrev C41_2 : LCode := .region true 0 [
 ⟨some 9, .load false (some 5) (.cp 4), none⟩,
 ⟨some 10, .call N_measure_Depth [.cp 9], none⟩,
 ⟨some 11, .faddr (.cp 5) 0, none⟩,
 ⟨some 12, .load false none (.cp 11), none⟩,
 ⟨some 13, .bin .gtr (.cp 10) (.cp 12), none⟩,
 ⟨some 8, .mov (.cp 13), none⟩] [(0, 3), (1, 3)] [0, 5, 8]
noncomputable abbrev C41_3 : LCode := .region false 0 [
 ⟨some 6, .mov (.c (.sl true 1 [])), none⟩,
 ⟨some 7, .mov (.c (.int .i64 6)), none⟩] [] [6, 7]
noncomputable abbrev C41_4 : LCode := .seq C41_3 .ret
noncomputable abbrev C41_5 : LCode := .region true 0 [
 ⟨some 15, .mov (.cp 0), none⟩,
 ⟨some 16, .nilc (.cp 15), none⟩,
 ⟨some 17, .faddr (.cp 16) 3, none⟩,
 ⟨some 18, .load false none (.cp 17), none⟩,
 ⟨some 19, .len false (.cp 18), none⟩,
 ⟨some 20, .faddr (.cp 5) 1, none⟩,
 ⟨some 21, .load false none (.cp 20), none⟩,
 ⟨some 22, .bin .gtr (.cp 19) (.cp 21), none⟩,
 ⟨some 14, .mov (.cp 22), none⟩] [(3, 6)] [0, 14]
noncomputable abbrev C41_6 : LCode := .region false 0 [
 ⟨some 6, .mov (.c (.sl true 1 [])), none⟩,
 ⟨some 7, .mov (.c (.int .i64 4)), none⟩] [] [6, 7]
noncomputable abbrev C41_7 : LCode := .seq C41_6 .ret
noncomputable abbrev C41_8 : LCode := .cond (.cp 14) C41_7 .skip
noncomputable abbrev C41_9 : LCode := .seq C41_5 C41_8
noncomputable abbrev C41_10 : LCode := .cond (.cp 8) C41_4 C41_9
noncomputable abbrev C41_11 : LCode := .seq C41_2 C41_10
noncomputable abbrev C41_12 : LCode := .block 0 C41_11
noncomputable abbrev C41_13 : LCode := .region false 0 [
 ⟨some 23, .mov (.cp 0), none⟩,
 ⟨some 24, .nilc (.cp 23), none⟩,
 ⟨some 25, .faddr (.cp 24) 3, none⟩,
 ⟨some 26, .load false none (.cp 25), none⟩,
 ⟨some 6, .mov (.mv 26), none⟩,
 ⟨some 7, .mov (.c (.int .i64 0)), none⟩] [] [6, 7]
noncomputable abbrev C41_14 : LCode := .seq C41_13 .ret
noncomputable abbrev C41_15 : LCode := .seq C41_12 C41_14
noncomputable abbrev C41_16 : LCode := .seq C41_1 C41_15
noncomputable def L_tcomp_writer_done : LF := { np := 3, res := [.tmp 6, .tmp 7], keepRes := false, body := C41_16 }
noncomputable abbrev C16_1 : LCode := .region false 0 [
 ⟨some 4, .box (.mv 0), none⟩,
 ⟨some 6, .box (.mv 2), none⟩,
 ⟨some 7, .box (.cp 3), none⟩,
 ⟨some 8, .mov (.c (.sl true 1 [])), none⟩,
 ⟨some 9, .mov (.c (.int .i64 0)), none⟩] [] [1, 4, 6, 7]
noncomputable abbrev C16_2 : LCode := .region false 0 [
 ⟨some 11, .load false (some 3) (.cp 4), none⟩,
 ⟨some 12, .mov (.cp 1), none⟩,
 ⟨some 13, .call N_tcomp_known [.cp 11, .cp 12], none⟩,
 ⟨some 14, .un .not (.cp 13), none⟩,
 ⟨some 15, .mov (.cp 14), none⟩,
 ⟨some 16, .load false (some 3) (.cp 4), some (15, false)⟩,
 ⟨some 17, .mov (.cp 1), some (15, false)⟩,
 ⟨some 18, .load false (some 5) (.cp 6), some (15, false)⟩,
 ⟨some 19, .call N_value_Check [.cp 16, .cp 17, .cp 18], some (15, false)⟩,
 ⟨some 20, .un .not (.cp 19), some (15, false)⟩,
 ⟨some 21, .pick (.cp 15) (.c (.bool true)) (.cp 20), none⟩] [] [1, 4, 6, 7, 21]
noncomputable abbrev C16_3 : LCode := .region false 0 [
 ⟨some 8, .mov (.c (.sl true 1 [])), none⟩,
 ⟨some 9, .mov (.c (.int .i64 1)), none⟩] [] [8, 9]
noncomputable abbrev C16_4 : LCode := .seq C16_3 .ret
noncomputable abbrev C16_5 : LCode := .cond (.cp 21) C16_4 .skip
noncomputable abbrev C16_6 : LCode := .seq C16_2 C16_5
noncomputable abbrev C16_7 : LCode := .region false 0 [
 ⟨some 22, .load false (some 3) (.cp 4), none⟩,
 ⟨some 23, .build [.sl true 3 [], .sl true 2 [], .sl true 2 [], .sl true 1 []] [(0, 3, (.mv 22))], none⟩,
 ⟨some 24, .box (.mv 23), none⟩,
 ⟨some 10, .mov (.cp 24), none⟩] [] [1, 6, 7, 10]
noncomputable abbrev C16_8 : LCode := .region false 0 [
 ⟨some 25, .mov (.cp 10), none⟩,
 ⟨some 26, .mov (.cp 1), none⟩,
 ⟨some 27, .load false (some 5) (.cp 6), none⟩,
 ⟨some 28, .call N_tcomp_writer_value [.cp 25, .cp 26, .cp 27], none⟩] [] [6, 7, 10]
noncomputable abbrev C16_9 : LCode := .region false 0 [
 ⟨some 29, .mov (.cp 10), none⟩,
 ⟨some 30, .load false (some 5) (.cp 6), none⟩,
 ⟨some 31, .load false (some 2) (.cp 7), none⟩,
 ⟨some 32, .call N_tcomp_writer_done [.cp 29, .cp 30, .cp 31], none⟩,
 ⟨some 33, .ext (.cp 32) 0, none⟩,
 ⟨some 34, .ext (.cp 32) 1, none⟩,
 ⟨some 8, .mov (.mv 33), none⟩,
 ⟨some 9, .mov (.cp 34), none⟩] [] [8, 9]
noncomputable abbrev C16_10 : LCode := .seq C16_9 .ret
noncomputable abbrev C16_11 : LCode := .seq C16_8 C16_10
noncomputable def C16_12 : LCode := .seq C16_7 C16_11
noncomputable abbrev C16_13 : LCode := .only [1, 4, 6, 7] C16_12
noncomputable abbrev C16_14 : LCode := .seq C16_6 C16_13
noncomputable abbrev C16_15 : LCode := .seq C16_1 C16_14
noncomputable def L_tcomp_Encode : LF := { np := 4, res := [.tmp 8, .tmp 9], keepRes := false, body := C16_15 }
noncomputable abbrev C6_1 : LCode := .region false 0 [
 ⟨some 4, .mov (.c (.bool false)), none⟩] [] [0, 1]
noncomputable abbrev C6_2 : LCode := .region false 0 [
 ⟨some 19, .call N_law20_begun [], none⟩,
 ⟨some 20, .un .not (.cp 19), none⟩] [] [0, 1, 20]
noncomputable abbrev C6_3 : LCode := .region false 0 [
 ⟨some 4, .mov (.c (.bool false)), none⟩] [] [4]
noncomputable abbrev C6_4 : LCode := .seq C6_3 .ret
noncomputable abbrev C6_5 : LCode := .cond (.cp 20) C6_4 .skip
noncomputable abbrev C6_6 : LCode := .seq C6_2 C6_5
noncomputable abbrev C6_7 : LCode := .region false 1 [
 ⟨some 21, .build [.int .i64 0, .int .i64 0] [(0, 1, (.c (.int .i64 5))), (1, 1, (.c (.int .i64 5000)))], none⟩,
 ⟨some 5, .alloc 0 [.int .i64 0, .int .i64 0], none⟩,
 ⟨none, .store (some 2) (.cp 5) (.cp 21), none⟩] [] [0, 1, 5]
noncomputable abbrev C6_8 : LCode := .region false 0 [
 ⟨some 6, .mov (.c (.int .i64 1)), none⟩] [] [0, 1, 5, 6]
noncomputable abbrev C6_9 : LCode := .region false 0 [
 ⟨some 7, .mov (.c (.int .i64 (-64))), none⟩,
 ⟨some 8, .mov (.c (.int .i64 63)), none⟩] [] [0, 1, 5, 6, 7, 8]
noncomputable abbrev C6_10 : LCode := .region false 0 [
 ⟨some 22, .mov (.cp 6), none⟩,
 ⟨some 23, .bin .lss (.cp 22) (.c (.int .i64 5)), none⟩,
 ⟨some 24, .mov (.cp 23), none⟩,
 ⟨some 25, .mov (.cp 0), some (24, true)⟩,
 ⟨some 26, .conv .i64 (.cp 25), some (24, true)⟩,
 ⟨some 27, .mov (.cp 7), some (24, true)⟩,
 ⟨some 28, .bin .lss (.cp 26) (.cp 27), some (24, true)⟩,
 ⟨some 29, .mov (.cp 28), some (24, true)⟩,
 ⟨some 30, .mov (.cp 0), some (29, false)⟩,
 ⟨some 31, .conv .i64 (.cp 30), some (29, false)⟩,
 ⟨some 32, .mov (.cp 8), some (29, false)⟩,
 ⟨some 33, .bin .gtr (.cp 31) (.cp 32), some (29, false)⟩,
 ⟨some 34, .pick (.cp 29) (.c (.bool true)) (.cp 33), some (24, true)⟩,
 ⟨some 35, .pick (.cp 24) (.cp 34) (.c (.bool false)), none⟩] [] [0, 1, 5, 6, 7, 8, 35]
noncomputable abbrev C6_11 : LCode := .cond (.cp 35) .skip (.exit 0)
noncomputable abbrev C6_12 : LCode := .seq C6_10 C6_11
noncomputable abbrev C6_13 : LCode := .region false 0 [
 ⟨some 38, .mov (.cp 7), none⟩,
 ⟨some 39, .bin .mul (.cp 38) (.c (.int .i64 128)), none⟩,
 ⟨some 40, .mov (.cp 8), none⟩,
 ⟨some 41, .bin .mul (.cp 40) (.c (.int .i64 128)), none⟩,
 ⟨some 42, .bin .add (.cp 41) (.c (.int .i64 127)), none⟩,
 ⟨some 7, .mov (.cp 39), none⟩,
 ⟨some 8, .mov (.cp 42), none⟩] [] [0, 1, 5, 6, 7, 8]
noncomputable abbrev C6_14 : LCode := .block 1 C6_13
noncomputable abbrev C6_15 : LCode := .region false 0 [
 ⟨some 36, .mov (.cp 6), none⟩,
 ⟨some 37, .bin .add (.cp 36) (.c (.int .i64 1)), none⟩,
 ⟨some 6, .mov (.cp 37), none⟩] [] [0, 1, 5, 6, 7, 8]
noncomputable abbrev C6_16 : LCode := .seq C6_14 C6_15
noncomputable def C6_17 : LCode := .seq C6_12 C6_16
noncomputable abbrev C6_18 : LCode := .gc (.only [0, 1, 5, 6, 7, 8] C6_17)
noncomputable abbrev C6_19 : LCode := .only [0, 1, 5, 6, 7, 8] (.loop C6_18)
noncomputable abbrev C6_20 : LCode := .block 0 C6_19
noncomputable abbrev C6_21 : LCode := .seq C6_9 C6_20
noncomputable abbrev C6_22 : LCode := .region false 1 [
 ⟨some 43, .mov (.cp 0), none⟩,
 ⟨some 44, .conv .i64 (.cp 43), none⟩,
 ⟨some 45, .build [.int .i64 0, .int .i64 0, .str [], .sl true 5 [], .sl true 1 []] [(0, 1, (.c (.int .i64 8))), (1, 1, (.cp 44))], none⟩,
 ⟨some 9, .alloc 0 [.int .i64 0, .int .i64 0, .str [], .sl true 5 [], .sl true 1 []], none⟩,
 ⟨none, .store (some 5) (.cp 9) (.mv 45), none⟩] [] [1, 5, 6, 9]
noncomputable abbrev C6_23 : LCode := .region false 0 [
 ⟨some 47, .build [.sl true 3 [], .sl true 2 [], .sl true 2 []] [], none⟩,
 ⟨some 48, .load false (some 5) (.cp 9), none⟩,
 ⟨some 49, .load false (some 2) (.cp 5), none⟩,
 ⟨some 50, .call N_tcomp_Encode [.cp 47, .c (.str [105,51,50]), .cp 48, .cp 49], none⟩,
 ⟨some 46, .mov (.cp 50), none⟩,
 ⟨some 51, .ext (.cp 46) 0, none⟩,
 ⟨some 52, .ext (.cp 46) 1, none⟩,
 ⟨some 10, .mov (.mv 51), none⟩,
 ⟨some 11, .mov (.cp 52), none⟩] [] [1, 5, 6, 9, 10, 11]
noncomputable abbrev C6_24 : LCode := .region false 1 [
 ⟨some 53, .build [.int .i64 0, .int .i64 0, .str [], .sl true 5 [], .sl true 1 []] [(0, 1, (.c (.int .i64 15)))], none⟩,
 ⟨some 12, .alloc 0 [.int .i64 0, .int .i64 0, .str [], .sl true 5 [], .sl true 1 []], none⟩,
 ⟨none, .store (some 5) (.cp 12) (.mv 53), none⟩] [] [1, 5, 6, 9, 10, 11, 12]
noncomputable abbrev C6_25 : LCode := .region false 0 [
 ⟨some 13, .mov (.c (.int .i64 0)), none⟩] [] [1, 5, 6, 9, 10, 11, 12, 13]
noncomputable abbrev C6_26 : LCode := .region false 0 [
 ⟨some 54, .mov (.cp 13), none⟩,
 ⟨some 55, .mov (.cp 1), none⟩,
 ⟨some 56, .conv .i64 (.cp 55), none⟩,
 ⟨some 57, .bin .lss (.cp 54) (.cp 56), none⟩] [] [1, 5, 6, 9, 10, 11, 12, 13, 57]
noncomputable abbrev C6_27 : LCode := .cond (.cp 57) .skip (.exit 2)
noncomputable abbrev C6_28 : LCode := .seq C6_26 C6_27
noncomputable abbrev C6_29 : LCode := .region false 0 [
 ⟨some 60, .faddr (.cp 12) 3, none⟩,
 ⟨some 61, .load true none (.cp 60), none⟩,
 ⟨some 62, .load false (some 5) (.cp 9), none⟩,
 ⟨some 63, .bslice 5 (List.replicate 1 (.agg [.int .i64 0, .int .i64 0, .str [], .sl true 5 [], .sl true 1 []])) [(0, (.cp 62))], none⟩,
 ⟨some 64, .append 5 80 (.mv 61) (.cp 63), none⟩,
 ⟨some 65, .faddr (.cp 12) 3, none⟩,
 ⟨none, .store none (.cp 65) (.mv 64), none⟩] [] [1, 5, 6, 9, 10, 11, 12, 13]
noncomputable abbrev C6_30 : LCode := .block 3 C6_29
noncomputable abbrev C6_31 : LCode := .region false 0 [
 ⟨some 58, .mov (.cp 13), none⟩,
 ⟨some 59, .bin .add (.cp 58) (.c (.int .i64 1)), none⟩,
 ⟨some 13, .mov (.cp 59), none⟩] [] [1, 5, 6, 9, 10, 11, 12, 13]
noncomputable abbrev C6_32 : LCode := .seq C6_30 C6_31
noncomputable def C6_33 : LCode := .seq C6_28 C6_32
noncomputable abbrev C6_34 : LCode := .gc (.only [1, 5, 6, 9, 10, 11, 12, 13] C6_33)
noncomputable abbrev C6_35 : LCode := .only [1, 5, 6, 9, 10, 11, 12, 13] (.loop C6_34)
noncomputable abbrev C6_36 : LCode := .block 2 C6_35
noncomputable abbrev C6_37 : LCode := .seq C6_25 C6_36
noncomputable abbrev C6_38 : LCode := .region false 0 [
 ⟨some 67, .build [.sl true 3 [], .sl true 2 [], .sl true 2 []] [], none⟩,
 ⟨some 68, .load false (some 5) (.cp 12), none⟩,
 ⟨some 69, .load false (some 2) (.cp 5), none⟩,
 ⟨some 70, .call N_tcomp_Encode [.cp 67, .c (.str [108,105,115,116,60,105,51,50,62]), .cp 68, .cp 69], none⟩,
 ⟨some 66, .mov (.cp 70), none⟩,
 ⟨some 71, .ext (.cp 66) 0, none⟩,
 ⟨some 72, .ext (.cp 66) 1, none⟩,
 ⟨some 14, .mov (.mv 71), none⟩,
 ⟨some 15, .mov (.cp 72), none⟩] [] [1, 5, 6, 10, 11, 14, 15]
noncomputable abbrev C6_39 : LCode := .region false 0 [
 ⟨some 16, .mov (.c (.int .i64 1)), none⟩] [] [1, 5, 6, 10, 11, 14, 15, 16]
noncomputable abbrev C6_40 : LCode := .region false 0 [
 ⟨some 73, .mov (.cp 1), none⟩,
 ⟨some 74, .bin .geq (.cp 73) (.c (.int .u8 15)), none⟩] [] [1, 5, 6, 10, 11, 14, 15, 16, 74]
noncomputable abbrev C6_41 : LCode := .region false 0 [
 ⟨some 16, .mov (.c (.int .i64 2)), none⟩] [] [1, 5, 6, 10, 11, 14, 15, 16]
noncomputable abbrev C6_42 : LCode := .cond (.cp 74) C6_41 .skip
noncomputable abbrev C6_43 : LCode := .seq C6_40 C6_42
noncomputable abbrev C6_44 : LCode := .region false 0 [
 ⟨some 75, .mov (.cp 1), none⟩,
 ⟨some 76, .bin .geq (.cp 75) (.c (.int .u8 128)), none⟩] [] [1, 5, 6, 10, 11, 14, 15, 16, 76]
noncomputable abbrev C6_45 : LCode := .region false 0 [
 ⟨some 16, .mov (.c (.int .i64 3)), none⟩] [] [1, 5, 6, 10, 11, 14, 15, 16]
noncomputable abbrev C6_46 : LCode := .cond (.cp 76) C6_45 .skip
noncomputable abbrev C6_47 : LCode := .seq C6_44 C6_46
noncomputable abbrev C6_48 : LCode := .region false 0 [
 ⟨some 78, .build [.sl true 3 [], .sl true 2 [], .sl true 2 []] [], none⟩,
 ⟨some 79, .build [.int .i64 0, .int .i64 0, .str [], .sl true 5 [], .sl true 1 []] [(0, 1, (.c (.int .i64 13)))], none⟩,
 ⟨some 80, .load false (some 2) (.cp 5), none⟩,
 ⟨some 81, .call N_tcomp_Encode [.cp 78, .c (.str [109,97,112,60,105,51,50,44,105,51,50,62]), .cp 79, .cp 80], none⟩,
 ⟨some 77, .mov (.cp 81), none⟩,
 ⟨some 82, .ext (.cp 77) 0, none⟩,
 ⟨some 83, .ext (.cp 77) 1, none⟩,
 ⟨some 17, .mov (.mv 82), none⟩,
 ⟨some 18, .mov (.cp 83), none⟩] [] [1, 6, 10, 11, 14, 15, 16, 17, 18]
noncomputable abbrev C6_49 : LCode := .region false 0 [
 ⟨some 84, .mov (.cp 11), none⟩,
 ⟨some 85, .bin .eql (.cp 84) (.c (.int .i64 0)), none⟩,
 ⟨some 86, .mov (.cp 85), none⟩,
 ⟨some 87, .mov (.mv 10), some (86, true)⟩,
 ⟨some 88, .len false (.cp 87), some (86, true)⟩,
 ⟨some 89, .mov (.cp 6), some (86, true)⟩,
 ⟨some 90, .bin .eql (.cp 88) (.cp 89), some (86, true)⟩,
 ⟨some 91, .pick (.cp 86) (.cp 90) (.c (.bool false)), none⟩,
 ⟨some 92, .mov (.cp 91), none⟩,
 ⟨some 93, .mov (.cp 15), some (92, true)⟩,
 ⟨some 94, .bin .eql (.cp 93) (.c (.int .i64 0)), some (92, true)⟩,
 ⟨some 95, .pick (.cp 92) (.cp 94) (.c (.bool false)), none⟩,
 ⟨some 96, .mov (.cp 95), none⟩,
 ⟨some 97, .mov (.mv 14), some (96, true)⟩,
 ⟨some 98, .len false (.cp 97), some (96, true)⟩,
 ⟨some 99, .mov (.cp 16), some (96, true)⟩,
 ⟨some 100, .mov (.cp 1), some (96, true)⟩,
 ⟨some 101, .conv .i64 (.cp 100), some (96, true)⟩,
 ⟨some 102, .mov (.cp 6), some (96, true)⟩,
 ⟨some 103, .bin .mul (.cp 101) (.cp 102), some (96, true)⟩,
 ⟨some 104, .bin .add (.cp 99) (.cp 103), some (96, true)⟩,
 ⟨some 105, .bin .eql (.cp 98) (.cp 104), some (96, true)⟩,
 ⟨some 106, .pick (.cp 96) (.cp 105) (.c (.bool false)), none⟩,
 ⟨some 107, .mov (.cp 106), none⟩,
 ⟨some 108, .mov (.cp 18), some (107, true)⟩,
 ⟨some 109, .bin .eql (.cp 108) (.c (.int .i64 0)), some (107, true)⟩,
 ⟨some 110, .pick (.cp 107) (.cp 109) (.c (.bool false)), none⟩,
 ⟨some 111, .mov (.cp 110), none⟩,
 ⟨some 112, .mov (.mv 17), some (111, true)⟩,
 ⟨some 113, .len false (.cp 112), some (111, true)⟩,
 ⟨some 114, .bin .eql (.cp 113) (.c (.int .i64 1)), some (111, true)⟩,
 ⟨some 115, .pick (.cp 111) (.cp 114) (.c (.bool false)), none⟩,
 ⟨some 4, .mov (.cp 115), none⟩] [] [4]
noncomputable abbrev C6_50 : LCode := .seq C6_49 .ret
noncomputable def C6_51 : LCode := .seq C6_48 C6_50
noncomputable abbrev C6_52 : LCode := .only [1, 5, 6, 10, 11, 14, 15, 16] C6_51
noncomputable def C6_53 : LCode := .seq C6_47 C6_52
noncomputable abbrev C6_54 : LCode := .only [1, 5, 6, 10, 11, 14, 15, 16] C6_53
noncomputable abbrev C6_55 : LCode := .seq C6_43 C6_54
noncomputable abbrev C6_56 : LCode := .seq C6_39 C6_55
noncomputable abbrev C6_57 : LCode := .seq C6_38 C6_56
noncomputable abbrev C6_58 : LCode := .seq C6_37 C6_57
noncomputable abbrev C6_59 : LCode := .seq C6_24 C6_58
noncomputable abbrev C6_60 : LCode := .seq C6_23 C6_59
noncomputable def C6_61 : LCode := .seq C6_22 C6_60
noncomputable abbrev C6_62 : LCode := .only [0, 1, 5, 6] C6_61
noncomputable abbrev C6_63 : LCode := .seq C6_21 C6_62
noncomputable abbrev C6_64 : LCode := .seq C6_8 C6_63
noncomputable abbrev C6_65 : LCode := .seq C6_7 C6_64
noncomputable abbrev C6_66 : LCode := .seq C6_6 C6_65
noncomputable abbrev C6_67 : LCode := .seq C6_1 C6_66
noncomputable def L_law20_TcompSizes : LF := { np := 2, res := [.tmp 4], keepRes := false, body := C6_67 }
noncomputable abbrev C15_1 : LCode := .region false 0 [
 ⟨some 0, .mov (.c (.bool false)), none⟩] [] []
noncomputable abbrev C15_2 : LCode := .region false 1 [
 ⟨some 15, .build [.int .i64 0, .int .i64 0] [(0, 1, (.c (.int .i64 5))), (1, 1, (.c (.int .i64 50)))], none⟩,
 ⟨some 1, .alloc 0 [.int .i64 0, .int .i64 0], none⟩,
 ⟨none, .store (some 2) (.cp 1) (.cp 15), none⟩] [] [1]
noncomputable abbrev C15_3 : LCode := .region false 0 [
 ⟨some 17, .build [.sl true 3 [], .sl true 2 [], .sl true 2 []] [], none⟩,
 ⟨some 18, .build [.int .i64 0, .int .i64 0, .str [], .sl true 5 [], .sl true 1 []] [(0, 1, (.c (.int .i64 6))), (1, 1, (.c (.int .i64 (-2))))], none⟩,
 ⟨some 19, .load false (some 2) (.cp 1), none⟩,
 ⟨some 20, .call N_tcomp_Encode [.cp 17, .c (.str [105,49,54]), .cp 18, .cp 19], none⟩,
 ⟨some 16, .mov (.cp 20), none⟩,
 ⟨some 21, .ext (.cp 16) 0, none⟩,
 ⟨some 22, .ext (.cp 16) 1, none⟩,
 ⟨some 2, .mov (.mv 21), none⟩,
 ⟨some 3, .mov (.cp 22), none⟩] [] [1, 2, 3]
noncomputable abbrev C15_4 : LCode := .region false 1 [
 ⟨some 24, .build [.sl true 3 [], .sl true 2 [], .sl true 2 []] [], none⟩,
 ⟨some 25, .bslice 1 (List.replicate 2 (.int .u8 0)) [(0, (.c (.int .u8 10))), (1, (.c (.int .u8 9)))], none⟩,
 ⟨some 26, .load false (some 2) (.cp 1), none⟩,
 ⟨some 27, .call N_tcomp_Decode [.cp 24, .c (.str [105,49,54]), .cp 25, .cp 26], none⟩,
 ⟨some 23, .mov (.cp 27), none⟩,
 ⟨some 28, .ext (.cp 23) 0, none⟩,
 ⟨some 29, .ext (.cp 23) 1, none⟩,
 ⟨some 30, .ext (.cp 23) 2, none⟩,
 ⟨some 4, .alloc 0 [.int .i64 0, .int .i64 0, .str [], .sl true 5 [], .sl true 1 []], none⟩,
 ⟨none, .store (some 5) (.cp 4) (.mv 28), none⟩,
 ⟨some 5, .mov (.cp 29), none⟩,
 ⟨some 6, .mov (.cp 30), none⟩] [] [1, 2, 3, 4, 5, 6]
noncomputable abbrev C15_5 : LCode := .region false 1 [
 ⟨some 31, .build [.int .i64 0, .str [], .sl true 10 []] [(0, 1, (.c (.int .i64 4)))], none⟩,
 ⟨some 7, .alloc 0 [.int .i64 0, .str [], .sl true 10 []], none⟩,
 ⟨none, .store (some 3) (.cp 7) (.mv 31), none⟩] [] [1, 2, 3, 4, 5, 6, 7]
noncomputable abbrev C15_6 : LCode := .region false 0 [
 ⟨some 33, .build [.sl true 3 [], .sl true 2 [], .sl true 2 []] [], none⟩,
 ⟨some 34, .load false (some 3) (.cp 7), none⟩,
 ⟨some 35, .build [.int .i64 0, .int .i64 0, .str [], .sl true 5 [], .sl true 1 []] [(0, 1, (.c (.int .i64 12)))], none⟩,
 ⟨some 36, .load false (some 2) (.cp 1), none⟩,
 ⟨some 37, .call N_tcomp_EncodeAs [.cp 33, .cp 34, .cp 35, .cp 36], none⟩,
 ⟨some 32, .mov (.cp 37), none⟩,
 ⟨some 38, .ext (.cp 32) 0, none⟩,
 ⟨some 39, .ext (.cp 32) 1, none⟩,
 ⟨some 8, .mov (.mv 38), none⟩,
 ⟨some 9, .mov (.cp 39), none⟩] [] [1, 2, 3, 4, 5, 6, 7, 8, 9]
noncomputable abbrev C15_7 : LCode := .region false 1 [
 ⟨some 41, .build [.sl true 3 [], .sl true 2 [], .sl true 2 []] [], none⟩,
 ⟨some 42, .load false (some 3) (.cp 7), none⟩,
 ⟨some 43, .bslice 1 (List.replicate 1 (.int .u8 0)) [(0, (.c (.int .u8 0)))], none⟩,
 ⟨some 44, .load false (some 2) (.cp 1), none⟩,
 ⟨some 45, .call N_tcomp_DecodeAs [.cp 41, .cp 42, .cp 43, .cp 44], none⟩,
 ⟨some 40, .mov (.cp 45), none⟩,
 ⟨some 46, .ext (.cp 40) 0, none⟩,
 ⟨some 47, .ext (.cp 40) 1, none⟩,
 ⟨some 48, .ext (.cp 40) 2, none⟩,
 ⟨some 10, .alloc 0 [.int .i64 0, .int .i64 0, .str [], .sl true 5 [], .sl true 1 []], none⟩,
 ⟨none, .store (some 5) (.cp 10) (.mv 46), none⟩,
 ⟨some 11, .mov (.cp 47), none⟩,
 ⟨some 12, .mov (.cp 48), none⟩] [] [1, 2, 3, 4, 5, 6, 8, 9, 11, 12]
noncomputable abbrev C15_8 : LCode := .region false 0 [
 ⟨some 50, .bslice 1 (List.replicate 2 (.int .u8 0)) [(0, (.c (.int .u8 129))), (1, (.c (.int .u8 2)))], none⟩,
 ⟨some 51, .load false (some 2) (.cp 1), none⟩,
 ⟨some 52, .call N_tcomp_Skip [.cp 50, .c (.int .i64 5), .cp 51], none⟩,
 ⟨some 49, .mov (.cp 52), none⟩,
 ⟨some 53, .ext (.cp 49) 0, none⟩,
 ⟨some 54, .ext (.cp 49) 1, none⟩,
 ⟨some 13, .mov (.cp 53), none⟩,
 ⟨some 14, .mov (.cp 54), none⟩] [] [2, 3, 4, 5, 6, 8, 9, 11, 12, 13, 14]
noncomputable abbrev C15_9 : LCode := .region false 0 [
 ⟨some 55, .mov (.cp 3), none⟩,
 ⟨some 56, .bin .eql (.cp 55) (.c (.int .i64 0)), none⟩,
 ⟨some 57, .mov (.cp 56), none⟩,
 ⟨some 58, .mov (.mv 2), some (57, true)⟩,
 ⟨some 59, .bytesStr (.cp 58), some (57, true)⟩,
 ⟨some 60, .bin .eql (.cp 59) (.c (.str [3])), some (57, true)⟩,
 ⟨some 61, .pick (.cp 57) (.cp 60) (.c (.bool false)), none⟩,
 ⟨some 62, .mov (.cp 61), none⟩,
 ⟨some 63, .mov (.cp 6), some (62, true)⟩,
 ⟨some 64, .bin .eql (.cp 63) (.c (.int .i64 0)), some (62, true)⟩,
 ⟨some 65, .pick (.cp 62) (.cp 64) (.c (.bool false)), none⟩,
 ⟨some 66, .mov (.cp 65), none⟩,
 ⟨some 67, .faddr (.cp 4) 1, some (66, true)⟩,
 ⟨some 68, .load false none (.cp 67), some (66, true)⟩,
 ⟨some 69, .bin .eql (.cp 68) (.c (.int .i64 5)), some (66, true)⟩,
 ⟨some 70, .pick (.cp 66) (.cp 69) (.c (.bool false)), none⟩,
 ⟨some 71, .mov (.cp 70), none⟩,
 ⟨some 72, .mov (.cp 5), some (71, true)⟩,
 ⟨some 73, .bin .eql (.cp 72) (.c (.int .i64 1)), some (71, true)⟩,
 ⟨some 74, .pick (.cp 71) (.cp 73) (.c (.bool false)), none⟩,
 ⟨some 75, .mov (.cp 74), none⟩,
 ⟨some 76, .mov (.cp 9), some (75, true)⟩,
 ⟨some 77, .bin .eql (.cp 76) (.c (.int .i64 0)), some (75, true)⟩,
 ⟨some 78, .pick (.cp 75) (.cp 77) (.c (.bool false)), none⟩,
 ⟨some 79, .mov (.cp 78), none⟩,
 ⟨some 80, .mov (.mv 8), some (79, true)⟩,
 ⟨some 81, .bytesStr (.cp 80), some (79, true)⟩,
 ⟨some 82, .bin .eql (.cp 81) (.c (.str [0])), some (79, true)⟩,
 ⟨some 83, .pick (.cp 79) (.cp 82) (.c (.bool false)), none⟩,
 ⟨some 84, .mov (.cp 83), none⟩,
 ⟨some 85, .mov (.cp 12), some (84, true)⟩,
 ⟨some 86, .bin .eql (.cp 85) (.c (.int .i64 0)), some (84, true)⟩,
 ⟨some 87, .pick (.cp 84) (.cp 86) (.c (.bool false)), none⟩,
 ⟨some 88, .mov (.cp 87), none⟩,
 ⟨some 89, .mov (.cp 11), some (88, true)⟩,
 ⟨some 90, .bin .eql (.cp 89) (.c (.int .i64 1)), some (88, true)⟩,
 ⟨some 91, .pick (.cp 88) (.cp 90) (.c (.bool false)), none⟩,
 ⟨some 92, .mov (.cp 91), none⟩,
 ⟨some 93, .mov (.cp 14), some (92, true)⟩,
 ⟨some 94, .bin .eql (.cp 93) (.c (.int .i64 0)), some (92, true)⟩,
 ⟨some 95, .pick (.cp 92) (.cp 94) (.c (.bool false)), none⟩,
 ⟨some 96, .mov (.cp 95), none⟩,
 ⟨some 97, .mov (.cp 13), some (96, true)⟩,
 ⟨some 98, .bin .eql (.cp 97) (.c (.int .i64 2)), some (96, true)⟩,
 ⟨some 99, .pick (.cp 96) (.cp 98) (.c (.bool false)), none⟩,
 ⟨some 100, .mov (.cp 99), none⟩,
 ⟨some 101, .call N_tcomp_Short [.c (.int .i64 3)], some (100, true)⟩,
 ⟨some 102, .bin .eql (.cp 101) (.c (.int .i64 3)), some (100, true)⟩,
 ⟨some 103, .pick (.cp 100) (.cp 102) (.c (.bool false)), none⟩,
 ⟨some 0, .mov (.cp 103), none⟩] [] [0]
noncomputable abbrev C15_10 : LCode := .seq C15_9 .ret
noncomputable abbrev C15_11 : LCode := .seq C15_8 C15_10
noncomputable abbrev C15_12 : LCode := .seq C15_7 C15_11
noncomputable abbrev C15_13 : LCode := .seq C15_6 C15_12
noncomputable abbrev C15_14 : LCode := .seq C15_5 C15_13
noncomputable abbrev C15_15 : LCode := .seq C15_4 C15_14
noncomputable abbrev C15_16 : LCode := .seq C15_3 C15_15
noncomputable abbrev C15_17 : LCode := .seq C15_2 C15_16
noncomputable abbrev C15_18 : LCode := .seq C15_1 C15_17
noncomputable def L_law20_begun : LF := { np := 0, res := [.tmp 0], keepRes := false, body := C15_18 }
noncomputable abbrev C34_1 : LCode := .region false 1 [
 ⟨some 4, .box (.mv 0), none⟩,
 ⟨some 7, .box (.cp 3), none⟩,
 ⟨some 8, .alloc 0 [.int .i64 0, .int .i64 0, .str [], .sl true 5 [], .sl true 1 []], none⟩,
 ⟨some 9, .mov (.c (.int .i64 0)), none⟩,
 ⟨some 10, .mov (.c (.int .i64 0)), none⟩] [] [1, 2, 4, 7, 8]
noncomputable abbrev C34_2 : LCode := .region false 0 [
 ⟨some 12, .load false (some 3) (.cp 4), none⟩,
 ⟨some 13, .mov (.cp 1), none⟩,
 ⟨some 14, .call N_tcomp_known [.cp 12, .cp 13], none⟩,
 ⟨some 15, .un .not (.cp 14), none⟩] [] [1, 2, 4, 7, 8, 15]
noncomputable abbrev C34_3 : LCode := .region false 0 [
 ⟨some 16, .build [.int .i64 0, .int .i64 0, .str [], .sl true 5 [], .sl true 1 []] [], none⟩,
 ⟨none, .store (some 5) (.cp 8) (.mv 16), none⟩,
 ⟨some 9, .mov (.c (.int .i64 0)), none⟩,
 ⟨some 10, .mov (.c (.int .i64 1)), none⟩] [] [8, 9, 10]
noncomputable abbrev C34_4 : LCode := .seq C34_3 .ret
noncomputable abbrev C34_5 : LCode := .cond (.cp 15) C34_4 .skip
noncomputable abbrev C34_6 : LCode := .seq C34_2 C34_5
noncomputable abbrev C34_7 : LCode := .region false 0 [
 ⟨some 17, .mov (.mv 2), none⟩,
 ⟨some 18, .load false (some 2) (.cp 7), none⟩,
 ⟨some 19, .build [.sl true 1 [], .int .i64 0, .int .i64 0, .int .i64 0, .int .i64 0] [(0, 1, (.mv 17)), (2, 2, (.cp 18))], none⟩,
 ⟨some 20, .load false (some 3) (.cp 4), none⟩,
 ⟨some 21, .build [.sl true 1 [], .int .i64 0, .int .i64 0, .int .i64 0, .int .i64 0, .sl true 3 [], .sl true 2 [], .sl true 2 []] [(0, 5, (.mv 19)), (5, 3, (.mv 20))], none⟩,
 ⟨some 22, .box (.mv 21), none⟩,
 ⟨some 11, .mov (.cp 22), none⟩] [] [1, 8, 11]
noncomputable abbrev C34_8 : LCode := .region false 0 [
 ⟨some 23, .mov (.cp 11), none⟩,
 ⟨some 24, .mov (.cp 1), none⟩,
 ⟨some 25, .call N_tcomp_reader_value [.cp 23, .cp 24, .c (.int .i64 1)], none⟩,
 ⟨none, .store (some 5) (.cp 8) (.mv 25), none⟩] [] [8, 11]
noncomputable abbrev C34_9 : LCode := .region false 0 [
 ⟨some 26, .mov (.cp 11), none⟩,
 ⟨some 27, .load false (some 5) (.cp 8), none⟩,
 ⟨some 28, .call N_tcomp_reader_done [.cp 26, .cp 27], none⟩,
 ⟨some 29, .ext (.cp 28) 0, none⟩,
 ⟨some 30, .ext (.cp 28) 1, none⟩,
 ⟨some 31, .ext (.cp 28) 2, none⟩,
 ⟨none, .store (some 5) (.cp 8) (.mv 29), none⟩,
 ⟨some 9, .mov (.cp 30), none⟩,
 ⟨some 10, .mov (.cp 31), none⟩] [] [8, 9, 10]
noncomputable abbrev C34_10 : LCode := .seq C34_9 .ret
noncomputable abbrev C34_11 : LCode := .seq C34_8 C34_10
noncomputable abbrev C34_12 : LCode := .seq C34_7 C34_11
noncomputable abbrev C34_13 : LCode := .seq C34_6 C34_12
noncomputable abbrev C34_14 : LCode := .seq C34_1 C34_13
noncomputable def L_tcomp_Decode : LF := { np := 4, res := [.cell 8 (some 5), .tmp 9, .tmp 10], keepRes := false, body := C34_14 }
noncomputable abbrev C35_1 : LCode := .region false 0 [
 ⟨some 4, .box (.mv 0), none⟩,
 ⟨some 5, .box (.mv 1), none⟩,
 ⟨some 6, .box (.mv 2), none⟩,
 ⟨some 7, .box (.cp 3), none⟩,
 ⟨some 8, .mov (.c (.sl true 1 [])), none⟩,
 ⟨some 9, .mov (.c (.int .i64 0)), none⟩] [] [4, 5, 6, 7]
noncomputable abbrev C35_2 : LCode := .region false 0 [
 ⟨some 11, .load false (some 3) (.cp 4), none⟩,
 ⟨some 12, .load false (some 3) (.cp 5), none⟩,
 ⟨some 13, .load false (some 5) (.cp 6), none⟩,
 ⟨some 14, .call N_value_Fields [.cp 11, .cp 12, .cp 13], none⟩,
 ⟨some 15, .un .not (.cp 14), none⟩] [] [4, 5, 6, 7, 15]
noncomputable abbrev C35_3 : LCode := .region false 0 [
 ⟨some 8, .mov (.c (.sl true 1 [])), none⟩,
 ⟨some 9, .mov (.c (.int .i64 1)), none⟩] [] [8, 9]
noncomputable abbrev C35_4 : LCode := .seq C35_3 .ret
noncomputable abbrev C35_5 : LCode := .cond (.cp 15) C35_4 .skip
noncomputable abbrev C35_6 : LCode := .seq C35_2 C35_5
noncomputable abbrev C35_7 : LCode := .region false 0 [
 ⟨some 16, .load false (some 3) (.cp 4), none⟩,
 ⟨some 17, .build [.sl true 3 [], .sl true 2 [], .sl true 2 [], .sl true 1 []] [(0, 3, (.mv 16))], none⟩,
 ⟨some 18, .box (.mv 17), none⟩,
 ⟨some 10, .mov (.cp 18), none⟩] [] [5, 6, 7, 10]
noncomputable abbrev C35_8 : LCode := .region false 0 [
 ⟨some 19, .mov (.cp 10), none⟩,
 ⟨some 20, .load false (some 3) (.cp 5), none⟩,
 ⟨some 21, .load false (some 5) (.cp 6), none⟩,
 ⟨some 22, .call N_tcomp_writer_fields [.cp 19, .cp 20, .cp 21], none⟩] [] [6, 7, 10]
noncomputable abbrev C35_9 : LCode := .region false 0 [
 ⟨some 23, .mov (.cp 10), none⟩,
 ⟨some 24, .load false (some 5) (.cp 6), none⟩,
 ⟨some 25, .load false (some 2) (.cp 7), none⟩,
 ⟨some 26, .call N_tcomp_writer_done [.cp 23, .cp 24, .cp 25], none⟩,
 ⟨some 27, .ext (.cp 26) 0, none⟩,
 ⟨some 28, .ext (.cp 26) 1, none⟩,
 ⟨some 8, .mov (.mv 27), none⟩,
 ⟨some 9, .mov (.cp 28), none⟩] [] [8, 9]
noncomputable abbrev C35_10 : LCode := .seq C35_9 .ret
noncomputable abbrev C35_11 : LCode := .seq C35_8 C35_10
noncomputable abbrev C35_12 : LCode := .seq C35_7 C35_11
noncomputable abbrev C35_13 : LCode := .seq C35_6 C35_12
noncomputable abbrev C35_14 : LCode := .seq C35_1 C35_13
noncomputable def L_tcomp_EncodeAs : LF := { np := 4, res := [.tmp 8, .tmp 9], keepRes := false, body := C35_14 }
noncomputable abbrev C36_1 : LCode := .region false 1 [
 ⟨some 4, .box (.mv 0), none⟩,
 ⟨some 5, .box (.mv 1), none⟩,
 ⟨some 7, .box (.cp 3), none⟩,
 ⟨some 8, .alloc 0 [.int .i64 0, .int .i64 0, .str [], .sl true 5 [], .sl true 1 []], none⟩,
 ⟨some 9, .mov (.c (.int .i64 0)), none⟩,
 ⟨some 10, .mov (.c (.int .i64 0)), none⟩] [] [2, 4, 5, 7, 8]
noncomputable abbrev C36_2 : LCode := .region false 0 [
 ⟨some 12, .mov (.mv 2), none⟩,
 ⟨some 13, .load false (some 2) (.cp 7), none⟩,
 ⟨some 14, .build [.sl true 1 [], .int .i64 0, .int .i64 0, .int .i64 0, .int .i64 0] [(0, 1, (.mv 12)), (2, 2, (.cp 13))], none⟩,
 ⟨some 15, .load false (some 3) (.cp 4), none⟩,
 ⟨some 16, .build [.sl true 1 [], .int .i64 0, .int .i64 0, .int .i64 0, .int .i64 0, .sl true 3 [], .sl true 2 [], .sl true 2 []] [(0, 5, (.mv 14)), (5, 3, (.mv 15))], none⟩,
 ⟨some 17, .box (.mv 16), none⟩,
 ⟨some 11, .mov (.cp 17), none⟩] [] [5, 8, 11]
noncomputable abbrev C36_3 : LCode := .region false 0 [
 ⟨some 18, .mov (.cp 11), none⟩,
 ⟨some 19, .load false (some 3) (.cp 5), none⟩,
 ⟨some 20, .call N_tcomp_reader_fields [.cp 18, .cp 19, .c (.int .i64 1)], none⟩,
 ⟨none, .store (some 5) (.cp 8) (.mv 20), none⟩] [] [8, 11]
noncomputable abbrev C36_4 : LCode := .region false 0 [
 ⟨some 21, .mov (.cp 11), none⟩,
 ⟨some 22, .load false (some 5) (.cp 8), none⟩,
 ⟨some 23, .call N_tcomp_reader_done [.cp 21, .cp 22], none⟩,
 ⟨some 24, .ext (.cp 23) 0, none⟩,
 ⟨some 25, .ext (.cp 23) 1, none⟩,
 ⟨some 26, .ext (.cp 23) 2, none⟩,
 ⟨none, .store (some 5) (.cp 8) (.mv 24), none⟩,
 ⟨some 9, .mov (.cp 25), none⟩,
 ⟨some 10, .mov (.cp 26), none⟩] [] [8, 9, 10]
noncomputable abbrev C36_5 : LCode := .seq C36_4 .ret
noncomputable abbrev C36_6 : LCode := .seq C36_3 C36_5
noncomputable abbrev C36_7 : LCode := .seq C36_2 C36_6
noncomputable abbrev C36_8 : LCode := .seq C36_1 C36_7
noncomputable def L_tcomp_DecodeAs : LF := { np := 4, res := [.cell 8 (some 5), .tmp 9, .tmp 10], keepRes := false, body := C36_8 }
noncomputable abbrev C37_1 : LCode := .region false 0 [
 ⟨some 5, .box (.cp 2), none⟩,
 ⟨some 6, .mov (.c (.int .i64 0)), none⟩,
 ⟨some 7, .mov (.c (.int .i64 0)), none⟩] [] [0, 1, 5]
noncomputable abbrev C37_2 : LCode := .region false 0 [
 ⟨some 9, .mov (.mv 0), none⟩,
 ⟨some 10, .load false (some 2) (.cp 5), none⟩,
 ⟨some 11, .build [.sl true 1 [], .int .i64 0, .int .i64 0, .int .i64 0, .int .i64 0] [(0, 1, (.mv 9)), (2, 2, (.cp 10))], none⟩,
 ⟨some 12, .box (.mv 11), none⟩,
 ⟨some 8, .mov (.cp 12), none⟩] [] [1, 8]
noncomputable abbrev C37_3 : LCode := .region false 0 [
 ⟨some 13, .mov (.cp 8), none⟩,
 ⟨some 14, .mov (.cp 1), none⟩,
 ⟨some 15, .call N_tcomp_cursor_skip [.cp 13, .cp 14, .c (.int .i64 1), .c (.bool false)], none⟩] [] [8]
noncomputable abbrev C37_4 : LCode := .region false 0 [
 ⟨some 16, .mov (.cp 8), none⟩,
 ⟨some 17, .call N_tcomp_cursor_ok [.cp 16], none⟩,
 ⟨some 18, .un .not (.cp 17), none⟩] [] [8, 18]
noncomputable abbrev C37_5 : LCode := .region true 0 [
 ⟨some 19, .mov (.cp 8), none⟩,
 ⟨some 20, .nilc (.cp 19), none⟩,
 ⟨some 21, .faddr (.cp 20) 4, none⟩,
 ⟨some 22, .load false none (.cp 21), none⟩,
 ⟨some 6, .mov (.c (.int .i64 0)), none⟩,
 ⟨some 7, .mov (.cp 22), none⟩] [] [6, 7]
noncomputable abbrev C37_6 : LCode := .seq C37_5 .ret
noncomputable abbrev C37_7 : LCode := .cond (.cp 18) C37_6 .skip
noncomputable abbrev C37_8 : LCode := .seq C37_4 C37_7
noncomputable abbrev C37_9 : LCode := .seq C37_3 C37_8
noncomputable abbrev C37_10 : LCode := .region false 0 [
 ⟨some 23, .mov (.cp 8), none⟩,
 ⟨some 24, .nilc (.cp 23), none⟩,
 ⟨some 25, .faddr (.cp 24) 1, none⟩,
 ⟨some 26, .load false none (.cp 25), none⟩,
 ⟨some 6, .mov (.cp 26), none⟩,
 ⟨some 7, .mov (.c (.int .i64 0)), none⟩] [] [6, 7]
noncomputable abbrev C37_11 : LCode := .seq C37_10 .ret
noncomputable abbrev C37_12 : LCode := .seq C37_9 C37_11
noncomputable abbrev C37_13 : LCode := .seq C37_2 C37_12
noncomputable abbrev C37_14 : LCode := .seq C37_1 C37_13
noncomputable def L_tcomp_Skip : LF := { np := 3, res := [.tmp 6, .tmp 7], keepRes := false, body := C37_14 }
noncomputable abbrev C97_1 : LCode := .region false 1 [
 ⟨some 6, .alloc 0 [.int .i64 0, .int .i64 0, .str [], .sl true 5 [], .sl true 1 []], none⟩] [] [0, 1, 2, 6]
noncomputable abbrev C97_2 : LCode := .region false 0 [
 ⟨some 21, .mov (.cp 1), none⟩,
 ⟨some 22, .call N_kind_Head [.cp 21], none⟩,
 ⟨some 20, .mov (.cp 22), none⟩,
 ⟨some 23, .ext (.cp 20) 0, none⟩,
 ⟨some 24, .ext (.cp 20) 1, none⟩,
 ⟨some 25, .ext (.cp 20) 2, none⟩,
 ⟨some 26, .ext (.cp 20) 3, none⟩,
 ⟨some 27, .ext (.cp 20) 4, none⟩,
 ⟨some 7, .mov (.cp 23), none⟩,
 ⟨some 8, .mov (.cp 24), none⟩,
 ⟨some 9, .mov (.cp 25), none⟩,
 ⟨some 10, .mov (.cp 26), none⟩,
 ⟨some 11, .mov (.cp 27), none⟩] [] [0, 1, 2, 6, 8, 9, 10]
noncomputable abbrev C97_3 : LCode := .region false 1 [
 ⟨some 28, .mov (.cp 0), none⟩,
 ⟨some 29, .nilc (.cp 28), none⟩,
 ⟨some 30, .faddr (.cp 29) 5, none⟩,
 ⟨some 31, .load false (some 3) (.cp 30), none⟩,
 ⟨some 32, .mov (.cp 1), none⟩,
 ⟨some 33, .call N_value_Kind [.cp 31, .cp 32], none⟩,
 ⟨some 34, .build [.int .i64 0, .int .i64 0, .str [], .sl true 5 [], .sl true 1 []] [(0, 1, (.cp 33))], none⟩,
 ⟨some 12, .alloc 0 [.int .i64 0, .int .i64 0, .str [], .sl true 5 [], .sl true 1 []], none⟩,
 ⟨none, .store (some 5) (.cp 12) (.mv 34), none⟩] [] [0, 2, 6, 8, 9, 10, 12]
noncomputable abbrev C97_4 : LCode := .region false 0 [
 ⟨some 35, .mov (.cp 0), none⟩,
 ⟨some 36, .nilc (.cp 35), none⟩,
 ⟨some 37, .faddr (.cp 36) 0, none⟩,
 ⟨some 38, .call N_tcomp_cursor_ok [.cp 37], none⟩,
 ⟨some 39, .un .not (.cp 38), none⟩] [] [0, 2, 6, 8, 9, 10, 12, 39]
noncomputable abbrev C97_5 : LCode := .region false 0 [
 ⟨some 40, .load false (some 5) (.cp 12), none⟩,
 ⟨none, .store (some 5) (.cp 6) (.mv 40), none⟩] [] [6]
noncomputable abbrev C97_6 : LCode := .seq C97_5 .ret
noncomputable abbrev C97_7 : LCode := .cond (.cp 39) C97_6 .skip
noncomputable abbrev C97_8 : LCode := .seq C97_4 C97_7
noncomputable abbrev C97_9 : LCode := .region false 0 [
 ⟨some 41, .faddr (.cp 12) 0, none⟩,
 ⟨some 42, .load false none (.cp 41), none⟩] [] [0, 2, 6, 8, 9, 10, 12, 42]
noncomputable abbrev C97_10 : LCode := .region false 0 [
 ⟨some 57, .bin .eql (.cp 42) (.c (.int .i64 2)), none⟩,
 ⟨some 56, .mov (.cp 57), none⟩] [] [0, 2, 6, 8, 9, 10, 12, 42, 56]
noncomputable abbrev C97_11 : LCode := .region false 0 [
 ⟨some 58, .mov (.cp 0), none⟩,
 ⟨some 59, .nilc (.cp 58), none⟩,
 ⟨some 60, .faddr (.cp 59) 0, none⟩,
 ⟨some 61, .call N_tcomp_cursor_byte [.cp 60], none⟩,
 ⟨some 13, .mov (.cp 61), none⟩] [] [0, 6, 12, 13]
noncomputable abbrev C97_12 : LCode := .region false 0 [
 ⟨some 62, .mov (.cp 0), none⟩,
 ⟨some 63, .nilc (.cp 62), none⟩,
 ⟨some 64, .faddr (.cp 63) 0, none⟩,
 ⟨some 65, .mov (.cp 13), none⟩,
 ⟨some 66, .bin .neq (.cp 65) (.c (.int .i64 1)), none⟩,
 ⟨some 67, .mov (.cp 66), none⟩,
 ⟨some 68, .mov (.cp 13), some (67, true)⟩,
 ⟨some 69, .bin .neq (.cp 68) (.c (.int .i64 2)), some (67, true)⟩,
 ⟨some 70, .pick (.cp 67) (.cp 69) (.c (.bool false)), none⟩,
 ⟨some 71, .call N_tcomp_cursor_fails [.cp 64, .cp 70, .c (.int .i64 2)], none⟩] [] [6, 12, 13]
noncomputable abbrev C97_13 : LCode := .region false 0 [
 ⟨some 72, .mov (.cp 13), none⟩,
 ⟨some 73, .bin .sub (.c (.int .i64 2)) (.cp 72), none⟩,
 ⟨some 74, .faddr (.cp 12) 1, none⟩,
 ⟨none, .store none (.cp 74) (.cp 73), none⟩] [] [6, 12]
noncomputable abbrev C97_14 : LCode := .seq C97_12 C97_13
noncomputable abbrev C97_15 : LCode := .seq C97_11 C97_14
noncomputable abbrev C97_16 : LCode := .region false 0 [
 ⟨some 76, .bin .eql (.cp 42) (.c (.int .i64 3)), none⟩,
 ⟨some 75, .mov (.cp 76), none⟩] [] [0, 2, 6, 8, 9, 10, 12, 42, 75]
noncomputable abbrev C97_17 : LCode := .region false 0 [
 ⟨some 77, .mov (.cp 0), none⟩,
 ⟨some 78, .nilc (.cp 77), none⟩,
 ⟨some 79, .faddr (.cp 78) 0, none⟩,
 ⟨some 80, .call N_tcomp_cursor_byte [.cp 79], none⟩,
 ⟨some 81, .conv .i8 (.cp 80), none⟩,
 ⟨some 82, .conv .i64 (.cp 81), none⟩,
 ⟨some 83, .faddr (.cp 12) 1, none⟩,
 ⟨none, .store none (.cp 83) (.cp 82), none⟩] [] [6, 12]
noncomputable abbrev C97_18 : LCode := .region false 0 [
 ⟨some 85, .bin .eql (.cp 42) (.c (.int .i64 6)), none⟩,
 ⟨some 84, .mov (.cp 85), none⟩] [] [0, 2, 6, 8, 9, 10, 12, 42, 84]
noncomputable abbrev C97_19 : LCode := .region false 0 [
 ⟨some 86, .mov (.cp 0), none⟩,
 ⟨some 87, .nilc (.cp 86), none⟩,
 ⟨some 88, .faddr (.cp 87) 0, none⟩,
 ⟨some 89, .call N_tcomp_cursor_num [.cp 88, .c (.int .i64 32)], none⟩,
 ⟨some 90, .conv .u32 (.cp 89), none⟩,
 ⟨some 91, .call N_zig_Zag32 [.cp 90], none⟩,
 ⟨some 92, .conv .i64 (.cp 91), none⟩,
 ⟨some 93, .faddr (.cp 12) 1, none⟩,
 ⟨none, .store none (.cp 93) (.cp 92), none⟩] [] [0, 6, 12]
noncomputable abbrev C97_20 : LCode := .region true 0 [
 ⟨some 94, .mov (.cp 0), none⟩,
 ⟨some 95, .nilc (.cp 94), none⟩,
 ⟨some 96, .faddr (.cp 95) 0, none⟩,
 ⟨some 97, .faddr (.cp 12) 1, none⟩,
 ⟨some 98, .load false none (.cp 97), none⟩,
 ⟨some 99, .faddr (.cp 12) 1, none⟩,
 ⟨some 100, .load false none (.cp 99), none⟩,
 ⟨some 101, .conv .i16 (.cp 100), none⟩,
 ⟨some 102, .conv .i64 (.cp 101), none⟩,
 ⟨some 103, .bin .neq (.cp 98) (.cp 102), none⟩,
 ⟨some 104, .call N_tcomp_cursor_fails [.cp 96, .cp 103, .c (.int .i64 2)], none⟩] [(4, 6)] [6, 12]
noncomputable abbrev C97_21 : LCode := .seq C97_19 C97_20
noncomputable abbrev C97_22 : LCode := .region false 0 [
 ⟨some 106, .bin .eql (.cp 42) (.c (.int .i64 8)), none⟩,
 ⟨some 105, .mov (.cp 106), none⟩] [] [0, 2, 6, 8, 9, 10, 12, 42, 105]
noncomputable abbrev C97_23 : LCode := .region false 0 [
 ⟨some 107, .mov (.cp 0), none⟩,
 ⟨some 108, .nilc (.cp 107), none⟩,
 ⟨some 109, .faddr (.cp 108) 0, none⟩,
 ⟨some 110, .call N_tcomp_cursor_num [.cp 109, .c (.int .i64 32)], none⟩,
 ⟨some 111, .conv .u32 (.cp 110), none⟩,
 ⟨some 112, .call N_zig_Zag32 [.cp 111], none⟩,
 ⟨some 113, .conv .i64 (.cp 112), none⟩,
 ⟨some 114, .faddr (.cp 12) 1, none⟩,
 ⟨none, .store none (.cp 114) (.cp 113), none⟩] [] [6, 12]
noncomputable abbrev C97_24 : LCode := .region false 0 [
 ⟨some 116, .bin .eql (.cp 42) (.c (.int .i64 17)), none⟩,
 ⟨some 115, .mov (.cp 116), none⟩] [] [0, 2, 6, 8, 9, 10, 12, 42, 115]
noncomputable abbrev C97_25 : LCode := .region false 0 [
 ⟨some 117, .mov (.cp 0), none⟩,
 ⟨some 118, .nilc (.cp 117), none⟩,
 ⟨some 119, .faddr (.cp 118) 0, none⟩,
 ⟨some 120, .call N_tcomp_cursor_num [.cp 119, .c (.int .i64 32)], none⟩,
 ⟨some 121, .conv .u32 (.cp 120), none⟩,
 ⟨some 122, .call N_zig_Zag32 [.cp 121], none⟩,
 ⟨some 123, .conv .i64 (.cp 122), none⟩,
 ⟨some 124, .faddr (.cp 12) 1, none⟩,
 ⟨none, .store none (.cp 124) (.cp 123), none⟩] [] [0, 6, 8, 12]
noncomputable abbrev C97_26 : LCode := .region false 1 [
 ⟨some 126, .mov (.cp 0), none⟩,
 ⟨some 127, .nilc (.cp 126), none⟩,
 ⟨some 128, .faddr (.cp 127) 5, none⟩,
 ⟨some 129, .load false (some 3) (.cp 128), none⟩,
 ⟨some 130, .mov (.cp 8), none⟩,
 ⟨some 131, .call N_value_Enum [.cp 129, .cp 130], none⟩,
 ⟨some 125, .mov (.cp 131), none⟩,
 ⟨some 132, .ext (.cp 125) 0, none⟩,
 ⟨some 133, .ext (.cp 125) 1, none⟩,
 ⟨some 14, .alloc 0 [.str [], .sl true 3 []], none⟩,
 ⟨none, .store (some 2) (.cp 14) (.mv 132), none⟩,
 ⟨some 15, .mov (.cp 133), none⟩] [] [0, 6, 12, 14]
noncomputable abbrev C97_27 : LCode := .region true 0 [
 ⟨some 134, .mov (.cp 0), none⟩,
 ⟨some 135, .nilc (.cp 134), none⟩,
 ⟨some 136, .faddr (.cp 135) 0, none⟩,
 ⟨some 137, .faddr (.cp 14) 1, none⟩,
 ⟨some 138, .load false none (.cp 137), none⟩,
 ⟨some 139, .mkfn N_tcomp_reader_value_1 [.cp 12], none⟩,
 ⟨some 140, .call N_slices_ContainsFunc_api_Member_api_Member [.cp 138, .cp 139], none⟩,
 ⟨some 141, .un .not (.cp 140), none⟩,
 ⟨some 142, .call N_tcomp_cursor_fails [.cp 136, .cp 141, .c (.int .i64 12)], none⟩] [] [6, 12]
noncomputable abbrev C97_28 : LCode := .seq C97_26 C97_27
noncomputable abbrev C97_29 : LCode := .seq C97_25 C97_28
noncomputable abbrev C97_30 : LCode := .region false 0 [
 ⟨some 144, .bin .eql (.cp 42) (.c (.int .i64 10)), none⟩,
 ⟨some 143, .mov (.cp 144), none⟩] [] [0, 2, 6, 8, 9, 10, 12, 42, 143]
noncomputable abbrev C97_31 : LCode := .region false 0 [
 ⟨some 145, .mov (.cp 0), none⟩,
 ⟨some 146, .nilc (.cp 145), none⟩,
 ⟨some 147, .faddr (.cp 146) 0, none⟩,
 ⟨some 148, .call N_tcomp_cursor_num [.cp 147, .c (.int .i64 64)], none⟩,
 ⟨some 149, .call N_zig_Zag64 [.cp 148], none⟩,
 ⟨some 150, .faddr (.cp 12) 1, none⟩,
 ⟨none, .store none (.cp 150) (.cp 149), none⟩] [] [6, 12]
noncomputable abbrev C97_32 : LCode := .region false 0 [
 ⟨some 152, .bin .eql (.cp 42) (.c (.int .i64 4)), none⟩,
 ⟨some 151, .mov (.cp 152), none⟩] [] [0, 2, 6, 8, 9, 10, 12, 42, 151]
noncomputable abbrev C97_33 : LCode := .region false 0 [
 ⟨some 153, .mov (.cp 0), none⟩,
 ⟨some 154, .nilc (.cp 153), none⟩,
 ⟨some 155, .faddr (.cp 154) 0, none⟩,
 ⟨some 156, .call N_tcomp_cursor_bytes [.cp 155, .c (.int .u64 8)], none⟩,
 ⟨some 157, .len false (.cp 156), none⟩,
 ⟨some 158, .mov (.c (.int .i64 0)), none⟩] [] [6, 12, 156, 157, 158]
noncomputable abbrev C97_34 : LCode := .region false 0 [
 ⟨some 159, .bin .lss (.cp 158) (.cp 157), none⟩] [] [6, 12, 156, 157, 158, 159]
noncomputable abbrev C97_35 : LCode := .cond (.cp 159) .skip (.exit 1)
noncomputable abbrev C97_36 : LCode := .region false 0 [
 ⟨some 160, .mov (.cp 158), none⟩,
 ⟨some 161, .iaddr 1 none (.cp 156) (.cp 158), none⟩,
 ⟨some 162, .load false none (.cp 161), none⟩,
 ⟨some 16, .mov (.cp 160), none⟩,
 ⟨some 17, .mov (.cp 162), none⟩] [] [6, 12, 16, 17, 156, 157, 158]
noncomputable abbrev C97_37 : LCode := .region true 0 [
 ⟨some 163, .faddr (.cp 12) 1, none⟩,
 ⟨some 164, .load false none (.cp 163), none⟩,
 ⟨some 165, .mov (.cp 17), none⟩,
 ⟨some 166, .conv .u64 (.cp 165), none⟩,
 ⟨some 167, .mov (.cp 16), none⟩,
 ⟨some 168, .bin .mul (.c (.int .i64 8)) (.cp 167), none⟩,
 ⟨some 169, .bin .shl (.cp 166) (.cp 168), none⟩,
 ⟨some 170, .conv .i64 (.cp 169), none⟩,
 ⟨some 171, .bin .or (.cp 164) (.cp 170), none⟩,
 ⟨some 172, .faddr (.cp 12) 1, none⟩,
 ⟨none, .store none (.cp 172) (.cp 171), none⟩] [] [6, 12, 156, 157, 158]
noncomputable abbrev C97_38 : LCode := .seq C97_36 C97_37
noncomputable abbrev C97_39 : LCode := .block 2 C97_38
noncomputable abbrev C97_40 : LCode := .region false 0 [
 ⟨some 173, .bin .add (.cp 158) (.c (.int .i64 1)), none⟩,
 ⟨some 158, .mov (.cp 173), none⟩] [] [6, 12, 156, 157, 158]
noncomputable abbrev C97_41 : LCode := .seq C97_39 C97_40
noncomputable abbrev C97_42 : LCode := .seq C97_35 C97_41
noncomputable def C97_43 : LCode := .seq C97_34 C97_42
noncomputable abbrev C97_44 : LCode := .gc (.only [6, 12, 156, 157, 158] C97_43)
noncomputable abbrev C97_45 : LCode := .only [6, 12, 156, 157, 158] (.loop C97_44)
noncomputable abbrev C97_46 : LCode := .block 1 C97_45
noncomputable abbrev C97_47 : LCode := .seq C97_33 C97_46
noncomputable abbrev C97_48 : LCode := .region false 0 [
 ⟨some 175, .bin .eql (.cp 42) (.c (.int .i64 11)), none⟩,
 ⟨some 174, .mov (.cp 175), none⟩] [] [0, 2, 6, 8, 9, 10, 12, 42, 174]
noncomputable abbrev C97_49 : LCode := .region false 0 [
 ⟨some 176, .bin .eql (.cp 42) (.c (.int .i64 16)), none⟩,
 ⟨some 174, .mov (.cp 176), none⟩] [] [0, 2, 6, 8, 9, 10, 12, 42, 174]
noncomputable abbrev C97_50 : LCode := .cond (.cp 174) .skip C97_49
noncomputable abbrev C97_51 : LCode := .seq C97_48 C97_50
noncomputable abbrev C97_52 : LCode := .region true 0 [
 ⟨some 177, .mov (.cp 0), none⟩,
 ⟨some 178, .nilc (.cp 177), none⟩,
 ⟨some 179, .faddr (.cp 178) 0, none⟩,
 ⟨some 180, .mov (.cp 0), none⟩,
 ⟨some 181, .nilc (.cp 180), none⟩,
 ⟨some 182, .faddr (.cp 181) 0, none⟩,
 ⟨some 183, .call N_tcomp_cursor_count [.cp 182], none⟩,
 ⟨some 184, .call N_tcomp_cursor_bytes [.cp 179, .cp 183], none⟩,
 ⟨some 185, .bytesStr (.cp 184), none⟩,
 ⟨some 186, .faddr (.cp 12) 2, none⟩,
 ⟨none, .store none (.cp 186) (.cp 185), none⟩] [] [0, 6, 12]
noncomputable abbrev C97_53 : LCode := .region true 0 [
 ⟨some 187, .mov (.cp 0), none⟩,
 ⟨some 188, .nilc (.cp 187), none⟩,
 ⟨some 189, .faddr (.cp 188) 0, none⟩,
 ⟨some 190, .faddr (.cp 12) 0, none⟩,
 ⟨some 191, .load false none (.cp 190), none⟩,
 ⟨some 192, .bin .eql (.cp 191) (.c (.int .i64 11)), none⟩,
 ⟨some 193, .mov (.cp 192), none⟩,
 ⟨some 194, .faddr (.cp 12) 2, some (193, true)⟩,
 ⟨some 195, .load false none (.cp 194), some (193, true)⟩,
 ⟨some 196, .call N_value_Valid [.cp 195], some (193, true)⟩,
 ⟨some 197, .un .not (.cp 196), some (193, true)⟩,
 ⟨some 198, .pick (.cp 193) (.cp 197) (.c (.bool false)), none⟩,
 ⟨some 199, .call N_tcomp_cursor_fails [.cp 189, .cp 198, .c (.int .i64 2)], none⟩] [] [6, 12]
noncomputable abbrev C97_54 : LCode := .seq C97_52 C97_53
noncomputable abbrev C97_55 : LCode := .region false 0 [
 ⟨some 201, .bin .eql (.cp 42) (.c (.int .i64 15)), none⟩,
 ⟨some 200, .mov (.cp 201), none⟩] [] [0, 2, 6, 8, 9, 10, 12, 42, 200]
noncomputable abbrev C97_56 : LCode := .region false 0 [
 ⟨some 202, .bin .eql (.cp 42) (.c (.int .i64 14)), none⟩,
 ⟨some 200, .mov (.cp 202), none⟩] [] [0, 2, 6, 8, 9, 10, 12, 42, 200]
noncomputable abbrev C97_57 : LCode := .cond (.cp 200) .skip C97_56
noncomputable abbrev C97_58 : LCode := .seq C97_55 C97_57
noncomputable abbrev C97_59 : LCode := .region true 0 [
 ⟨some 203, .mov (.cp 0), none⟩,
 ⟨some 204, .nilc (.cp 203), none⟩,
 ⟨some 205, .faddr (.cp 204) 0, none⟩,
 ⟨some 206, .mov (.cp 2), none⟩,
 ⟨some 207, .mov (.cp 0), none⟩,
 ⟨some 208, .nilc (.cp 207), none⟩,
 ⟨some 209, .faddr (.cp 208) 0, none⟩,
 ⟨some 210, .faddr (.cp 209) 2, none⟩,
 ⟨some 211, .faddr (.cp 210) 0, none⟩,
 ⟨some 212, .load false none (.cp 211), none⟩,
 ⟨some 213, .bin .gtr (.cp 206) (.cp 212), none⟩,
 ⟨some 214, .call N_tcomp_cursor_fails [.cp 205, .cp 213, .c (.int .i64 6)], none⟩] [] [0, 2, 6, 9, 12]
noncomputable abbrev C97_60 : LCode := .region false 0 [
 ⟨some 215, .mov (.cp 0), none⟩,
 ⟨some 216, .faddr (.cp 12) 0, none⟩,
 ⟨some 217, .load false none (.cp 216), none⟩,
 ⟨some 218, .mov (.cp 9), none⟩,
 ⟨some 219, .mov (.cp 2), none⟩,
 ⟨some 220, .call N_tcomp_reader_list [.cp 215, .cp 217, .cp 218, .cp 219], none⟩,
 ⟨none, .store (some 5) (.cp 6) (.mv 220), none⟩] [] [6]
noncomputable abbrev C97_61 : LCode := .seq C97_60 .ret
noncomputable abbrev C97_62 : LCode := .seq C97_59 C97_61
noncomputable abbrev C97_63 : LCode := .region false 0 [
 ⟨some 222, .bin .eql (.cp 42) (.c (.int .i64 13)), none⟩,
 ⟨some 221, .mov (.cp 222), none⟩] [] [0, 2, 6, 8, 9, 10, 221]
noncomputable abbrev C97_64 : LCode := .region true 0 [
 ⟨some 223, .mov (.cp 0), none⟩,
 ⟨some 224, .nilc (.cp 223), none⟩,
 ⟨some 225, .faddr (.cp 224) 0, none⟩,
 ⟨some 226, .mov (.cp 2), none⟩,
 ⟨some 227, .mov (.cp 0), none⟩,
 ⟨some 228, .nilc (.cp 227), none⟩,
 ⟨some 229, .faddr (.cp 228) 0, none⟩,
 ⟨some 230, .faddr (.cp 229) 2, none⟩,
 ⟨some 231, .faddr (.cp 230) 0, none⟩,
 ⟨some 232, .load false none (.cp 231), none⟩,
 ⟨some 233, .bin .gtr (.cp 226) (.cp 232), none⟩,
 ⟨some 234, .call N_tcomp_cursor_fails [.cp 225, .cp 233, .c (.int .i64 6)], none⟩] [] [0, 2, 6, 9, 10]
noncomputable abbrev C97_65 : LCode := .region false 0 [
 ⟨some 235, .mov (.cp 0), none⟩,
 ⟨some 236, .mov (.cp 9), none⟩,
 ⟨some 237, .mov (.cp 10), none⟩,
 ⟨some 238, .mov (.cp 2), none⟩,
 ⟨some 239, .call N_tcomp_reader_pairs [.cp 235, .cp 236, .cp 237, .cp 238], none⟩,
 ⟨none, .store (some 5) (.cp 6) (.mv 239), none⟩] [] [6]
noncomputable abbrev C97_66 : LCode := .seq C97_65 .ret
noncomputable abbrev C97_67 : LCode := .seq C97_64 C97_66
noncomputable abbrev C97_68 : LCode := .region false 1 [
 ⟨some 44, .mov (.cp 0), none⟩,
 ⟨some 45, .nilc (.cp 44), none⟩,
 ⟨some 46, .faddr (.cp 45) 5, none⟩,
 ⟨some 47, .load false (some 3) (.cp 46), none⟩,
 ⟨some 48, .mov (.cp 8), none⟩,
 ⟨some 49, .call N_value_Struct [.cp 47, .cp 48], none⟩,
 ⟨some 43, .mov (.cp 49), none⟩,
 ⟨some 50, .ext (.cp 43) 0, none⟩,
 ⟨some 51, .ext (.cp 43) 1, none⟩,
 ⟨some 18, .alloc 0 [.int .i64 0, .str [], .sl true 10 []], none⟩,
 ⟨none, .store (some 3) (.cp 18) (.mv 50), none⟩,
 ⟨some 19, .mov (.cp 51), none⟩] [] [0, 2, 6, 18]
noncomputable abbrev C97_69 : LCode := .region false 0 [
 ⟨some 52, .mov (.cp 0), none⟩,
 ⟨some 53, .load false (some 3) (.cp 18), none⟩,
 ⟨some 54, .mov (.cp 2), none⟩,
 ⟨some 55, .call N_tcomp_reader_fields [.cp 52, .cp 53, .cp 54], none⟩,
 ⟨none, .store (some 5) (.cp 6) (.mv 55), none⟩] [] [6]
noncomputable abbrev C97_70 : LCode := .seq C97_69 .ret
noncomputable abbrev C97_71 : LCode := .seq C97_68 C97_70
noncomputable abbrev C97_72 : LCode := .cond (.cp 221) C97_67 C97_71
noncomputable abbrev C97_73 : LCode := .seq C97_63 C97_72
noncomputable def C97_74 : LCode := .cond (.cp 200) C97_62 C97_73
noncomputable abbrev C97_75 : LCode := .only [0, 2, 6, 8, 9, 10, 12, 42, 200] C97_74
noncomputable abbrev C97_76 : LCode := .seq C97_58 C97_75
noncomputable def C97_77 : LCode := .cond (.cp 174) C97_54 C97_76
noncomputable abbrev C97_78 : LCode := .only [0, 2, 6, 8, 9, 10, 12, 42, 174] C97_77
noncomputable abbrev C97_79 : LCode := .seq C97_51 C97_78
noncomputable abbrev C97_80 : LCode := .cond (.cp 151) C97_47 C97_79
noncomputable abbrev C97_81 : LCode := .seq C97_32 C97_80
noncomputable abbrev C97_82 : LCode := .cond (.cp 143) C97_31 C97_81
noncomputable abbrev C97_83 : LCode := .seq C97_30 C97_82
noncomputable abbrev C97_84 : LCode := .cond (.cp 115) C97_29 C97_83
noncomputable abbrev C97_85 : LCode := .seq C97_24 C97_84
noncomputable abbrev C97_86 : LCode := .cond (.cp 105) C97_23 C97_85
noncomputable abbrev C97_87 : LCode := .seq C97_22 C97_86
noncomputable abbrev C97_88 : LCode := .cond (.cp 84) C97_21 C97_87
noncomputable abbrev C97_89 : LCode := .seq C97_18 C97_88
noncomputable abbrev C97_90 : LCode := .cond (.cp 75) C97_17 C97_89
noncomputable abbrev C97_91 : LCode := .seq C97_16 C97_90
noncomputable abbrev C97_92 : LCode := .cond (.cp 56) C97_15 C97_91
noncomputable abbrev C97_93 : LCode := .seq C97_10 C97_92
noncomputable abbrev C97_94 : LCode := .block 0 C97_93
noncomputable abbrev C97_95 : LCode := .seq C97_9 C97_94
noncomputable abbrev C97_96 : LCode := .region false 0 [
 ⟨some 240, .load false (some 5) (.cp 12), none⟩,
 ⟨none, .store (some 5) (.cp 6) (.mv 240), none⟩] [] [6]
noncomputable abbrev C97_97 : LCode := .seq C97_96 .ret
noncomputable abbrev C97_98 : LCode := .seq C97_95 C97_97
noncomputable abbrev C97_99 : LCode := .seq C97_8 C97_98
noncomputable abbrev C97_100 : LCode := .seq C97_3 C97_99
noncomputable abbrev C97_101 : LCode := .seq C97_2 C97_100
noncomputable abbrev C97_102 : LCode := .seq C97_1 C97_101
noncomputable def L_tcomp_reader_value : LF := { np := 3, res := [.cell 6 (some 5)], keepRes := false, body := C97_102 }
noncomputable abbrev C98_1 : LCode := .region false 1 [
 ⟨some 3, .box (.mv 1), none⟩,
 ⟨some 4, .alloc 0 [.int .i64 0, .int .i64 0, .str [], .sl true 5 [], .sl true 1 []], none⟩,
 ⟨some 5, .mov (.c (.int .i64 0)), none⟩,
 ⟨some 6, .mov (.c (.int .i64 0)), none⟩] [] [0, 3, 4]
noncomputable abbrev C98_2 : LCode := .region false 0 [
 ⟨some 7, .mov (.cp 0), none⟩,
 ⟨some 8, .nilc (.cp 7), none⟩,
 ⟨some 9, .faddr (.cp 8) 0, none⟩,
 ⟨some 10, .call N_tcomp_cursor_ok [.cp 9], none⟩,
 ⟨some 11, .un .not (.cp 10), none⟩] [] [0, 3, 4, 11]
noncomputable abbrev C98_3 : LCode := .region true 0 [
 ⟨some 12, .build [.int .i64 0, .int .i64 0, .str [], .sl true 5 [], .sl true 1 []] [], none⟩,
 ⟨some 13, .mov (.cp 0), none⟩,
 ⟨some 14, .nilc (.cp 13), none⟩,
 ⟨some 15, .faddr (.cp 14) 0, none⟩,
 ⟨some 16, .faddr (.cp 15) 4, none⟩,
 ⟨some 17, .load false none (.cp 16), none⟩,
 ⟨none, .store (some 5) (.cp 4) (.mv 12), none⟩,
 ⟨some 5, .mov (.c (.int .i64 0)), none⟩,
 ⟨some 6, .mov (.cp 17), none⟩] [(5, 6)] [4, 5, 6]
noncomputable abbrev C98_4 : LCode := .seq C98_3 .ret
noncomputable abbrev C98_5 : LCode := .cond (.cp 11) C98_4 .skip
noncomputable abbrev C98_6 : LCode := .seq C98_2 C98_5
noncomputable abbrev C98_7 : LCode := .region true 0 [
 ⟨some 18, .load false (some 5) (.cp 3), none⟩,
 ⟨some 19, .mov (.cp 0), none⟩,
 ⟨some 20, .nilc (.cp 19), none⟩,
 ⟨some 21, .faddr (.cp 20) 0, none⟩,
 ⟨some 22, .faddr (.cp 21) 1, none⟩,
 ⟨some 23, .load false none (.cp 22), none⟩,
 ⟨none, .store (some 5) (.cp 4) (.mv 18), none⟩,
 ⟨some 5, .mov (.cp 23), none⟩,
 ⟨some 6, .mov (.c (.int .i64 0)), none⟩] [(0, 5), (5, 6)] [4, 5, 6]
noncomputable abbrev C98_8 : LCode := .seq C98_7 .ret
noncomputable abbrev C98_9 : LCode := .seq C98_6 C98_8
noncomputable abbrev C98_10 : LCode := .seq C98_1 C98_9
noncomputable def L_tcomp_reader_done : LF := { np := 2, res := [.cell 4 (some 5), .tmp 5, .tmp 6], keepRes := false, body := C98_10 }
noncomputable abbrev C100_1 : LCode := .region false 1 [
 ⟨some 4, .box (.mv 1), none⟩,
 ⟨some 6, .alloc 0 [.int .i64 0, .int .i64 0, .str [], .sl true 5 [], .sl true 1 []], none⟩] [] [0, 2, 4, 6]
noncomputable abbrev C100_2 : LCode := .region true 0 [
 ⟨some 15, .mov (.cp 0), none⟩,
 ⟨some 16, .nilc (.cp 15), none⟩,
 ⟨some 17, .faddr (.cp 16) 0, none⟩,
 ⟨some 18, .mov (.cp 2), none⟩,
 ⟨some 19, .mov (.cp 0), none⟩,
 ⟨some 20, .nilc (.cp 19), none⟩,
 ⟨some 21, .faddr (.cp 20) 0, none⟩,
 ⟨some 22, .faddr (.cp 21) 2, none⟩,
 ⟨some 23, .faddr (.cp 22) 0, none⟩,
 ⟨some 24, .load false none (.cp 23), none⟩,
 ⟨some 25, .bin .gtr (.cp 18) (.cp 24), none⟩,
 ⟨some 26, .call N_tcomp_cursor_fails [.cp 17, .cp 25, .c (.int .i64 6)], none⟩] [] [0, 2, 4, 6]
noncomputable abbrev C100_3 : LCode := .region false 1 [
 ⟨some 27, .build [.int .i64 0, .int .i64 0, .str [], .sl true 5 [], .sl true 1 []] [(0, 1, (.c (.int .i64 12)))], none⟩,
 ⟨some 7, .alloc 0 [.int .i64 0, .int .i64 0, .str [], .sl true 5 [], .sl true 1 []], none⟩,
 ⟨none, .store (some 5) (.cp 7) (.mv 27), none⟩] [] [0, 2, 4, 6, 7]
noncomputable abbrev C100_4 : LCode := .region false 0 [
 ⟨some 8, .mov (.c (.int .i64 0)), none⟩,
 ⟨some 9, .mov (.c (.bool false)), none⟩] [] [0, 2, 4, 6, 7, 8, 9]
noncomputable abbrev C100_5 : LCode := .region false 0 [
 ⟨some 28, .mov (.cp 0), none⟩,
 ⟨some 29, .nilc (.cp 28), none⟩,
 ⟨some 30, .faddr (.cp 29) 0, none⟩,
 ⟨some 31, .call N_tcomp_cursor_ok [.cp 30], none⟩] [] [0, 2, 4, 6, 7, 8, 9, 31]
noncomputable abbrev C100_6 : LCode := .cond (.cp 31) .skip (.exit 0)
noncomputable abbrev C100_7 : LCode := .seq C100_5 C100_6
noncomputable abbrev C100_8 : LCode := .region false 0 [
 ⟨some 33, .mov (.cp 0), none⟩,
 ⟨some 34, .nilc (.cp 33), none⟩,
 ⟨some 35, .faddr (.cp 34) 0, none⟩,
 ⟨some 36, .mov (.cp 8), none⟩,
 ⟨some 37, .call N_tcomp_cursor_head [.cp 35, .cp 36], none⟩,
 ⟨some 32, .mov (.cp 37), none⟩,
 ⟨some 38, .ext (.cp 32) 0, none⟩,
 ⟨some 39, .ext (.cp 32) 1, none⟩,
 ⟨some 40, .ext (.cp 32) 2, none⟩,
 ⟨some 10, .mov (.cp 38), none⟩,
 ⟨some 11, .mov (.cp 39), none⟩,
 ⟨some 12, .mov (.cp 40), none⟩] [] [0, 2, 4, 6, 7, 9, 10, 11, 12]
noncomputable abbrev C100_9 : LCode := .region false 0 [
 ⟨some 41, .mov (.cp 12), none⟩,
 ⟨some 42, .un .not (.cp 41), none⟩] [] [0, 2, 4, 6, 7, 9, 10, 11, 42]
noncomputable abbrev C100_10 : LCode := .cond (.cp 42) (.exit 0) .skip
noncomputable abbrev C100_11 : LCode := .seq C100_9 C100_10
noncomputable abbrev C100_12 : LCode := .region false 0 [
 ⟨some 43, .mov (.cp 11), none⟩,
 ⟨some 8, .mov (.cp 43), none⟩] [] [0, 2, 4, 6, 7, 8, 9, 10, 11]
noncomputable abbrev C100_13 : LCode := .region false 1 [
 ⟨some 45, .load false (some 3) (.cp 4), none⟩,
 ⟨some 46, .mov (.cp 11), none⟩,
 ⟨some 47, .call N_value_Field [.cp 45, .cp 46], none⟩,
 ⟨some 44, .mov (.cp 47), none⟩,
 ⟨some 48, .ext (.cp 44) 0, none⟩,
 ⟨some 49, .ext (.cp 44) 1, none⟩,
 ⟨some 13, .alloc 0 [.int .i64 0, .int .i64 0, .str [], .str [], .bool false, .int .i64 0, .int .i64 0, .str [], .sl true 5 [], .sl true 1 []], none⟩,
 ⟨none, .store (some 10) (.cp 13) (.mv 48), none⟩,
 ⟨some 14, .mov (.cp 49), none⟩] [] [0, 2, 4, 6, 7, 8, 9, 10, 13, 14]
noncomputable abbrev C100_14 : LCode := .region false 0 [
 ⟨some 50, .mov (.cp 14), none⟩,
 ⟨some 51, .un .not (.cp 50), none⟩] [] [0, 2, 4, 6, 7, 8, 9, 10, 13, 51]
noncomputable abbrev C100_15 : LCode := .region false 0 [
 ⟨some 9, .mov (.c (.bool true)), none⟩] [] [0, 2, 4, 6, 7, 8, 9, 10]
noncomputable abbrev C100_16 : LCode := .region false 0 [
 ⟨some 52, .mov (.cp 0), none⟩,
 ⟨some 53, .nilc (.cp 52), none⟩,
 ⟨some 54, .faddr (.cp 53) 0, none⟩,
 ⟨some 55, .mov (.cp 10), none⟩,
 ⟨some 56, .mov (.cp 2), none⟩,
 ⟨some 57, .bin .add (.cp 56) (.c (.int .i64 1)), none⟩,
 ⟨some 58, .call N_tcomp_cursor_skip [.cp 54, .cp 55, .cp 57, .c (.bool false)], none⟩] [] [0, 2, 4, 6, 7, 8, 9]
noncomputable abbrev C100_17 : LCode := .seq C100_16 (.exit 1)
noncomputable abbrev C100_18 : LCode := .seq C100_15 C100_17
noncomputable abbrev C100_19 : LCode := .cond (.cp 51) C100_18 .skip
noncomputable abbrev C100_20 : LCode := .seq C100_14 C100_19
noncomputable abbrev C100_21 : LCode := .region false 0 [
 ⟨some 59, .mov (.cp 0), none⟩,
 ⟨some 60, .load false (some 10) (.cp 13), none⟩,
 ⟨some 61, .mov (.cp 10), none⟩,
 ⟨some 62, .mov (.cp 2), none⟩,
 ⟨some 63, .call N_tcomp_reader_field [.cp 59, .cp 7, .cp 60, .cp 61, .cp 62], none⟩] [] [0, 2, 4, 6, 7, 8, 9]
noncomputable abbrev C100_22 : LCode := .seq C100_20 C100_21
noncomputable abbrev C100_23 : LCode := .seq C100_13 C100_22
noncomputable abbrev C100_24 : LCode := .seq C100_12 C100_23
noncomputable abbrev C100_25 : LCode := .seq C100_11 C100_24
noncomputable abbrev C100_26 : LCode := .seq C100_8 C100_25
noncomputable abbrev C100_27 : LCode := .block 1 C100_26
noncomputable def C100_28 : LCode := .seq C100_7 C100_27
noncomputable abbrev C100_29 : LCode := .gc (.only [0, 2, 4, 6, 7, 8, 9] C100_28)
noncomputable abbrev C100_30 : LCode := .only [0, 2, 4, 6, 7, 8, 9] (.loop C100_29)
noncomputable abbrev C100_31 : LCode := .block 0 C100_30
noncomputable abbrev C100_32 : LCode := .region false 0 [
 ⟨some 64, .mov (.cp 0), none⟩,
 ⟨some 65, .load false (some 3) (.cp 4), none⟩,
 ⟨some 66, .load false (some 5) (.cp 7), none⟩,
 ⟨some 67, .mov (.cp 9), none⟩,
 ⟨some 68, .call N_tcomp_reader_whole [.cp 64, .cp 65, .cp 66, .cp 67], none⟩] [] [0, 6, 7]
noncomputable abbrev C100_33 : LCode := .region false 0 [
 ⟨some 69, .mov (.cp 0), none⟩,
 ⟨some 70, .load false (some 5) (.cp 7), none⟩,
 ⟨some 71, .call N_tcomp_reader_normal [.cp 69, .cp 70], none⟩,
 ⟨none, .store (some 5) (.cp 6) (.mv 71), none⟩] [] [6]
noncomputable abbrev C100_34 : LCode := .seq C100_33 .ret
noncomputable abbrev C100_35 : LCode := .seq C100_32 C100_34
noncomputable abbrev C100_36 : LCode := .seq C100_31 C100_35
noncomputable abbrev C100_37 : LCode := .seq C100_4 C100_36
noncomputable abbrev C100_38 : LCode := .seq C100_3 C100_37
noncomputable abbrev C100_39 : LCode := .seq C100_2 C100_38
noncomputable abbrev C100_40 : LCode := .seq C100_1 C100_39
noncomputable def L_tcomp_reader_fields : LF := { np := 3, res := [.cell 6 (some 5)], keepRes := false, body := C100_40 }
noncomputable abbrev C101_1 : LCode := .region false 0 [
 ⟨some 9, .mov (.cp 0), none⟩,
 ⟨some 10, .mov (.cp 1), none⟩,
 ⟨some 11, .bin .lss (.cp 10) (.c (.int .i64 1)), none⟩,
 ⟨some 12, .mov (.cp 11), none⟩,
 ⟨some 13, .mov (.cp 1), some (12, false)⟩,
 ⟨some 14, .bin .gtr (.cp 13) (.c (.int .i64 12)), some (12, false)⟩,
 ⟨some 15, .pick (.cp 12) (.c (.bool true)) (.cp 14), none⟩,
 ⟨some 16, .call N_tcomp_cursor_fails [.cp 9, .cp 15, .c (.int .i64 2)], none⟩] [] [0, 1, 2, 3]
noncomputable abbrev C101_2 : LCode := .region false 0 [
 ⟨some 17, .mov (.cp 0), none⟩,
 ⟨some 18, .call N_tcomp_cursor_ok [.cp 17], none⟩,
 ⟨some 19, .un .not (.cp 18), none⟩] [] [0, 1, 2, 3, 19]
noncomputable abbrev C101_3 : LCode := .cond (.cp 19) .ret .skip
noncomputable abbrev C101_4 : LCode := .seq C101_2 C101_3
noncomputable abbrev C101_5 : LCode := .region false 0 [
 ⟨some 20, .mov (.cp 1), none⟩] [] [0, 1, 2, 3, 20]
noncomputable abbrev C101_6 : LCode := .region false 0 [
 ⟨some 35, .bin .eql (.cp 20) (.c (.int .i64 1)), none⟩,
 ⟨some 34, .mov (.cp 35), none⟩] [] [0, 1, 2, 3, 20, 34]
noncomputable abbrev C101_7 : LCode := .region false 0 [
 ⟨some 36, .bin .eql (.cp 20) (.c (.int .i64 2)), none⟩,
 ⟨some 34, .mov (.cp 36), none⟩] [] [0, 1, 2, 3, 20, 34]
noncomputable abbrev C101_8 : LCode := .cond (.cp 34) .skip C101_7
noncomputable abbrev C101_9 : LCode := .seq C101_6 C101_8
noncomputable abbrev C101_10 : LCode := .region false 0 [
 ⟨some 37, .mov (.cp 3), none⟩] [] [0, 37]
noncomputable abbrev C101_11 : LCode := .region false 0 [
 ⟨some 38, .mov (.cp 0), none⟩,
 ⟨some 39, .call N_tcomp_cursor_byte [.cp 38], none⟩] [] []
noncomputable abbrev C101_12 : LCode := .cond (.cp 37) C101_11 .skip
noncomputable abbrev C101_13 : LCode := .seq C101_10 C101_12
noncomputable abbrev C101_14 : LCode := .region false 0 [
 ⟨some 41, .bin .eql (.cp 20) (.c (.int .i64 3)), none⟩,
 ⟨some 40, .mov (.cp 41), none⟩] [] [0, 1, 2, 20, 40]
noncomputable abbrev C101_15 : LCode := .region false 0 [
 ⟨some 42, .mov (.cp 0), none⟩,
 ⟨some 43, .call N_tcomp_cursor_byte [.cp 42], none⟩] [] []
noncomputable abbrev C101_16 : LCode := .region false 0 [
 ⟨some 45, .bin .eql (.cp 20) (.c (.int .i64 4)), none⟩,
 ⟨some 44, .mov (.cp 45), none⟩] [] [0, 1, 2, 20, 44]
noncomputable abbrev C101_17 : LCode := .region false 0 [
 ⟨some 46, .mov (.cp 0), none⟩,
 ⟨some 47, .call N_tcomp_cursor_num [.cp 46, .c (.int .i64 32)], none⟩,
 ⟨some 48, .conv .u32 (.cp 47), none⟩,
 ⟨some 49, .call N_zig_Zag32 [.cp 48], none⟩,
 ⟨some 8, .mov (.cp 49), none⟩] [] [0, 8]
noncomputable abbrev C101_18 : LCode := .region false 0 [
 ⟨some 50, .mov (.cp 0), none⟩,
 ⟨some 51, .mov (.cp 8), none⟩,
 ⟨some 52, .mov (.cp 8), none⟩,
 ⟨some 53, .conv .i16 (.cp 52), none⟩,
 ⟨some 54, .conv .i32 (.cp 53), none⟩,
 ⟨some 55, .bin .neq (.cp 51) (.cp 54), none⟩,
 ⟨some 56, .call N_tcomp_cursor_fails [.cp 50, .cp 55, .c (.int .i64 2)], none⟩] [] []
noncomputable abbrev C101_19 : LCode := .seq C101_17 C101_18
noncomputable abbrev C101_20 : LCode := .region false 0 [
 ⟨some 58, .bin .eql (.cp 20) (.c (.int .i64 5)), none⟩,
 ⟨some 57, .mov (.cp 58), none⟩] [] [0, 1, 2, 20, 57]
noncomputable abbrev C101_21 : LCode := .region false 0 [
 ⟨some 59, .mov (.cp 0), none⟩,
 ⟨some 60, .call N_tcomp_cursor_num [.cp 59, .c (.int .i64 32)], none⟩] [] []
noncomputable abbrev C101_22 : LCode := .region false 0 [
 ⟨some 62, .bin .eql (.cp 20) (.c (.int .i64 6)), none⟩,
 ⟨some 61, .mov (.cp 62), none⟩] [] [0, 1, 2, 20, 61]
noncomputable abbrev C101_23 : LCode := .region false 0 [
 ⟨some 63, .mov (.cp 0), none⟩,
 ⟨some 64, .call N_tcomp_cursor_num [.cp 63, .c (.int .i64 64)], none⟩] [] []
noncomputable abbrev C101_24 : LCode := .region false 0 [
 ⟨some 66, .bin .eql (.cp 20) (.c (.int .i64 7)), none⟩,
 ⟨some 65, .mov (.cp 66), none⟩] [] [0, 1, 2, 20, 65]
noncomputable abbrev C101_25 : LCode := .region false 0 [
 ⟨some 67, .mov (.cp 0), none⟩,
 ⟨some 68, .call N_tcomp_cursor_bytes [.cp 67, .c (.int .u64 8)], none⟩] [] []
noncomputable abbrev C101_26 : LCode := .region false 0 [
 ⟨some 70, .bin .eql (.cp 20) (.c (.int .i64 8)), none⟩,
 ⟨some 69, .mov (.cp 70), none⟩] [] [0, 1, 2, 69]
noncomputable abbrev C101_27 : LCode := .region false 0 [
 ⟨some 71, .mov (.cp 0), none⟩,
 ⟨some 72, .mov (.cp 0), none⟩,
 ⟨some 73, .call N_tcomp_cursor_count [.cp 72], none⟩,
 ⟨some 74, .call N_tcomp_cursor_bytes [.cp 71, .cp 73], none⟩] [] []
noncomputable abbrev C101_28 : LCode := .region false 0 [
 ⟨some 21, .mov (.cp 0), none⟩,
 ⟨some 22, .mov (.cp 2), none⟩,
 ⟨some 23, .mov (.cp 0), none⟩,
 ⟨some 24, .nilc (.cp 23), none⟩,
 ⟨some 25, .faddr (.cp 24) 2, none⟩,
 ⟨some 26, .faddr (.cp 25) 0, none⟩,
 ⟨some 27, .load false none (.cp 26), none⟩,
 ⟨some 28, .bin .gtr (.cp 22) (.cp 27), none⟩,
 ⟨some 29, .call N_tcomp_cursor_fails [.cp 21, .cp 28, .c (.int .i64 6)], none⟩] [] [0, 1, 2]
noncomputable abbrev C101_29 : LCode := .region false 0 [
 ⟨some 30, .mov (.cp 0), none⟩,
 ⟨some 31, .mov (.cp 1), none⟩,
 ⟨some 32, .mov (.cp 2), none⟩,
 ⟨some 33, .call N_tcomp_cursor_skips [.cp 30, .cp 31, .cp 32], none⟩] [] []
noncomputable abbrev C101_30 : LCode := .seq C101_28 C101_29
noncomputable abbrev C101_31 : LCode := .cond (.cp 69) C101_27 C101_30
noncomputable abbrev C101_32 : LCode := .seq C101_26 C101_31
noncomputable abbrev C101_33 : LCode := .cond (.cp 65) C101_25 C101_32
noncomputable abbrev C101_34 : LCode := .seq C101_24 C101_33
noncomputable abbrev C101_35 : LCode := .cond (.cp 61) C101_23 C101_34
noncomputable abbrev C101_36 : LCode := .seq C101_22 C101_35
noncomputable abbrev C101_37 : LCode := .cond (.cp 57) C101_21 C101_36
noncomputable abbrev C101_38 : LCode := .seq C101_20 C101_37
noncomputable abbrev C101_39 : LCode := .cond (.cp 44) C101_19 C101_38
noncomputable abbrev C101_40 : LCode := .seq C101_16 C101_39
noncomputable abbrev C101_41 : LCode := .cond (.cp 40) C101_15 C101_40
noncomputable abbrev C101_42 : LCode := .seq C101_14 C101_41
noncomputable def C101_43 : LCode := .cond (.cp 34) C101_13 C101_42
noncomputable abbrev C101_44 : LCode := .only [0, 1, 2, 3, 20, 34] C101_43
noncomputable abbrev C101_45 : LCode := .seq C101_9 C101_44
noncomputable abbrev C101_46 : LCode := .block 0 C101_45
noncomputable abbrev C101_47 : LCode := .seq C101_5 C101_46
noncomputable def C101_48 : LCode := .seq C101_4 C101_47
noncomputable abbrev C101_49 : LCode := .only [0, 1, 2, 3] C101_48
noncomputable abbrev C101_50 : LCode := .seq C101_1 C101_49
noncomputable def L_tcomp_cursor_skip : LF := { np := 4, res := [], keepRes := false, body := C101_50 }
noncomputable abbrev C102_1 : LCode := .region false 0 [
 ⟨some 2, .mov (.c (.bool false)), none⟩] [] [0]
noncomputable abbrev C102_2 : LCode := .region false 0 [
 ⟨some 3, .mov (.cp 0), none⟩,
 ⟨some 4, .nilc (.cp 3), none⟩,
 ⟨some 5, .faddr (.cp 4) 4, none⟩,
 ⟨some 6, .load false none (.cp 5), none⟩,
 ⟨some 7, .bin .eql (.cp 6) (.c (.int .i64 0)), none⟩,
 ⟨some 2, .mov (.cp 7), none⟩] [] [2]
noncomputable abbrev C102_3 : LCode := .seq C102_2 .ret
noncomputable abbrev C102_4 : LCode := .seq C102_1 C102_3
noncomputable def L_tcomp_cursor_ok : LF := { np := 1, res := [.tmp 2], keepRes := false, body := C102_4 }
noncomputable abbrev C147_1 : LCode := .region false 0 [
 ⟨some 2, .mov (.c (.int .i64 0)), none⟩] [] [0]
noncomputable abbrev C147_2 : LCode := .region false 0 [
 ⟨some 4, .mov (.cp 0), none⟩,
 ⟨some 5, .call N_tcomp_cursor_bytes [.cp 4, .c (.int .u64 1)], none⟩,
 ⟨some 3, .mov (.mv 5), none⟩] [] [0, 3]
noncomputable abbrev C147_3 : LCode := .region false 0 [
 ⟨some 6, .mov (.cp 0), none⟩,
 ⟨some 7, .call N_tcomp_cursor_ok [.cp 6], none⟩,
 ⟨some 8, .un .not (.cp 7), none⟩] [] [3, 8]
noncomputable abbrev C147_4 : LCode := .region false 0 [
 ⟨some 2, .mov (.c (.int .i64 0)), none⟩] [] [2]
noncomputable abbrev C147_5 : LCode := .seq C147_4 .ret
noncomputable abbrev C147_6 : LCode := .cond (.cp 8) C147_5 .skip
noncomputable abbrev C147_7 : LCode := .seq C147_3 C147_6
noncomputable abbrev C147_8 : LCode := .region false 0 [
 ⟨some 9, .mov (.mv 3), none⟩,
 ⟨some 10, .iaddr 1 none (.cp 9) (.c (.int .i64 0)), none⟩,
 ⟨some 11, .load false none (.cp 10), none⟩,
 ⟨some 12, .conv .i64 (.cp 11), none⟩,
 ⟨some 2, .mov (.cp 12), none⟩] [] [2]
noncomputable abbrev C147_9 : LCode := .seq C147_8 .ret
noncomputable abbrev C147_10 : LCode := .seq C147_7 C147_9
noncomputable abbrev C147_11 : LCode := .seq C147_2 C147_10
noncomputable abbrev C147_12 : LCode := .seq C147_1 C147_11
noncomputable def L_tcomp_cursor_byte : LF := { np := 1, res := [.tmp 2], keepRes := false, body := C147_12 }
noncomputable abbrev C148_1 : LCode := .region false 0 [
 ⟨some 6, .mov (.cp 1), none⟩,
 ⟨some 7, .mov (.cp 6), none⟩,
 ⟨some 8, .mov (.cp 0), some (7, true)⟩,
 ⟨some 9, .nilc (.cp 8), some (7, true)⟩,
 ⟨some 10, .faddr (.cp 9) 4, some (7, true)⟩,
 ⟨some 11, .load false none (.cp 10), some (7, true)⟩,
 ⟨some 12, .bin .eql (.cp 11) (.c (.int .i64 0)), some (7, true)⟩,
 ⟨some 13, .pick (.cp 7) (.cp 12) (.c (.bool false)), none⟩] [] [0, 2, 13]
noncomputable abbrev C148_2 : LCode := .region false 0 [
 ⟨some 14, .mov (.cp 0), none⟩,
 ⟨some 15, .mov (.cp 2), none⟩,
 ⟨some 16, .nilc (.cp 14), none⟩,
 ⟨some 17, .faddr (.cp 16) 4, none⟩,
 ⟨none, .store none (.cp 17) (.cp 15), none⟩] [] []
noncomputable abbrev C148_3 : LCode := .cond (.cp 13) C148_2 .skip
noncomputable abbrev C148_4 : LCode := .seq C148_1 C148_3
noncomputable def L_tcomp_cursor_fails : LF := { np := 3, res := [], keepRes := false, body := C148_4 }
noncomputable abbrev C150_1 : LCode := .region false 0 [
 ⟨some 4, .mov (.c (.int .u64 0)), none⟩] [] [0, 1]
noncomputable abbrev C150_2 : LCode := .region false 0 [
 ⟨some 9, .mov (.cp 0), none⟩,
 ⟨some 10, .nilc (.cp 9), none⟩,
 ⟨some 11, .faddr (.cp 10) 1, none⟩,
 ⟨some 12, .load false none (.cp 11), none⟩,
 ⟨some 5, .mov (.cp 12), none⟩] [] [0, 1, 5]
noncomputable abbrev C150_3 : LCode := .region false 0 [
 ⟨some 13, .mov (.cp 0), none⟩,
 ⟨some 14, .call N_tcomp_cursor_ok [.cp 13], none⟩] [] [0, 1, 5, 14]
noncomputable abbrev C150_4 : LCode := .cond (.cp 14) .skip (.exit 0)
noncomputable abbrev C150_5 : LCode := .seq C150_3 C150_4
noncomputable abbrev C150_6 : LCode := .region false 0 [
 ⟨some 15, .mov (.cp 0), none⟩,
 ⟨some 16, .call N_tcomp_cursor_byte [.cp 15], none⟩] [] [0, 1, 5]
noncomputable abbrev C150_7 : LCode := .region false 0 [
 ⟨some 17, .mov (.cp 0), none⟩,
 ⟨some 18, .call N_tcomp_cursor_ok [.cp 17], none⟩,
 ⟨some 19, .un .not (.cp 18), none⟩] [] [0, 1, 5, 19]
noncomputable abbrev C150_8 : LCode := .cond (.cp 19) (.exit 0) .skip
noncomputable abbrev C150_9 : LCode := .seq C150_7 C150_8
noncomputable abbrev C150_10 : LCode := .region true 0 [
 ⟨some 21, .mov (.cp 0), none⟩,
 ⟨some 22, .nilc (.cp 21), none⟩,
 ⟨some 23, .faddr (.cp 22) 0, none⟩,
 ⟨some 24, .load false none (.cp 23), none⟩,
 ⟨some 25, .mov (.cp 5), none⟩,
 ⟨some 26, .mov (.cp 0), none⟩,
 ⟨some 27, .nilc (.cp 26), none⟩,
 ⟨some 28, .faddr (.cp 27) 1, none⟩,
 ⟨some 29, .load false none (.cp 28), none⟩,
 ⟨some 30, .slice (some 1) (.cp 24) (some (.cp 25)) (some (.cp 29)), none⟩,
 ⟨some 31, .mov (.cp 1), none⟩,
 ⟨some 32, .call N_zig_Take [.cp 30, .cp 31], none⟩,
 ⟨some 20, .mov (.cp 32), none⟩,
 ⟨some 33, .ext (.cp 20) 0, none⟩,
 ⟨some 34, .ext (.cp 20) 1, none⟩,
 ⟨some 35, .ext (.cp 20) 2, none⟩,
 ⟨some 6, .mov (.cp 33), none⟩,
 ⟨some 7, .mov (.cp 34), none⟩,
 ⟨some 8, .mov (.cp 35), none⟩] [(3, 8)] [0, 1, 5, 6, 8]
noncomputable abbrev C150_11 : LCode := .region false 0 [
 ⟨some 36, .mov (.cp 8), none⟩,
 ⟨some 37, .bin .eql (.cp 36) (.c (.int .i64 0)), none⟩] [] [0, 1, 5, 6, 8, 37]
noncomputable abbrev C150_12 : LCode := .region false 0 [
 ⟨some 38, .mov (.cp 6), none⟩,
 ⟨some 4, .mov (.cp 38), none⟩] [] [4]
noncomputable abbrev C150_13 : LCode := .seq C150_12 .ret
noncomputable abbrev C150_14 : LCode := .cond (.cp 37) C150_13 .skip
noncomputable abbrev C150_15 : LCode := .seq C150_11 C150_14
noncomputable abbrev C150_16 : LCode := .region false 0 [
 ⟨some 39, .mov (.cp 0), none⟩,
 ⟨some 40, .mov (.cp 8), none⟩,
 ⟨some 41, .bin .eql (.cp 40) (.c (.int .i64 4)), none⟩,
 ⟨some 42, .call N_tcomp_cursor_fails [.cp 39, .cp 41, .c (.int .i64 2)], none⟩] [] [0, 1, 5]
noncomputable abbrev C150_17 : LCode := .seq C150_15 C150_16
noncomputable abbrev C150_18 : LCode := .seq C150_10 C150_17
noncomputable abbrev C150_19 : LCode := .seq C150_9 C150_18
noncomputable abbrev C150_20 : LCode := .seq C150_6 C150_19
noncomputable abbrev C150_21 : LCode := .block 1 C150_20
noncomputable def C150_22 : LCode := .seq C150_5 C150_21
noncomputable abbrev C150_23 : LCode := .gc (.only [0, 1, 5] C150_22)
noncomputable abbrev C150_24 : LCode := .only [0, 1, 5] (.loop C150_23)
noncomputable abbrev C150_25 : LCode := .block 0 C150_24
noncomputable abbrev C150_26 : LCode := .region false 0 [
 ⟨some 4, .mov (.c (.int .u64 0)), none⟩] [] [4]
noncomputable abbrev C150_27 : LCode := .seq C150_26 .ret
noncomputable abbrev C150_28 : LCode := .seq C150_25 C150_27
noncomputable abbrev C150_29 : LCode := .seq C150_2 C150_28
noncomputable abbrev C150_30 : LCode := .seq C150_1 C150_29
noncomputable def L_tcomp_cursor_num : LF := { np := 2, res := [.tmp 4], keepRes := false, body := C150_30 }
noncomputable abbrev C149_1 : LCode := .region false 0 [
 ⟨some 2, .mov (.c (.int .i32 0)), none⟩] [] [0]
noncomputable abbrev C149_2 : LCode := .region false 0 [
 ⟨some 3, .mov (.cp 0), none⟩,
 ⟨some 4, .bin .shr (.cp 3) (.c (.int .u64 1)), none⟩,
 ⟨some 5, .conv .i32 (.cp 4), none⟩,
 ⟨some 6, .mov (.cp 0), none⟩,
 ⟨some 7, .bin .and (.cp 6) (.c (.int .u32 1)), none⟩,
 ⟨some 8, .conv .i32 (.cp 7), none⟩,
 ⟨some 9, .un .neg (.cp 8), none⟩,
 ⟨some 10, .bin .xor (.cp 5) (.cp 9), none⟩,
 ⟨some 2, .mov (.cp 10), none⟩] [] [2]
noncomputable abbrev C149_3 : LCode := .seq C149_2 .ret
noncomputable abbrev C149_4 : LCode := .seq C149_1 C149_3
noncomputable def L_zig_Zag32 : LF := { np := 1, res := [.tmp 2], keepRes := false, body := C149_4 }
noncomputable abbrev C151_1 : LCode := .region false 0 [
 ⟨some 2, .box (.cp 0), none⟩,
 ⟨some 3, .mov (.c (.bool false)), none⟩] [] [1, 2]
noncomputable abbrev C151_2 : LCode := .region false 0 [
 ⟨some 4, .faddr (.cp 2) 2, none⟩,
 ⟨some 5, .load false none (.cp 4), none⟩,
 ⟨some 6, .faddr (.cp 1) 1, none⟩,
 ⟨some 7, .load false none (.cp 6), none⟩,
 ⟨some 8, .bin .eql (.cp 5) (.cp 7), none⟩,
 ⟨some 3, .mov (.cp 8), none⟩] [] [3]
noncomputable abbrev C151_3 : LCode := .seq C151_2 .ret
noncomputable abbrev C151_4 : LCode := .seq C151_1 C151_3
noncomputable def L_tcomp_reader_value_1 : LF := { np := 1, res := [.tmp 3], keepRes := false, body := C151_4 }
noncomputable abbrev C152_1 : LCode := .region false 0 [
 ⟨some 2, .mov (.c (.int .i64 0)), none⟩] [] [0]
noncomputable abbrev C152_2 : LCode := .region false 0 [
 ⟨some 3, .mov (.cp 0), none⟩,
 ⟨some 4, .bin .shr (.cp 3) (.c (.int .u64 1)), none⟩,
 ⟨some 5, .conv .i64 (.cp 4), none⟩,
 ⟨some 6, .mov (.cp 0), none⟩,
 ⟨some 7, .bin .and (.cp 6) (.c (.int .u64 1)), none⟩,
 ⟨some 8, .conv .i64 (.cp 7), none⟩,
 ⟨some 9, .un .neg (.cp 8), none⟩,
 ⟨some 10, .bin .xor (.cp 5) (.cp 9), none⟩,
 ⟨some 2, .mov (.cp 10), none⟩] [] [2]
noncomputable abbrev C152_3 : LCode := .seq C152_2 .ret
noncomputable abbrev C152_4 : LCode := .seq C152_1 C152_3
noncomputable def L_zig_Zag64 : LF := { np := 1, res := [.tmp 2], keepRes := false, body := C152_4 }
noncomputable abbrev C153_1 : LCode := .region false 0 [
 ⟨some 4, .mov (.c (.sl true 1 [])), none⟩] [] [0, 1]
noncomputable abbrev C153_2 : LCode := .region true 0 [
 ⟨some 6, .mov (.cp 0), none⟩,
 ⟨some 7, .mov (.cp 0), none⟩,
 ⟨some 8, .nilc (.cp 7), none⟩,
 ⟨some 9, .faddr (.cp 8) 2, none⟩,
 ⟨some 10, .faddr (.cp 9) 1, none⟩,
 ⟨some 11, .load false none (.cp 10), none⟩,
 ⟨some 12, .mov (.cp 0), none⟩,
 ⟨some 13, .nilc (.cp 12), none⟩,
 ⟨some 14, .faddr (.cp 13) 1, none⟩,
 ⟨some 15, .load false none (.cp 14), none⟩,
 ⟨some 16, .bin .lss (.cp 11) (.cp 15), none⟩,
 ⟨some 17, .mov (.cp 16), none⟩,
 ⟨some 18, .mov (.cp 1), some (17, false)⟩,
 ⟨some 19, .mov (.cp 0), some (17, false)⟩,
 ⟨some 20, .nilc (.cp 19), some (17, false)⟩,
 ⟨some 21, .faddr (.cp 20) 2, some (17, false)⟩,
 ⟨some 22, .faddr (.cp 21) 1, some (17, false)⟩,
 ⟨some 23, .load false none (.cp 22), some (17, false)⟩,
 ⟨some 24, .mov (.cp 0), some (17, false)⟩,
 ⟨some 25, .nilc (.cp 24), some (17, false)⟩,
 ⟨some 26, .faddr (.cp 25) 1, some (17, false)⟩,
 ⟨some 27, .load false none (.cp 26), some (17, false)⟩,
 ⟨some 28, .bin .sub (.cp 23) (.cp 27), some (17, false)⟩,
 ⟨some 29, .max2 (.cp 28) (.c (.int .i64 0)), some (17, false)⟩,
 ⟨some 30, .conv .u64 (.cp 29), some (17, false)⟩,
 ⟨some 31, .bin .gtr (.cp 18) (.cp 30), some (17, false)⟩,
 ⟨some 32, .pick (.cp 17) (.c (.bool true)) (.cp 31), none⟩,
 ⟨some 33, .call N_tcomp_cursor_fails [.cp 6, .cp 32, .c (.int .i64 4)], none⟩] [(5, 9), (17, 21)] [0, 1]
noncomputable abbrev C153_3 : LCode := .region true 0 [
 ⟨some 34, .mov (.cp 0), none⟩,
 ⟨some 35, .mov (.cp 1), none⟩,
 ⟨some 36, .mov (.cp 0), none⟩,
 ⟨some 37, .nilc (.cp 36), none⟩,
 ⟨some 38, .faddr (.cp 37) 0, none⟩,
 ⟨some 39, .load false none (.cp 38), none⟩,
 ⟨some 40, .len false (.cp 39), none⟩,
 ⟨some 41, .mov (.cp 0), none⟩,
 ⟨some 42, .nilc (.cp 41), none⟩,
 ⟨some 43, .faddr (.cp 42) 1, none⟩,
 ⟨some 44, .load false none (.cp 43), none⟩,
 ⟨some 45, .bin .sub (.cp 40) (.cp 44), none⟩,
 ⟨some 46, .conv .u64 (.cp 45), none⟩,
 ⟨some 47, .bin .gtr (.cp 35) (.cp 46), none⟩,
 ⟨some 48, .call N_tcomp_cursor_fails [.cp 34, .cp 47, .c (.int .i64 3)], none⟩] [(5, 10)] [0, 1]
noncomputable abbrev C153_4 : LCode := .region false 0 [
 ⟨some 49, .mov (.cp 0), none⟩,
 ⟨some 50, .call N_tcomp_cursor_ok [.cp 49], none⟩,
 ⟨some 51, .un .not (.cp 50), none⟩] [] [0, 1, 51]
noncomputable abbrev C153_5 : LCode := .region false 0 [
 ⟨some 4, .mov (.c (.sl true 1 [])), none⟩] [] [4]
noncomputable abbrev C153_6 : LCode := .seq C153_5 .ret
noncomputable abbrev C153_7 : LCode := .cond (.cp 51) C153_6 .skip
noncomputable abbrev C153_8 : LCode := .seq C153_4 C153_7
noncomputable abbrev C153_9 : LCode := .region true 0 [
 ⟨some 52, .mov (.cp 0), none⟩,
 ⟨some 53, .nilc (.cp 52), none⟩,
 ⟨some 54, .faddr (.cp 53) 0, none⟩,
 ⟨some 55, .load false none (.cp 54), none⟩,
 ⟨some 56, .mov (.cp 0), none⟩,
 ⟨some 57, .nilc (.cp 56), none⟩,
 ⟨some 58, .faddr (.cp 57) 1, none⟩,
 ⟨some 59, .load false none (.cp 58), none⟩,
 ⟨some 60, .mov (.cp 0), none⟩,
 ⟨some 61, .nilc (.cp 60), none⟩,
 ⟨some 62, .faddr (.cp 61) 1, none⟩,
 ⟨some 63, .load false none (.cp 62), none⟩,
 ⟨some 64, .mov (.cp 1), none⟩,
 ⟨some 65, .conv .i64 (.cp 64), none⟩,
 ⟨some 66, .bin .add (.cp 63) (.cp 65), none⟩,
 ⟨some 67, .slice (some 1) (.cp 55) (some (.cp 59)) (some (.cp 66)), none⟩,
 ⟨some 5, .mov (.mv 67), none⟩] [(3, 7), (3, 11), (7, 11)] [0, 1, 5]
noncomputable abbrev C153_10 : LCode := .region false 0 [
 ⟨some 68, .mov (.cp 0), none⟩,
 ⟨some 69, .nilc (.cp 68), none⟩,
 ⟨some 70, .faddr (.cp 69) 1, none⟩,
 ⟨some 71, .load false none (.cp 70), none⟩,
 ⟨some 72, .mov (.cp 1), none⟩,
 ⟨some 73, .conv .i64 (.cp 72), none⟩,
 ⟨some 74, .bin .add (.cp 71) (.cp 73), none⟩,
 ⟨some 75, .nilc (.cp 68), none⟩,
 ⟨some 76, .faddr (.cp 75) 1, none⟩,
 ⟨none, .store none (.cp 76) (.cp 74), none⟩] [] [5]
noncomputable abbrev C153_11 : LCode := .region false 0 [
 ⟨some 77, .mov (.mv 5), none⟩,
 ⟨some 4, .mov (.mv 77), none⟩] [] [4]
noncomputable abbrev C153_12 : LCode := .seq C153_11 .ret
noncomputable abbrev C153_13 : LCode := .seq C153_10 C153_12
noncomputable abbrev C153_14 : LCode := .seq C153_9 C153_13
noncomputable abbrev C153_15 : LCode := .seq C153_8 C153_14
noncomputable def C153_16 : LCode := .seq C153_3 C153_15
noncomputable abbrev C153_17 : LCode := .only [0, 1] C153_16
noncomputable abbrev C153_18 : LCode := .seq C153_2 C153_17
noncomputable abbrev C153_19 : LCode := .seq C153_1 C153_18
noncomputable def L_tcomp_cursor_bytes : LF := { np := 2, res := [.tmp 4], keepRes := false, body := C153_19 }
noncomputable abbrev C154_1 : LCode := .region false 0 [
 ⟨some 2, .mov (.c (.int .u64 0)), none⟩] [] [0]
noncomputable abbrev C154_2 : LCode := .region false 0 [
 ⟨some 4, .mov (.cp 0), none⟩,
 ⟨some 5, .call N_tcomp_cursor_num [.cp 4, .c (.int .i64 32)], none⟩,
 ⟨some 3, .mov (.cp 5), none⟩] [] [0, 3]
noncomputable abbrev C154_3 : LCode := .region false 0 [
 ⟨some 6, .mov (.cp 0), none⟩,
 ⟨some 7, .mov (.cp 3), none⟩,
 ⟨some 8, .bin .gtr (.cp 7) (.c (.int .u64 2147483647)), none⟩,
 ⟨some 9, .call N_tcomp_cursor_fails [.cp 6, .cp 8, .c (.int .i64 2)], none⟩] [] [0, 3]
noncomputable abbrev C154_4 : LCode := .region false 0 [
 ⟨some 10, .mov (.cp 0), none⟩,
 ⟨some 11, .call N_tcomp_cursor_ok [.cp 10], none⟩,
 ⟨some 12, .un .not (.cp 11), none⟩] [] [3, 12]
noncomputable abbrev C154_5 : LCode := .region false 0 [
 ⟨some 2, .mov (.c (.int .u64 0)), none⟩] [] [2]
noncomputable abbrev C154_6 : LCode := .seq C154_5 .ret
noncomputable abbrev C154_7 : LCode := .cond (.cp 12) C154_6 .skip
noncomputable abbrev C154_8 : LCode := .seq C154_4 C154_7
noncomputable abbrev C154_9 : LCode := .region false 0 [
 ⟨some 13, .mov (.cp 3), none⟩,
 ⟨some 2, .mov (.cp 13), none⟩] [] [2]
noncomputable abbrev C154_10 : LCode := .seq C154_9 .ret
noncomputable abbrev C154_11 : LCode := .seq C154_8 C154_10
noncomputable abbrev C154_12 : LCode := .seq C154_3 C154_11
noncomputable abbrev C154_13 : LCode := .seq C154_2 C154_12
noncomputable abbrev C154_14 : LCode := .seq C154_1 C154_13
noncomputable def L_tcomp_cursor_count : LF := { np := 1, res := [.tmp 2], keepRes := false, body := C154_14 }
noncomputable abbrev C155_1 : LCode := .region false 1 [
 ⟨some 8, .alloc 0 [.int .i64 0, .int .i64 0, .str [], .sl true 5 [], .sl true 1 []], none⟩] [] [0, 1, 2, 3, 8]
noncomputable abbrev C155_2 : LCode := .region false 1 [
 ⟨some 12, .mov (.cp 1), none⟩,
 ⟨some 13, .build [.int .i64 0, .int .i64 0, .str [], .sl true 5 [], .sl true 1 []] [(0, 1, (.cp 12))], none⟩,
 ⟨some 9, .alloc 0 [.int .i64 0, .int .i64 0, .str [], .sl true 5 [], .sl true 1 []], none⟩,
 ⟨none, .store (some 5) (.cp 9) (.mv 13), none⟩] [] [0, 2, 3, 8, 9]
noncomputable abbrev C155_3 : LCode := .region false 0 [
 ⟨some 14, .mov (.cp 0), none⟩,
 ⟨some 15, .nilc (.cp 14), none⟩,
 ⟨some 16, .faddr (.cp 15) 0, none⟩,
 ⟨some 17, .call N_tcomp_cursor_byte [.cp 16], none⟩,
 ⟨some 10, .mov (.cp 17), none⟩] [] [0, 2, 3, 8, 9, 10]
noncomputable abbrev C155_4 : LCode := .region false 0 [
 ⟨some 18, .mov (.cp 0), none⟩,
 ⟨some 19, .mov (.cp 0), none⟩,
 ⟨some 20, .nilc (.cp 19), none⟩,
 ⟨some 21, .faddr (.cp 20) 0, none⟩,
 ⟨some 22, .mov (.cp 10), none⟩,
 ⟨some 23, .bin .and (.cp 22) (.c (.int .i64 15)), none⟩,
 ⟨some 24, .call N_tcomp_cursor_element [.cp 21, .cp 23], none⟩,
 ⟨some 25, .mov (.cp 2), none⟩,
 ⟨some 26, .call N_tcomp_reader_is [.cp 18, .cp 24, .cp 25], none⟩] [] [0, 2, 3, 8, 9, 10]
noncomputable abbrev C155_5 : LCode := .region false 0 [
 ⟨some 27, .mov (.cp 10), none⟩,
 ⟨some 28, .bin .shr (.cp 27) (.c (.int .u64 4)), none⟩,
 ⟨some 29, .conv .u64 (.cp 28), none⟩,
 ⟨some 11, .mov (.cp 29), none⟩] [] [0, 2, 3, 8, 9, 11]
noncomputable abbrev C155_6 : LCode := .region false 0 [
 ⟨some 30, .mov (.cp 11), none⟩,
 ⟨some 31, .bin .eql (.cp 30) (.c (.int .u64 15)), none⟩] [] [0, 2, 3, 8, 9, 11, 31]
noncomputable abbrev C155_7 : LCode := .region false 0 [
 ⟨some 32, .mov (.cp 0), none⟩,
 ⟨some 33, .nilc (.cp 32), none⟩,
 ⟨some 34, .faddr (.cp 33) 0, none⟩,
 ⟨some 35, .call N_tcomp_cursor_count [.cp 34], none⟩,
 ⟨some 11, .mov (.cp 35), none⟩] [] [0, 2, 3, 8, 9, 11]
noncomputable abbrev C155_8 : LCode := .cond (.cp 31) C155_7 .skip
noncomputable abbrev C155_9 : LCode := .seq C155_6 C155_8
noncomputable abbrev C155_10 : LCode := .region false 0 [
 ⟨some 36, .mov (.cp 11), none⟩,
 ⟨some 37, .bin .gtr (.cp 36) (.c (.int .u64 0)), none⟩,
 ⟨some 38, .mov (.cp 37), none⟩,
 ⟨some 39, .mov (.cp 0), some (38, true)⟩,
 ⟨some 40, .nilc (.cp 39), some (38, true)⟩,
 ⟨some 41, .faddr (.cp 40) 0, some (38, true)⟩,
 ⟨some 42, .call N_tcomp_cursor_ok [.cp 41], some (38, true)⟩,
 ⟨some 43, .pick (.cp 38) (.cp 42) (.c (.bool false)), none⟩] [] [0, 2, 3, 8, 9, 11, 43]
noncomputable abbrev C155_11 : LCode := .cond (.cp 43) .skip (.exit 0)
noncomputable abbrev C155_12 : LCode := .seq C155_10 C155_11
noncomputable abbrev C155_13 : LCode := .region true 0 [
 ⟨some 46, .faddr (.cp 9) 3, none⟩,
 ⟨some 47, .load true none (.cp 46), none⟩,
 ⟨some 48, .mov (.cp 0), none⟩,
 ⟨some 49, .mov (.cp 2), none⟩,
 ⟨some 50, .mov (.cp 3), none⟩,
 ⟨some 51, .bin .add (.cp 50) (.c (.int .i64 1)), none⟩,
 ⟨some 52, .call N_tcomp_reader_value [.cp 48, .cp 49, .cp 51], none⟩,
 ⟨some 53, .bslice 5 (List.replicate 1 (.agg [.int .i64 0, .int .i64 0, .str [], .sl true 5 [], .sl true 1 []])) [(0, (.cp 52))], none⟩,
 ⟨some 54, .append 5 80 (.mv 47) (.cp 53), none⟩,
 ⟨some 55, .faddr (.cp 9) 3, none⟩,
 ⟨none, .store none (.cp 55) (.mv 54), none⟩] [(1, 6)] [0, 2, 3, 8, 9, 11]
noncomputable abbrev C155_14 : LCode := .block 1 C155_13
noncomputable abbrev C155_15 : LCode := .region false 0 [
 ⟨some 44, .mov (.cp 11), none⟩,
 ⟨some 45, .bin .sub (.cp 44) (.c (.int .u64 1)), none⟩,
 ⟨some 11, .mov (.cp 45), none⟩] [] [0, 2, 3, 8, 9, 11]
noncomputable def C155_16 : LCode := .seq C155_14 C155_15
noncomputable abbrev C155_17 : LCode := .only [0, 2, 3, 8, 9, 11] C155_16
noncomputable def C155_18 : LCode := .seq C155_12 C155_17
noncomputable abbrev C155_19 : LCode := .gc (.only [0, 2, 3, 8, 9, 11] C155_18)
noncomputable abbrev C155_20 : LCode := .only [0, 2, 3, 8, 9, 11] (.loop C155_19)
noncomputable abbrev C155_21 : LCode := .block 0 C155_20
noncomputable abbrev C155_22 : LCode := .region false 0 [
 ⟨some 56, .mov (.cp 0), none⟩,
 ⟨some 57, .load false (some 5) (.cp 9), none⟩,
 ⟨some 58, .call N_tcomp_reader_normal [.cp 56, .cp 57], none⟩,
 ⟨none, .store (some 5) (.cp 8) (.mv 58), none⟩] [] [8]
noncomputable abbrev C155_23 : LCode := .seq C155_22 .ret
noncomputable def C155_24 : LCode := .seq C155_21 C155_23
noncomputable abbrev C155_25 : LCode := .only [0, 2, 3, 8, 9, 11] C155_24
noncomputable abbrev C155_26 : LCode := .seq C155_9 C155_25
noncomputable abbrev C155_27 : LCode := .seq C155_5 C155_26
noncomputable abbrev C155_28 : LCode := .seq C155_4 C155_27
noncomputable abbrev C155_29 : LCode := .seq C155_3 C155_28
noncomputable abbrev C155_30 : LCode := .seq C155_2 C155_29
noncomputable abbrev C155_31 : LCode := .seq C155_1 C155_30
noncomputable def L_tcomp_reader_list : LF := { np := 4, res := [.cell 8 (some 5)], keepRes := false, body := C155_31 }
noncomputable abbrev C156_1 : LCode := .region false 1 [
 ⟨some 8, .alloc 0 [.int .i64 0, .int .i64 0, .str [], .sl true 5 [], .sl true 1 []], none⟩] [] [0, 1, 2, 3, 8]
noncomputable abbrev C156_2 : LCode := .region false 1 [
 ⟨some 14, .build [.int .i64 0, .int .i64 0, .str [], .sl true 5 [], .sl true 1 []] [(0, 1, (.c (.int .i64 13)))], none⟩,
 ⟨some 9, .alloc 0 [.int .i64 0, .int .i64 0, .str [], .sl true 5 [], .sl true 1 []], none⟩,
 ⟨none, .store (some 5) (.cp 9) (.mv 14), none⟩] [] [0, 1, 2, 3, 8, 9]
noncomputable abbrev C156_3 : LCode := .region false 0 [
 ⟨some 15, .mov (.cp 0), none⟩,
 ⟨some 16, .nilc (.cp 15), none⟩,
 ⟨some 17, .faddr (.cp 16) 0, none⟩,
 ⟨some 18, .call N_tcomp_cursor_count [.cp 17], none⟩,
 ⟨some 10, .mov (.cp 18), none⟩] [] [0, 1, 2, 3, 8, 9, 10]
noncomputable abbrev C156_4 : LCode := .region false 0 [
 ⟨some 19, .mov (.cp 10), none⟩,
 ⟨some 20, .bin .eql (.cp 19) (.c (.int .u64 0)), none⟩] [] [0, 1, 2, 3, 8, 9, 10, 20]
noncomputable abbrev C156_5 : LCode := .region false 0 [
 ⟨some 21, .load false (some 5) (.cp 9), none⟩,
 ⟨none, .store (some 5) (.cp 8) (.mv 21), none⟩] [] [8]
noncomputable abbrev C156_6 : LCode := .seq C156_5 .ret
noncomputable abbrev C156_7 : LCode := .cond (.cp 20) C156_6 .skip
noncomputable abbrev C156_8 : LCode := .seq C156_4 C156_7
noncomputable abbrev C156_9 : LCode := .region false 0 [
 ⟨some 22, .mov (.cp 0), none⟩,
 ⟨some 23, .nilc (.cp 22), none⟩,
 ⟨some 24, .faddr (.cp 23) 0, none⟩,
 ⟨some 25, .call N_tcomp_cursor_byte [.cp 24], none⟩,
 ⟨some 11, .mov (.cp 25), none⟩] [] [0, 1, 2, 3, 8, 9, 10, 11]
noncomputable abbrev C156_10 : LCode := .region false 0 [
 ⟨some 26, .mov (.cp 0), none⟩,
 ⟨some 27, .nilc (.cp 26), none⟩,
 ⟨some 28, .faddr (.cp 27) 0, none⟩,
 ⟨some 29, .mov (.cp 11), none⟩,
 ⟨some 30, .bin .shr (.cp 29) (.c (.int .u64 4)), none⟩,
 ⟨some 31, .call N_tcomp_cursor_element [.cp 28, .cp 30], none⟩,
 ⟨some 12, .mov (.cp 31), none⟩] [] [0, 1, 2, 3, 8, 9, 10, 11, 12]
noncomputable abbrev C156_11 : LCode := .region false 0 [
 ⟨some 32, .mov (.cp 0), none⟩,
 ⟨some 33, .nilc (.cp 32), none⟩,
 ⟨some 34, .faddr (.cp 33) 0, none⟩,
 ⟨some 35, .mov (.cp 11), none⟩,
 ⟨some 36, .bin .and (.cp 35) (.c (.int .i64 15)), none⟩,
 ⟨some 37, .call N_tcomp_cursor_element [.cp 34, .cp 36], none⟩,
 ⟨some 13, .mov (.cp 37), none⟩] [] [0, 1, 2, 3, 8, 9, 10, 12, 13]
noncomputable abbrev C156_12 : LCode := .region false 0 [
 ⟨some 38, .mov (.cp 0), none⟩,
 ⟨some 39, .mov (.cp 12), none⟩,
 ⟨some 40, .mov (.cp 1), none⟩,
 ⟨some 41, .call N_tcomp_reader_is [.cp 38, .cp 39, .cp 40], none⟩] [] [0, 1, 2, 3, 8, 9, 10, 13]
noncomputable abbrev C156_13 : LCode := .region false 0 [
 ⟨some 42, .mov (.cp 0), none⟩,
 ⟨some 43, .mov (.cp 13), none⟩,
 ⟨some 44, .mov (.cp 2), none⟩,
 ⟨some 45, .call N_tcomp_reader_is [.cp 42, .cp 43, .cp 44], none⟩] [] [0, 1, 2, 3, 8, 9, 10]
noncomputable abbrev C156_14 : LCode := .region false 0 [
 ⟨some 46, .mov (.cp 10), none⟩,
 ⟨some 47, .bin .gtr (.cp 46) (.c (.int .u64 0)), none⟩,
 ⟨some 48, .mov (.cp 47), none⟩,
 ⟨some 49, .mov (.cp 0), some (48, true)⟩,
 ⟨some 50, .nilc (.cp 49), some (48, true)⟩,
 ⟨some 51, .faddr (.cp 50) 0, some (48, true)⟩,
 ⟨some 52, .call N_tcomp_cursor_ok [.cp 51], some (48, true)⟩,
 ⟨some 53, .pick (.cp 48) (.cp 52) (.c (.bool false)), none⟩] [] [0, 1, 2, 3, 8, 9, 10, 53]
noncomputable abbrev C156_15 : LCode := .cond (.cp 53) .skip (.exit 0)
noncomputable abbrev C156_16 : LCode := .seq C156_14 C156_15
noncomputable abbrev C156_17 : LCode := .region true 0 [
 ⟨some 56, .faddr (.cp 9) 3, none⟩,
 ⟨some 57, .load true none (.cp 56), none⟩,
 ⟨some 58, .mov (.cp 0), none⟩,
 ⟨some 59, .mov (.cp 1), none⟩,
 ⟨some 60, .mov (.cp 3), none⟩,
 ⟨some 61, .bin .add (.cp 60) (.c (.int .i64 1)), none⟩,
 ⟨some 62, .call N_tcomp_reader_value [.cp 58, .cp 59, .cp 61], none⟩,
 ⟨some 63, .mov (.cp 0), none⟩,
 ⟨some 64, .mov (.cp 2), none⟩,
 ⟨some 65, .mov (.cp 3), none⟩,
 ⟨some 66, .bin .add (.cp 65) (.c (.int .i64 1)), none⟩,
 ⟨some 67, .call N_tcomp_reader_value [.cp 63, .cp 64, .cp 66], none⟩,
 ⟨some 68, .bslice 5 (List.replicate 2 (.agg [.int .i64 0, .int .i64 0, .str [], .sl true 5 [], .sl true 1 []])) [(0, (.cp 62)), (1, (.cp 67))], none⟩,
 ⟨some 69, .append 5 80 (.mv 57) (.cp 68), none⟩,
 ⟨some 70, .faddr (.cp 9) 3, none⟩,
 ⟨none, .store none (.cp 70) (.mv 69), none⟩] [(1, 6), (1, 11)] [0, 1, 2, 3, 8, 9, 10]
noncomputable abbrev C156_18 : LCode := .block 1 C156_17
noncomputable abbrev C156_19 : LCode := .region false 0 [
 ⟨some 54, .mov (.cp 10), none⟩,
 ⟨some 55, .bin .sub (.cp 54) (.c (.int .u64 1)), none⟩,
 ⟨some 10, .mov (.cp 55), none⟩] [] [0, 1, 2, 3, 8, 9, 10]
noncomputable def C156_20 : LCode := .seq C156_18 C156_19
noncomputable abbrev C156_21 : LCode := .only [0, 1, 2, 3, 8, 9, 10] C156_20
noncomputable def C156_22 : LCode := .seq C156_16 C156_21
noncomputable abbrev C156_23 : LCode := .gc (.only [0, 1, 2, 3, 8, 9, 10] C156_22)
noncomputable abbrev C156_24 : LCode := .only [0, 1, 2, 3, 8, 9, 10] (.loop C156_23)
noncomputable abbrev C156_25 : LCode := .block 0 C156_24
noncomputable abbrev C156_26 : LCode := .region false 0 [
 ⟨some 71, .mov (.cp 0), none⟩,
 ⟨some 72, .load false (some 5) (.cp 9), none⟩,
 ⟨some 73, .call N_tcomp_reader_normal [.cp 71, .cp 72], none⟩,
 ⟨none, .store (some 5) (.cp 8) (.mv 73), none⟩] [] [8]
noncomputable abbrev C156_27 : LCode := .seq C156_26 .ret
noncomputable abbrev C156_28 : LCode := .seq C156_25 C156_27
noncomputable abbrev C156_29 : LCode := .seq C156_13 C156_28
noncomputable abbrev C156_30 : LCode := .seq C156_12 C156_29
noncomputable abbrev C156_31 : LCode := .seq C156_11 C156_30
noncomputable abbrev C156_32 : LCode := .seq C156_10 C156_31
noncomputable abbrev C156_33 : LCode := .seq C156_9 C156_32
noncomputable abbrev C156_34 : LCode := .seq C156_8 C156_33
noncomputable abbrev C156_35 : LCode := .seq C156_3 C156_34
noncomputable abbrev C156_36 : LCode := .seq C156_2 C156_35
noncomputable abbrev C156_37 : LCode := .seq C156_1 C156_36
noncomputable def L_tcomp_reader_pairs : LF := { np := 4, res := [.cell 8 (some 5)], keepRes := false, body := C156_37 }
noncomputable abbrev C157_1 : LCode := .region false 0 [
 ⟨some 4, .mov (.c (.int .i64 0)), none⟩,
 ⟨some 5, .mov (.c (.int .i64 0)), none⟩,
 ⟨some 6, .mov (.c (.bool false)), none⟩] [] [0, 1]
noncomputable abbrev C157_2 : LCode := .region false 0 [
 ⟨some 9, .mov (.cp 0), none⟩,
 ⟨some 10, .call N_tcomp_cursor_byte [.cp 9], none⟩,
 ⟨some 7, .mov (.cp 10), none⟩] [] [0, 1, 7]
noncomputable abbrev C157_3 : LCode := .region false 0 [
 ⟨some 11, .mov (.cp 0), none⟩,
 ⟨some 12, .call N_tcomp_cursor_ok [.cp 11], none⟩,
 ⟨some 13, .un .not (.cp 12), none⟩,
 ⟨some 14, .mov (.cp 13), none⟩,
 ⟨some 15, .mov (.cp 7), some (14, false)⟩,
 ⟨some 16, .bin .eql (.cp 15) (.c (.int .i64 0)), some (14, false)⟩,
 ⟨some 17, .pick (.cp 14) (.c (.bool true)) (.cp 16), none⟩] [] [0, 1, 7, 17]
noncomputable abbrev C157_4 : LCode := .region false 0 [
 ⟨some 4, .mov (.c (.int .i64 0)), none⟩,
 ⟨some 5, .mov (.c (.int .i64 0)), none⟩,
 ⟨some 6, .mov (.c (.bool false)), none⟩] [] [4, 5, 6]
noncomputable abbrev C157_5 : LCode := .seq C157_4 .ret
noncomputable abbrev C157_6 : LCode := .cond (.cp 17) C157_5 .skip
noncomputable abbrev C157_7 : LCode := .seq C157_3 C157_6
noncomputable abbrev C157_8 : LCode := .region false 0 [
 ⟨some 18, .mov (.cp 7), none⟩,
 ⟨some 19, .bin .and (.cp 18) (.c (.int .i64 15)), none⟩,
 ⟨some 4, .mov (.cp 19), none⟩] [] [0, 1, 4, 7]
noncomputable abbrev C157_9 : LCode := .region false 0 [
 ⟨some 20, .mov (.cp 0), none⟩,
 ⟨some 21, .mov (.cp 4), none⟩,
 ⟨some 22, .bin .lss (.cp 21) (.c (.int .i64 1)), none⟩,
 ⟨some 23, .mov (.cp 22), none⟩,
 ⟨some 24, .mov (.cp 4), some (23, false)⟩,
 ⟨some 25, .bin .gtr (.cp 24) (.c (.int .i64 12)), some (23, false)⟩,
 ⟨some 26, .pick (.cp 23) (.c (.bool true)) (.cp 25), none⟩,
 ⟨some 27, .call N_tcomp_cursor_fails [.cp 20, .cp 26, .c (.int .i64 2)], none⟩] [] [0, 1, 4, 7]
noncomputable abbrev C157_10 : LCode := .region false 0 [
 ⟨some 28, .mov (.cp 7), none⟩,
 ⟨some 29, .bin .shr (.cp 28) (.c (.int .u64 4)), none⟩,
 ⟨some 8, .mov (.cp 29), none⟩] [] [0, 1, 4, 8]
noncomputable abbrev C157_11 : LCode := .region false 0 [
 ⟨some 30, .mov (.cp 8), none⟩,
 ⟨some 31, .bin .gtr (.cp 30) (.c (.int .i64 0)), none⟩] [] [0, 1, 4, 8, 31]
noncomputable abbrev C157_12 : LCode := .region false 0 [
 ⟨some 32, .mov (.cp 1), none⟩,
 ⟨some 33, .mov (.cp 8), none⟩,
 ⟨some 34, .bin .add (.cp 32) (.cp 33), none⟩,
 ⟨some 5, .mov (.cp 34), none⟩] [] [0, 4, 5]
noncomputable abbrev C157_13 : LCode := .region false 0 [
 ⟨some 35, .mov (.cp 0), none⟩,
 ⟨some 36, .call N_tcomp_cursor_num [.cp 35, .c (.int .i64 32)], none⟩,
 ⟨some 37, .conv .u32 (.cp 36), none⟩,
 ⟨some 38, .call N_zig_Zag32 [.cp 37], none⟩,
 ⟨some 39, .conv .i64 (.cp 38), none⟩,
 ⟨some 5, .mov (.cp 39), none⟩] [] [0, 4, 5]
noncomputable abbrev C157_14 : LCode := .cond (.cp 31) C157_12 C157_13
noncomputable abbrev C157_15 : LCode := .seq C157_11 C157_14
noncomputable abbrev C157_16 : LCode := .seq C157_10 C157_15
noncomputable abbrev C157_17 : LCode := .region false 0 [
 ⟨some 40, .mov (.cp 0), none⟩,
 ⟨some 41, .mov (.cp 5), none⟩,
 ⟨some 42, .mov (.cp 5), none⟩,
 ⟨some 43, .conv .i16 (.cp 42), none⟩,
 ⟨some 44, .conv .i64 (.cp 43), none⟩,
 ⟨some 45, .bin .neq (.cp 41) (.cp 44), none⟩,
 ⟨some 46, .call N_tcomp_cursor_fails [.cp 40, .cp 45, .c (.int .i64 2)], none⟩] [] [0, 4, 5]
noncomputable abbrev C157_18 : LCode := .region false 0 [
 ⟨some 47, .mov (.cp 4), none⟩,
 ⟨some 48, .mov (.cp 5), none⟩,
 ⟨some 49, .mov (.cp 0), none⟩,
 ⟨some 50, .call N_tcomp_cursor_ok [.cp 49], none⟩,
 ⟨some 4, .mov (.cp 47), none⟩,
 ⟨some 5, .mov (.cp 48), none⟩,
 ⟨some 6, .mov (.cp 50), none⟩] [] [4, 5, 6]
noncomputable abbrev C157_19 : LCode := .seq C157_18 .ret
noncomputable abbrev C157_20 : LCode := .seq C157_17 C157_19
noncomputable def C157_21 : LCode := .seq C157_16 C157_20
noncomputable abbrev C157_22 : LCode := .only [0, 1, 4, 7] C157_21
noncomputable abbrev C157_23 : LCode := .seq C157_9 C157_22
noncomputable def C157_24 : LCode := .seq C157_8 C157_23
noncomputable abbrev C157_25 : LCode := .only [0, 1, 7] C157_24
noncomputable abbrev C157_26 : LCode := .seq C157_7 C157_25
noncomputable abbrev C157_27 : LCode := .seq C157_2 C157_26
noncomputable abbrev C157_28 : LCode := .seq C157_1 C157_27
noncomputable def L_tcomp_cursor_head : LF := { np := 2, res := [.tmp 4, .tmp 5, .tmp 6], keepRes := false, body := C157_28 }
noncomputable abbrev C158_1 : LCode := .region false 0 [
 ⟨some 7, .box (.mv 2), none⟩] [] [0, 1, 3, 4, 7]
noncomputable abbrev C158_2 : LCode := .region true 0 [
 ⟨some 12, .mov (.cp 0), none⟩,
 ⟨some 13, .nilc (.cp 12), none⟩,
 ⟨some 14, .faddr (.cp 13) 5, none⟩,
 ⟨some 15, .load false (some 3) (.cp 14), none⟩,
 ⟨some 16, .faddr (.cp 7) 2, none⟩,
 ⟨some 17, .load false none (.cp 16), none⟩,
 ⟨some 18, .call N_value_Kind [.cp 15, .cp 17], none⟩,
 ⟨some 19, .bin .eql (.cp 18) (.c (.int .i64 2)), none⟩,
 ⟨some 10, .mov (.cp 19), none⟩] [(3, 5)] [0, 1, 3, 4, 7, 10]
noncomputable abbrev C158_3 : LCode := .region false 0 [
 ⟨some 20, .mov (.cp 10), none⟩] [] [0, 1, 3, 4, 7, 10, 20]
noncomputable abbrev C158_4 : LCode := .region false 0 [
 ⟨some 21, .mov (.cp 0), none⟩,
 ⟨some 22, .nilc (.cp 21), none⟩,
 ⟨some 23, .faddr (.cp 22) 0, none⟩,
 ⟨some 24, .mov (.cp 3), none⟩,
 ⟨some 25, .bin .neq (.cp 24) (.c (.int .i64 1)), none⟩,
 ⟨some 26, .mov (.cp 25), none⟩,
 ⟨some 27, .mov (.cp 3), some (26, true)⟩,
 ⟨some 28, .bin .neq (.cp 27) (.c (.int .i64 2)), some (26, true)⟩,
 ⟨some 29, .pick (.cp 26) (.cp 28) (.c (.bool false)), none⟩,
 ⟨some 30, .call N_tcomp_cursor_fails [.cp 23, .cp 29, .c (.int .i64 10)], none⟩] [] [0, 1, 3, 4, 7, 10]
noncomputable abbrev C158_5 : LCode := .region false 0 [
 ⟨some 31, .mov (.cp 0), none⟩,
 ⟨some 32, .mov (.cp 3), none⟩,
 ⟨some 33, .faddr (.cp 7) 2, none⟩,
 ⟨some 34, .load false none (.cp 33), none⟩,
 ⟨some 35, .call N_tcomp_reader_is [.cp 31, .cp 32, .cp 34], none⟩] [] [0, 1, 3, 4, 7, 10]
noncomputable abbrev C158_6 : LCode := .cond (.cp 20) C158_4 C158_5
noncomputable abbrev C158_7 : LCode := .seq C158_3 C158_6
noncomputable abbrev C158_8 : LCode := .region true 0 [
 ⟨some 36, .mov (.cp 0), none⟩,
 ⟨some 37, .nilc (.cp 36), none⟩,
 ⟨some 38, .faddr (.cp 37) 0, none⟩,
 ⟨some 39, .mov (.cp 1), none⟩,
 ⟨some 40, .nilc (.cp 39), none⟩,
 ⟨some 41, .faddr (.cp 40) 4, none⟩,
 ⟨some 42, .load false none (.cp 41), none⟩,
 ⟨some 43, .faddr (.cp 7) 0, none⟩,
 ⟨some 44, .load false none (.cp 43), none⟩,
 ⟨some 45, .call N_slices_Contains_int_int [.cp 42, .cp 44], none⟩,
 ⟨some 46, .call N_tcomp_cursor_fails [.cp 38, .cp 45, .c (.int .i64 8)], none⟩] [(6, 8)] [0, 1, 3, 4, 7, 10]
noncomputable abbrev C158_9 : LCode := .region false 1 [
 ⟨some 47, .mov (.cp 3), none⟩,
 ⟨some 48, .bin .sub (.c (.int .i64 2)) (.cp 47), none⟩,
 ⟨some 49, .build [.int .i64 0, .int .i64 0, .str [], .sl true 5 [], .sl true 1 []] [(0, 1, (.c (.int .i64 2))), (1, 1, (.cp 48))], none⟩,
 ⟨some 11, .alloc 0 [.int .i64 0, .int .i64 0, .str [], .sl true 5 [], .sl true 1 []], none⟩,
 ⟨none, .store (some 5) (.cp 11) (.mv 49), none⟩] [] [0, 1, 4, 7, 10, 11]
noncomputable abbrev C158_10 : LCode := .region false 0 [
 ⟨some 50, .mov (.cp 10), none⟩,
 ⟨some 51, .un .not (.cp 50), none⟩] [] [0, 1, 4, 7, 11, 51]
noncomputable abbrev C158_11 : LCode := .region false 0 [
 ⟨some 52, .mov (.cp 0), none⟩,
 ⟨some 53, .faddr (.cp 7) 2, none⟩,
 ⟨some 54, .load false none (.cp 53), none⟩,
 ⟨some 55, .mov (.cp 4), none⟩,
 ⟨some 56, .bin .add (.cp 55) (.c (.int .i64 1)), none⟩,
 ⟨some 57, .call N_tcomp_reader_value [.cp 52, .cp 54, .cp 56], none⟩,
 ⟨none, .store (some 5) (.cp 11) (.mv 57), none⟩] [] [1, 7, 11]
noncomputable abbrev C158_12 : LCode := .cond (.cp 51) C158_11 .skip
noncomputable abbrev C158_13 : LCode := .seq C158_10 C158_12
noncomputable def C158_14 : LCode := .region true 0 [
 ⟨some 58, .mov (.cp 1), none⟩,
 ⟨some 59, .mov (.cp 1), none⟩,
 ⟨some 60, .mov (.cp 1), none⟩,
 ⟨some 61, .nilc (.cp 60), none⟩,
 ⟨some 62, .faddr (.cp 61) 4, none⟩,
 ⟨some 63, .load true none (.cp 62), none⟩,
 ⟨some 64, .faddr (.cp 7) 0, none⟩,
 ⟨some 65, .load false none (.cp 64), none⟩,
 ⟨some 66, .bslice 1 (List.replicate 1 (.int .i64 0)) [(0, (.cp 65))], none⟩,
 ⟨some 67, .append 1 8 (.mv 63) (.cp 66), none⟩,
 ⟨some 68, .mov (.cp 1), none⟩,
 ⟨some 69, .nilc (.cp 68), none⟩,
 ⟨some 70, .faddr (.cp 69) 3, none⟩,
 ⟨some 71, .load true none (.cp 70), none⟩,
 ⟨some 72, .load false (some 5) (.cp 11), none⟩,
 ⟨some 73, .bslice 5 (List.replicate 1 (.agg [.int .i64 0, .int .i64 0, .str [], .sl true 5 [], .sl true 1 []])) [(0, (.cp 72))], none⟩,
 ⟨some 74, .append 5 80 (.mv 71) (.cp 73), none⟩,
 ⟨some 75, .nilc (.cp 58), none⟩,
 ⟨some 76, .faddr (.cp 75) 4, none⟩,
 ⟨none, .store none (.cp 76) (.mv 67), none⟩,
 ⟨some 77, .nilc (.cp 59), none⟩,
 ⟨some 78, .faddr (.cp 77) 3, none⟩,
 ⟨none, .store none (.cp 78) (.mv 74), none⟩] [(5, 7), (5, 13), (7, 13), (5, 14), (7, 14), (13, 14)] []
noncomputable abbrev C158_15 : LCode := .only [1, 7, 11] C158_14
noncomputable abbrev C158_16 : LCode := .seq C158_13 C158_15
noncomputable abbrev C158_17 : LCode := .seq C158_9 C158_16
noncomputable def C158_18 : LCode := .seq C158_8 C158_17
noncomputable abbrev C158_19 : LCode := .only [0, 1, 3, 4, 7, 10] C158_18
noncomputable abbrev C158_20 : LCode := .seq C158_7 C158_19
noncomputable abbrev C158_21 : LCode := .seq C158_2 C158_20
noncomputable abbrev C158_22 : LCode := .seq C158_1 C158_21
noncomputable def L_tcomp_reader_field : LF := { np := 5, res := [], keepRes := false, body := C158_22 }
noncomputable abbrev C159_1 : LCode := .region false 0 [
 ⟨some 5, .box (.mv 1), none⟩,
 ⟨some 6, .box (.mv 2), none⟩] [] [0, 3, 5, 6]
noncomputable abbrev C159_2 : LCode := .region false 0 [
 ⟨some 10, .faddr (.cp 5) 2, none⟩,
 ⟨some 11, .load false none (.cp 10), none⟩,
 ⟨some 12, .len false (.cp 11), none⟩,
 ⟨some 13, .mov (.c (.int .i64 0)), none⟩] [] [0, 3, 5, 6, 11, 12, 13]
noncomputable abbrev C159_3 : LCode := .region false 0 [
 ⟨some 14, .bin .lss (.cp 13) (.cp 12), none⟩] [] [0, 3, 5, 6, 11, 12, 13, 14]
noncomputable abbrev C159_4 : LCode := .cond (.cp 14) .skip (.exit 0)
noncomputable abbrev C159_5 : LCode := .region false 1 [
 ⟨some 15, .iaddr 10 none (.cp 11) (.cp 13), none⟩,
 ⟨some 16, .load false (some 10) (.cp 15), none⟩,
 ⟨some 9, .alloc 0 [.int .i64 0, .int .i64 0, .str [], .str [], .bool false, .int .i64 0, .int .i64 0, .str [], .sl true 5 [], .sl true 1 []], none⟩,
 ⟨none, .store (some 10) (.cp 9) (.mv 16), none⟩] [] [0, 3, 5, 6, 9, 11, 12, 13]
noncomputable abbrev C159_6 : LCode := .region true 0 [
 ⟨some 17, .mov (.cp 0), none⟩,
 ⟨some 18, .nilc (.cp 17), none⟩,
 ⟨some 19, .faddr (.cp 18) 0, none⟩,
 ⟨some 20, .faddr (.cp 9) 1, none⟩,
 ⟨some 21, .load false none (.cp 20), none⟩,
 ⟨some 22, .bin .eql (.cp 21) (.c (.int .i64 1)), none⟩,
 ⟨some 23, .mov (.cp 22), none⟩,
 ⟨some 24, .faddr (.cp 6) 4, some (23, true)⟩,
 ⟨some 25, .load false none (.cp 24), some (23, true)⟩,
 ⟨some 26, .faddr (.cp 9) 0, some (23, true)⟩,
 ⟨some 27, .load false none (.cp 26), some (23, true)⟩,
 ⟨some 28, .call N_slices_Contains_int_int [.cp 25, .cp 27], some (23, true)⟩,
 ⟨some 29, .un .not (.cp 28), some (23, true)⟩,
 ⟨some 30, .pick (.cp 23) (.cp 29) (.c (.bool false)), none⟩,
 ⟨some 31, .call N_tcomp_cursor_fails [.cp 19, .cp 30, .c (.int .i64 14)], none⟩] [(8, 10)] [0, 3, 5, 6, 11, 12, 13]
noncomputable abbrev C159_7 : LCode := .seq C159_5 C159_6
noncomputable abbrev C159_8 : LCode := .block 1 C159_7
noncomputable abbrev C159_9 : LCode := .region false 0 [
 ⟨some 32, .bin .add (.cp 13) (.c (.int .i64 1)), none⟩,
 ⟨some 13, .mov (.cp 32), none⟩] [] [0, 3, 5, 6, 11, 12, 13]
noncomputable abbrev C159_10 : LCode := .seq C159_8 C159_9
noncomputable abbrev C159_11 : LCode := .seq C159_4 C159_10
noncomputable def C159_12 : LCode := .seq C159_3 C159_11
noncomputable abbrev C159_13 : LCode := .gc (.only [0, 3, 5, 6, 11, 12, 13] C159_12)
noncomputable abbrev C159_14 : LCode := .only [0, 3, 5, 6, 11, 12, 13] (.loop C159_13)
noncomputable abbrev C159_15 : LCode := .block 0 C159_14
noncomputable abbrev C159_16 : LCode := .seq C159_2 C159_15
noncomputable abbrev C159_17 : LCode := .region false 0 [
 ⟨some 33, .faddr (.cp 5) 0, none⟩,
 ⟨some 34, .load false none (.cp 33), none⟩,
 ⟨some 35, .bin .eql (.cp 34) (.c (.int .i64 5)), none⟩,
 ⟨some 36, .mov (.cp 35), none⟩,
 ⟨some 37, .faddr (.cp 5) 0, some (36, false)⟩,
 ⟨some 38, .load false none (.cp 37), some (36, false)⟩,
 ⟨some 39, .bin .eql (.cp 38) (.c (.int .i64 8)), some (36, false)⟩,
 ⟨some 40, .pick (.cp 36) (.c (.bool true)) (.cp 39), none⟩] [] [0, 3, 5, 6, 40]
noncomputable abbrev C159_18 : LCode := .region true 0 [
 ⟨some 41, .mov (.cp 0), none⟩,
 ⟨some 42, .nilc (.cp 41), none⟩,
 ⟨some 43, .faddr (.cp 42) 0, none⟩,
 ⟨some 44, .mov (.cp 3), none⟩,
 ⟨some 45, .mov (.cp 44), none⟩,
 ⟨some 46, .faddr (.cp 6) 4, some (45, false)⟩,
 ⟨some 47, .load false none (.cp 46), some (45, false)⟩,
 ⟨some 48, .len false (.cp 47), some (45, false)⟩,
 ⟨some 49, .bin .gtr (.cp 48) (.c (.int .i64 1)), some (45, false)⟩,
 ⟨some 50, .pick (.cp 45) (.c (.bool true)) (.cp 49), none⟩,
 ⟨some 51, .mov (.cp 50), none⟩,
 ⟨some 52, .faddr (.cp 5) 0, some (51, false)⟩,
 ⟨some 53, .load false none (.cp 52), some (51, false)⟩,
 ⟨some 54, .bin .eql (.cp 53) (.c (.int .i64 5)), some (51, false)⟩,
 ⟨some 55, .mov (.cp 54), some (51, false)⟩,
 ⟨some 56, .faddr (.cp 6) 4, some (55, true)⟩,
 ⟨some 57, .load false none (.cp 56), some (55, true)⟩,
 ⟨some 58, .len false (.cp 57), some (55, true)⟩,
 ⟨some 59, .bin .eql (.cp 58) (.c (.int .i64 0)), some (55, true)⟩,
 ⟨some 60, .pick (.cp 55) (.cp 59) (.c (.bool false)), some (51, false)⟩,
 ⟨some 61, .pick (.cp 51) (.c (.bool true)) (.cp 60), none⟩,
 ⟨some 62, .call N_tcomp_cursor_fails [.cp 43, .cp 61, .c (.int .i64 14)], none⟩] [] []
noncomputable def C159_19 : LCode := .cond (.cp 40) C159_18 .skip
noncomputable abbrev C159_20 : LCode := .only [0, 3, 5, 6, 40] C159_19
noncomputable abbrev C159_21 : LCode := .seq C159_17 C159_20
noncomputable abbrev C159_22 : LCode := .seq C159_16 C159_21
noncomputable abbrev C159_23 : LCode := .seq C159_1 C159_22
noncomputable def L_tcomp_reader_whole : LF := { np := 4, res := [], keepRes := false, body := C159_23 }
noncomputable abbrev C160_1 : LCode := .region false 1 [
 ⟨some 3, .box (.mv 1), none⟩,
 ⟨some 4, .alloc 0 [.int .i64 0, .int .i64 0, .str [], .sl true 5 [], .sl true 1 []], none⟩] [] [0, 3, 4]
noncomputable abbrev C160_2 : LCode := .region false 0 [
 ⟨some 7, .mov (.cp 0), none⟩,
 ⟨some 8, .nilc (.cp 7), none⟩,
 ⟨some 9, .faddr (.cp 8) 0, none⟩,
 ⟨some 10, .call N_tcomp_cursor_ok [.cp 9], none⟩,
 ⟨some 11, .un .not (.cp 10), none⟩] [] [0, 3, 4, 11]
noncomputable abbrev C160_3 : LCode := .region false 0 [
 ⟨some 12, .load false (some 5) (.cp 3), none⟩,
 ⟨none, .store (some 5) (.cp 4) (.mv 12), none⟩] [] [4]
noncomputable abbrev C160_4 : LCode := .seq C160_3 .ret
noncomputable abbrev C160_5 : LCode := .cond (.cp 11) C160_4 .skip
noncomputable abbrev C160_6 : LCode := .seq C160_2 C160_5
noncomputable abbrev C160_7 : LCode := .region false 1 [
 ⟨some 14, .load false (some 5) (.cp 3), none⟩,
 ⟨some 15, .call N_order_Normal [.cp 14], none⟩,
 ⟨some 13, .mov (.cp 15), none⟩,
 ⟨some 16, .ext (.cp 13) 0, none⟩,
 ⟨some 17, .ext (.cp 13) 1, none⟩,
 ⟨some 5, .alloc 0 [.int .i64 0, .int .i64 0, .str [], .sl true 5 [], .sl true 1 []], none⟩,
 ⟨none, .store (some 5) (.cp 5) (.mv 16), none⟩,
 ⟨some 6, .mov (.cp 17), none⟩] [] [0, 3, 4, 5, 6]
noncomputable abbrev C160_8 : LCode := .region true 0 [
 ⟨some 18, .mov (.cp 0), none⟩,
 ⟨some 19, .nilc (.cp 18), none⟩,
 ⟨some 20, .faddr (.cp 19) 0, none⟩,
 ⟨some 21, .mov (.cp 6), none⟩,
 ⟨some 22, .bin .neq (.cp 21) (.c (.int .i64 0)), none⟩,
 ⟨some 23, .mov (.cp 22), none⟩,
 ⟨some 24, .faddr (.cp 3) 0, some (23, false)⟩,
 ⟨some 25, .load false none (.cp 24), some (23, false)⟩,
 ⟨some 26, .bin .eql (.cp 25) (.c (.int .i64 13)), some (23, false)⟩,
 ⟨some 27, .mov (.cp 26), some (23, false)⟩,
 ⟨some 28, .faddr (.cp 5) 3, some (27, true)⟩,
 ⟨some 29, .load false none (.cp 28), some (27, true)⟩,
 ⟨some 30, .len false (.cp 29), some (27, true)⟩,
 ⟨some 31, .faddr (.cp 3) 3, some (27, true)⟩,
 ⟨some 32, .load false none (.cp 31), some (27, true)⟩,
 ⟨some 33, .len false (.cp 32), some (27, true)⟩,
 ⟨some 34, .bin .neq (.cp 30) (.cp 33), some (27, true)⟩,
 ⟨some 35, .pick (.cp 27) (.cp 34) (.c (.bool false)), some (23, false)⟩,
 ⟨some 36, .pick (.cp 23) (.c (.bool true)) (.cp 35), none⟩,
 ⟨some 37, .call N_tcomp_cursor_fails [.cp 20, .cp 36, .c (.int .i64 8)], none⟩] [(11, 14)] [4, 5]
noncomputable abbrev C160_9 : LCode := .region false 0 [
 ⟨some 38, .load false (some 5) (.cp 5), none⟩,
 ⟨none, .store (some 5) (.cp 4) (.mv 38), none⟩] [] [4]
noncomputable abbrev C160_10 : LCode := .seq C160_9 .ret
noncomputable abbrev C160_11 : LCode := .seq C160_8 C160_10
noncomputable abbrev C160_12 : LCode := .seq C160_7 C160_11
noncomputable abbrev C160_13 : LCode := .seq C160_6 C160_12
noncomputable abbrev C160_14 : LCode := .seq C160_1 C160_13
noncomputable def L_tcomp_reader_normal : LF := { np := 2, res := [.cell 4 (some 5)], keepRes := false, body := C160_14 }
noncomputable abbrev C161_1 : LCode := .region false 0 [
 ⟨some 35, .mov (.cp 0), none⟩,
 ⟨some 36, .call N_tcomp_cursor_ok [.cp 35], none⟩,
 ⟨some 37, .un .not (.cp 36), none⟩,
 ⟨some 34, .mov (.cp 37), none⟩] [] [0, 1, 2, 34]
noncomputable abbrev C161_2 : LCode := .region false 0 [
 ⟨some 39, .mov (.cp 1), none⟩,
 ⟨some 40, .bin .eql (.cp 39) (.c (.int .i64 12)), none⟩,
 ⟨some 38, .mov (.cp 40), none⟩] [] [0, 1, 2, 38]
noncomputable abbrev C161_3 : LCode := .region false 0 [
 ⟨some 6, .mov (.c (.int .i64 0)), none⟩] [] [0, 2, 6]
noncomputable abbrev C161_4 : LCode := .region false 0 [
 ⟨some 42, .mov (.cp 0), none⟩,
 ⟨some 43, .mov (.cp 6), none⟩,
 ⟨some 44, .call N_tcomp_cursor_head [.cp 42, .cp 43], none⟩,
 ⟨some 41, .mov (.cp 44), none⟩,
 ⟨some 45, .ext (.cp 41) 0, none⟩,
 ⟨some 46, .ext (.cp 41) 1, none⟩,
 ⟨some 47, .ext (.cp 41) 2, none⟩,
 ⟨some 7, .mov (.cp 45), none⟩,
 ⟨some 8, .mov (.cp 46), none⟩,
 ⟨some 9, .mov (.cp 47), none⟩] [] [0, 2, 7, 8, 9]
noncomputable abbrev C161_5 : LCode := .region false 0 [
 ⟨some 48, .mov (.cp 9), none⟩,
 ⟨some 49, .un .not (.cp 48), none⟩] [] [0, 2, 7, 8, 49]
noncomputable abbrev C161_6 : LCode := .cond (.cp 49) .ret .skip
noncomputable abbrev C161_7 : LCode := .seq C161_5 C161_6
noncomputable abbrev C161_8 : LCode := .region false 0 [
 ⟨some 50, .mov (.cp 8), none⟩,
 ⟨some 6, .mov (.cp 50), none⟩] [] [0, 2, 6, 7]
noncomputable abbrev C161_9 : LCode := .region false 0 [
 ⟨some 51, .mov (.cp 0), none⟩,
 ⟨some 52, .mov (.cp 7), none⟩,
 ⟨some 53, .mov (.cp 2), none⟩,
 ⟨some 54, .bin .add (.cp 53) (.c (.int .i64 1)), none⟩,
 ⟨some 55, .call N_tcomp_cursor_skip [.cp 51, .cp 52, .cp 54, .c (.bool false)], none⟩] [] [0, 2, 6]
noncomputable abbrev C161_10 : LCode := .seq C161_8 C161_9
noncomputable abbrev C161_11 : LCode := .seq C161_7 C161_10
noncomputable abbrev C161_12 : LCode := .seq C161_4 C161_11
noncomputable def C161_13 : LCode := .block 4 C161_12
noncomputable abbrev C161_14 : LCode := .gc (.only [0, 2, 6] C161_13)
noncomputable abbrev C161_15 : LCode := .only [0, 2, 6] (.loop C161_14)
noncomputable abbrev C161_16 : LCode := .block 3 C161_15
noncomputable abbrev C161_17 : LCode := .seq C161_3 C161_16
noncomputable abbrev C161_18 : LCode := .region false 0 [
 ⟨some 57, .mov (.cp 1), none⟩,
 ⟨some 58, .bin .eql (.cp 57) (.c (.int .i64 11)), none⟩,
 ⟨some 56, .mov (.cp 58), none⟩] [] [0, 2, 56]
noncomputable abbrev C161_19 : LCode := .region false 0 [
 ⟨some 59, .mov (.cp 0), none⟩,
 ⟨some 60, .call N_tcomp_cursor_count [.cp 59], none⟩,
 ⟨some 10, .mov (.cp 60), none⟩] [] [0, 2, 10]
noncomputable abbrev C161_20 : LCode := .region false 0 [
 ⟨some 61, .mov (.cp 10), none⟩,
 ⟨some 62, .bin .eql (.cp 61) (.c (.int .u64 0)), none⟩] [] [0, 2, 10, 62]
noncomputable abbrev C161_21 : LCode := .cond (.cp 62) .ret .skip
noncomputable abbrev C161_22 : LCode := .seq C161_20 C161_21
noncomputable abbrev C161_23 : LCode := .region false 0 [
 ⟨some 63, .mov (.cp 0), none⟩,
 ⟨some 64, .call N_tcomp_cursor_byte [.cp 63], none⟩,
 ⟨some 11, .mov (.cp 64), none⟩] [] [0, 2, 10, 11]
noncomputable abbrev C161_24 : LCode := .region false 0 [
 ⟨some 65, .mov (.cp 0), none⟩,
 ⟨some 66, .mov (.cp 11), none⟩,
 ⟨some 67, .bin .shr (.cp 66) (.c (.int .u64 4)), none⟩,
 ⟨some 68, .call N_tcomp_cursor_element [.cp 65, .cp 67], none⟩,
 ⟨some 12, .mov (.cp 68), none⟩] [] [0, 2, 10, 11, 12]
noncomputable abbrev C161_25 : LCode := .region false 0 [
 ⟨some 69, .mov (.cp 0), none⟩,
 ⟨some 70, .mov (.cp 11), none⟩,
 ⟨some 71, .bin .and (.cp 70) (.c (.int .i64 15)), none⟩,
 ⟨some 72, .call N_tcomp_cursor_element [.cp 69, .cp 71], none⟩,
 ⟨some 13, .mov (.cp 72), none⟩] [] [0, 2, 10, 12, 13]
noncomputable abbrev C161_26 : LCode := .region false 0 [
 ⟨some 73, .mov (.cp 10), none⟩,
 ⟨some 74, .bin .gtr (.cp 73) (.c (.int .u64 0)), none⟩,
 ⟨some 75, .mov (.cp 74), none⟩,
 ⟨some 76, .mov (.cp 0), some (75, true)⟩,
 ⟨some 77, .call N_tcomp_cursor_ok [.cp 76], some (75, true)⟩,
 ⟨some 78, .pick (.cp 75) (.cp 77) (.c (.bool false)), none⟩] [] [0, 2, 10, 12, 13, 78]
noncomputable abbrev C161_27 : LCode := .cond (.cp 78) .skip (.exit 5)
noncomputable abbrev C161_28 : LCode := .seq C161_26 C161_27
noncomputable abbrev C161_29 : LCode := .region false 0 [
 ⟨some 81, .mov (.cp 0), none⟩,
 ⟨some 82, .mov (.cp 12), none⟩,
 ⟨some 83, .mov (.cp 2), none⟩,
 ⟨some 84, .bin .add (.cp 83) (.c (.int .i64 1)), none⟩,
 ⟨some 85, .call N_tcomp_cursor_skip [.cp 81, .cp 82, .cp 84, .c (.bool true)], none⟩] [] [0, 2, 10, 12, 13]
noncomputable abbrev C161_30 : LCode := .region false 0 [
 ⟨some 86, .mov (.cp 0), none⟩,
 ⟨some 87, .mov (.cp 13), none⟩,
 ⟨some 88, .mov (.cp 2), none⟩,
 ⟨some 89, .bin .add (.cp 88) (.c (.int .i64 1)), none⟩,
 ⟨some 90, .call N_tcomp_cursor_skip [.cp 86, .cp 87, .cp 89, .c (.bool true)], none⟩] [] [0, 2, 10, 12, 13]
noncomputable abbrev C161_31 : LCode := .seq C161_29 C161_30
noncomputable abbrev C161_32 : LCode := .block 6 C161_31
noncomputable abbrev C161_33 : LCode := .region false 0 [
 ⟨some 79, .mov (.cp 10), none⟩,
 ⟨some 80, .bin .sub (.cp 79) (.c (.int .u64 1)), none⟩,
 ⟨some 10, .mov (.cp 80), none⟩] [] [0, 2, 10, 12, 13]
noncomputable abbrev C161_34 : LCode := .seq C161_32 C161_33
noncomputable def C161_35 : LCode := .seq C161_28 C161_34
noncomputable abbrev C161_36 : LCode := .gc (.only [0, 2, 10, 12, 13] C161_35)
noncomputable abbrev C161_37 : LCode := .only [0, 2, 10, 12, 13] (.loop C161_36)
noncomputable abbrev C161_38 : LCode := .block 5 C161_37
noncomputable abbrev C161_39 : LCode := .seq C161_25 C161_38
noncomputable abbrev C161_40 : LCode := .seq C161_24 C161_39
noncomputable abbrev C161_41 : LCode := .seq C161_23 C161_40
noncomputable abbrev C161_42 : LCode := .seq C161_22 C161_41
noncomputable abbrev C161_43 : LCode := .seq C161_19 C161_42
noncomputable abbrev C161_44 : LCode := .region false 0 [
 ⟨some 17, .mov (.cp 0), none⟩,
 ⟨some 18, .call N_tcomp_cursor_list [.cp 17], none⟩,
 ⟨some 16, .mov (.cp 18), none⟩,
 ⟨some 19, .ext (.cp 16) 0, none⟩,
 ⟨some 20, .ext (.cp 16) 1, none⟩,
 ⟨some 14, .mov (.cp 19), none⟩,
 ⟨some 15, .mov (.cp 20), none⟩] [] [0, 2, 14, 15]
noncomputable abbrev C161_45 : LCode := .region false 0 [
 ⟨some 21, .mov (.cp 15), none⟩,
 ⟨some 22, .bin .gtr (.cp 21) (.c (.int .u64 0)), none⟩,
 ⟨some 23, .mov (.cp 22), none⟩,
 ⟨some 24, .mov (.cp 0), some (23, true)⟩,
 ⟨some 25, .call N_tcomp_cursor_ok [.cp 24], some (23, true)⟩,
 ⟨some 26, .pick (.cp 23) (.cp 25) (.c (.bool false)), none⟩] [] [0, 2, 14, 15, 26]
noncomputable abbrev C161_46 : LCode := .cond (.cp 26) .skip (.exit 1)
noncomputable abbrev C161_47 : LCode := .seq C161_45 C161_46
noncomputable abbrev C161_48 : LCode := .region false 0 [
 ⟨some 29, .mov (.cp 0), none⟩,
 ⟨some 30, .mov (.cp 14), none⟩,
 ⟨some 31, .mov (.cp 2), none⟩,
 ⟨some 32, .bin .add (.cp 31) (.c (.int .i64 1)), none⟩,
 ⟨some 33, .call N_tcomp_cursor_skip [.cp 29, .cp 30, .cp 32, .c (.bool true)], none⟩] [] [0, 2, 14, 15]
noncomputable abbrev C161_49 : LCode := .block 2 C161_48
noncomputable abbrev C161_50 : LCode := .region false 0 [
 ⟨some 27, .mov (.cp 15), none⟩,
 ⟨some 28, .bin .sub (.cp 27) (.c (.int .u64 1)), none⟩,
 ⟨some 15, .mov (.cp 28), none⟩] [] [0, 2, 14, 15]
noncomputable abbrev C161_51 : LCode := .seq C161_49 C161_50
noncomputable def C161_52 : LCode := .seq C161_47 C161_51
noncomputable abbrev C161_53 : LCode := .gc (.only [0, 2, 14, 15] C161_52)
noncomputable abbrev C161_54 : LCode := .only [0, 2, 14, 15] (.loop C161_53)
noncomputable abbrev C161_55 : LCode := .block 1 C161_54
noncomputable abbrev C161_56 : LCode := .seq C161_44 C161_55
noncomputable abbrev C161_57 : LCode := .cond (.cp 56) C161_43 C161_56
noncomputable abbrev C161_58 : LCode := .seq C161_18 C161_57
noncomputable abbrev C161_59 : LCode := .cond (.cp 38) C161_17 C161_58
noncomputable abbrev C161_60 : LCode := .seq C161_2 C161_59
noncomputable abbrev C161_61 : LCode := .cond (.cp 34) .skip C161_60
noncomputable abbrev C161_62 : LCode := .seq C161_1 C161_61
noncomputable abbrev C161_63 : LCode := .block 0 C161_62
noncomputable def L_tcomp_cursor_skips : LF := { np := 3, res := [], keepRes := false, body := C161_63 }
noncomputable abbrev C191_1 : LCode := .region false 0 [
 ⟨some 4, .mov (.c (.int .u64 0)), none⟩,
 ⟨some 5, .mov (.c (.int .i64 0)), none⟩,
 ⟨some 6, .mov (.c (.int .i64 0)), none⟩] [] [0, 1, 4, 5]
noncomputable abbrev C191_2 : LCode := .region false 0 [
 ⟨some 10, .mov (.cp 1), none⟩,
 ⟨some 11, .bin .lss (.cp 10) (.c (.int .i64 1)), none⟩,
 ⟨some 12, .mov (.cp 11), none⟩,
 ⟨some 13, .mov (.cp 1), some (12, false)⟩,
 ⟨some 14, .bin .gtr (.cp 13) (.c (.int .i64 64)), some (12, false)⟩,
 ⟨some 15, .pick (.cp 12) (.c (.bool true)) (.cp 14), none⟩] [] [0, 1, 4, 5, 15]
noncomputable abbrev C191_3 : LCode := .region false 0 [
 ⟨some 4, .mov (.c (.int .u64 0)), none⟩,
 ⟨some 5, .mov (.c (.int .i64 0)), none⟩,
 ⟨some 6, .mov (.c (.int .i64 1)), none⟩] [] [4, 5, 6]
noncomputable abbrev C191_4 : LCode := .seq C191_3 .ret
noncomputable abbrev C191_5 : LCode := .cond (.cp 15) C191_4 .skip
noncomputable abbrev C191_6 : LCode := .seq C191_2 C191_5
noncomputable abbrev C191_7 : LCode := .region false 0 [
 ⟨some 7, .mov (.c (.int .i64 0)), none⟩] [] [0, 1, 4, 5, 7]
noncomputable abbrev C191_8 : LCode := .region false 0 [
 ⟨some 18, .mov (.cp 5), none⟩,
 ⟨some 19, .mov (.cp 0), none⟩,
 ⟨some 20, .len false (.cp 19), none⟩,
 ⟨some 21, .bin .eql (.cp 18) (.cp 20), none⟩] [] [0, 1, 4, 5, 7, 21]
noncomputable abbrev C191_9 : LCode := .region false 0 [
 ⟨some 4, .mov (.c (.int .u64 0)), none⟩,
 ⟨some 5, .mov (.c (.int .i64 0)), none⟩,
 ⟨some 6, .mov (.c (.int .i64 3)), none⟩] [] [4, 5, 6]
noncomputable abbrev C191_10 : LCode := .seq C191_9 .ret
noncomputable abbrev C191_11 : LCode := .cond (.cp 21) C191_10 .skip
noncomputable abbrev C191_12 : LCode := .seq C191_8 C191_11
noncomputable abbrev C191_13 : LCode := .region false 0 [
 ⟨some 22, .mov (.cp 0), none⟩,
 ⟨some 23, .mov (.cp 5), none⟩,
 ⟨some 24, .iaddr 1 none (.cp 22) (.cp 23), none⟩,
 ⟨some 25, .load false none (.cp 24), none⟩,
 ⟨some 8, .mov (.cp 25), none⟩] [] [0, 1, 4, 5, 7, 8]
noncomputable abbrev C191_14 : LCode := .region false 0 [
 ⟨some 26, .mov (.cp 5), none⟩,
 ⟨some 27, .bin .add (.cp 26) (.c (.int .i64 1)), none⟩,
 ⟨some 5, .mov (.cp 27), none⟩] [] [0, 1, 4, 5, 7, 8]
noncomputable abbrev C191_15 : LCode := .region false 0 [
 ⟨some 28, .mov (.cp 1), none⟩,
 ⟨some 29, .mov (.cp 7), none⟩,
 ⟨some 30, .bin .sub (.cp 28) (.cp 29), none⟩,
 ⟨some 9, .mov (.cp 30), none⟩] [] [0, 1, 4, 5, 7, 8, 9]
noncomputable abbrev C191_16 : LCode := .region false 0 [
 ⟨some 31, .mov (.cp 9), none⟩,
 ⟨some 32, .bin .leq (.cp 31) (.c (.int .i64 7)), none⟩,
 ⟨some 33, .mov (.cp 32), none⟩,
 ⟨some 34, .mov (.cp 8), some (33, true)⟩,
 ⟨some 35, .bin .and (.cp 34) (.c (.int .u8 128)), some (33, true)⟩,
 ⟨some 36, .bin .neq (.cp 35) (.c (.int .u8 0)), some (33, true)⟩,
 ⟨some 37, .mov (.cp 36), some (33, true)⟩,
 ⟨some 38, .mov (.cp 8), some (37, false)⟩,
 ⟨some 39, .bin .and (.cp 38) (.c (.int .u8 127)), some (37, false)⟩,
 ⟨some 40, .conv .u64 (.cp 39), some (37, false)⟩,
 ⟨some 41, .mov (.cp 9), some (37, false)⟩,
 ⟨some 42, .bin .shr (.cp 40) (.cp 41), some (37, false)⟩,
 ⟨some 43, .bin .neq (.cp 42) (.c (.int .u64 0)), some (37, false)⟩,
 ⟨some 44, .pick (.cp 37) (.c (.bool true)) (.cp 43), some (33, true)⟩,
 ⟨some 45, .pick (.cp 33) (.cp 44) (.c (.bool false)), none⟩] [] [0, 1, 4, 5, 7, 8, 45]
noncomputable abbrev C191_17 : LCode := .region false 0 [
 ⟨some 4, .mov (.c (.int .u64 0)), none⟩,
 ⟨some 5, .mov (.c (.int .i64 0)), none⟩,
 ⟨some 6, .mov (.c (.int .i64 4)), none⟩] [] [4, 5, 6]
noncomputable abbrev C191_18 : LCode := .seq C191_17 .ret
noncomputable abbrev C191_19 : LCode := .cond (.cp 45) C191_18 .skip
noncomputable abbrev C191_20 : LCode := .seq C191_16 C191_19
noncomputable abbrev C191_21 : LCode := .seq C191_15 C191_20
noncomputable abbrev C191_22 : LCode := .region false 0 [
 ⟨some 46, .mov (.cp 4), none⟩,
 ⟨some 47, .mov (.cp 8), none⟩,
 ⟨some 48, .bin .and (.cp 47) (.c (.int .u8 127)), none⟩,
 ⟨some 49, .conv .u64 (.cp 48), none⟩,
 ⟨some 50, .mov (.cp 7), none⟩,
 ⟨some 51, .bin .shl (.cp 49) (.cp 50), none⟩,
 ⟨some 52, .bin .or (.cp 46) (.cp 51), none⟩,
 ⟨some 4, .mov (.cp 52), none⟩] [] [0, 1, 4, 5, 7, 8]
noncomputable abbrev C191_23 : LCode := .region false 0 [
 ⟨some 53, .mov (.cp 8), none⟩,
 ⟨some 54, .bin .and (.cp 53) (.c (.int .u8 128)), none⟩,
 ⟨some 55, .bin .eql (.cp 54) (.c (.int .u8 0)), none⟩] [] [0, 1, 4, 5, 7, 55]
noncomputable abbrev C191_24 : LCode := .region false 0 [
 ⟨some 56, .mov (.cp 4), none⟩,
 ⟨some 57, .mov (.cp 5), none⟩,
 ⟨some 4, .mov (.cp 56), none⟩,
 ⟨some 5, .mov (.cp 57), none⟩,
 ⟨some 6, .mov (.c (.int .i64 0)), none⟩] [] [4, 5, 6]
noncomputable abbrev C191_25 : LCode := .seq C191_24 .ret
noncomputable abbrev C191_26 : LCode := .cond (.cp 55) C191_25 .skip
noncomputable abbrev C191_27 : LCode := .seq C191_23 C191_26
noncomputable abbrev C191_28 : LCode := .seq C191_22 C191_27
noncomputable abbrev C191_29 : LCode := .seq C191_21 C191_28
noncomputable abbrev C191_30 : LCode := .seq C191_14 C191_29
noncomputable abbrev C191_31 : LCode := .seq C191_13 C191_30
noncomputable abbrev C191_32 : LCode := .seq C191_12 C191_31
noncomputable abbrev C191_33 : LCode := .block 1 C191_32
noncomputable abbrev C191_34 : LCode := .region false 0 [
 ⟨some 16, .mov (.cp 7), none⟩,
 ⟨some 17, .bin .add (.cp 16) (.c (.int .i64 7)), none⟩,
 ⟨some 7, .mov (.cp 17), none⟩] [] [0, 1, 4, 5, 7]
noncomputable def C191_35 : LCode := .seq C191_33 C191_34
noncomputable abbrev C191_36 : LCode := .gc (.only [0, 1, 4, 5, 7] C191_35)
noncomputable abbrev C191_37 : LCode := .only [0, 1, 4, 5, 7] (.loop C191_36)
noncomputable abbrev C191_38 : LCode := .block 0 C191_37
noncomputable def C191_39 : LCode := .seq C191_7 C191_38
noncomputable abbrev C191_40 : LCode := .only [0, 1, 4, 5] C191_39
noncomputable abbrev C191_41 : LCode := .seq C191_6 C191_40
noncomputable abbrev C191_42 : LCode := .seq C191_1 C191_41
noncomputable def L_zig_Take : LF := { np := 2, res := [.tmp 4, .tmp 5, .tmp 6], keepRes := false, body := C191_42 }
end Go.Proofs.YtfihinodhhhllaaGreat

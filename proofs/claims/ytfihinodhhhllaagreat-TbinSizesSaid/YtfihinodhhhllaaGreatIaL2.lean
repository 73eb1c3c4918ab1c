/- The small code of the functions; printed by lift.py. -/
import Derived.Test.YtfihinodhhhllaaGreatIaL0
set_option linter.unusedVariables false
set_option linter.unusedSimpArgs false
namespace Go.Proofs.YtfihinodhhhllaaGreat
open Go
noncomputable abbrev C220_1 : LCode := .region false 0 [
 ⟨some 4, .mov (.cp 0), none⟩,
 ⟨some 5, .mov (.cp 0), none⟩,
 ⟨some 6, .len false (.cp 5), none⟩,
 ⟨some 7, .mov (.cp 1), none⟩,
 ⟨some 8, .call N_slices_stableCmpFunc_int [.cp 4, .cp 6, .cp 7], none⟩] [] []
noncomputable def L_slices_SortStableFunc_int_int : LF := { np := 2, res := [], keepRes := false, body := C220_1 }
noncomputable abbrev C225_1 : LCode := .region false 0 [
 ⟨some 6, .mov (.c (.int .i64 20)), none⟩] [] [0, 1, 2, 6]
noncomputable abbrev C225_2 : LCode := .region false 0 [
 ⟨some 10, .mov (.cp 6), none⟩,
 ⟨some 7, .mov (.c (.int .i64 0)), none⟩,
 ⟨some 8, .mov (.cp 10), none⟩] [] [0, 1, 2, 6, 7, 8]
noncomputable abbrev C225_3 : LCode := .region false 0 [
 ⟨some 11, .mov (.cp 8), none⟩,
 ⟨some 12, .mov (.cp 1), none⟩,
 ⟨some 13, .bin .leq (.cp 11) (.cp 12), none⟩] [] [0, 1, 2, 6, 7, 8, 13]
noncomputable abbrev C225_4 : LCode := .cond (.cp 13) .skip (.exit 0)
noncomputable abbrev C225_5 : LCode := .seq C225_3 C225_4
noncomputable abbrev C225_6 : LCode := .region false 0 [
 ⟨some 14, .mov (.cp 0), none⟩,
 ⟨some 15, .mov (.cp 7), none⟩,
 ⟨some 16, .mov (.cp 8), none⟩,
 ⟨some 17, .mov (.cp 2), none⟩,
 ⟨some 18, .call N_slices_insertionSortCmpFunc_int [.cp 14, .cp 15, .cp 16, .cp 17], none⟩] [] [0, 1, 2, 6, 8]
noncomputable abbrev C225_7 : LCode := .region false 0 [
 ⟨some 19, .mov (.cp 8), none⟩,
 ⟨some 7, .mov (.cp 19), none⟩] [] [0, 1, 2, 6, 7, 8]
noncomputable abbrev C225_8 : LCode := .region false 0 [
 ⟨some 20, .mov (.cp 8), none⟩,
 ⟨some 21, .mov (.cp 6), none⟩,
 ⟨some 22, .bin .add (.cp 20) (.cp 21), none⟩,
 ⟨some 8, .mov (.cp 22), none⟩] [] [0, 1, 2, 6, 7, 8]
noncomputable abbrev C225_9 : LCode := .seq C225_7 C225_8
noncomputable abbrev C225_10 : LCode := .seq C225_6 C225_9
noncomputable abbrev C225_11 : LCode := .block 1 C225_10
noncomputable def C225_12 : LCode := .seq C225_5 C225_11
noncomputable abbrev C225_13 : LCode := .gc (.only [0, 1, 2, 6, 7, 8] C225_12)
noncomputable abbrev C225_14 : LCode := .only [0, 1, 2, 6, 7, 8] (.loop C225_13)
noncomputable abbrev C225_15 : LCode := .block 0 C225_14
noncomputable abbrev C225_16 : LCode := .region false 0 [
 ⟨some 23, .mov (.cp 0), none⟩,
 ⟨some 24, .mov (.cp 7), none⟩,
 ⟨some 25, .mov (.cp 1), none⟩,
 ⟨some 26, .mov (.cp 2), none⟩,
 ⟨some 27, .call N_slices_insertionSortCmpFunc_int [.cp 23, .cp 24, .cp 25, .cp 26], none⟩] [] [0, 1, 2, 6]
noncomputable abbrev C225_17 : LCode := .region false 0 [
 ⟨some 28, .mov (.cp 6), none⟩,
 ⟨some 29, .mov (.cp 1), none⟩,
 ⟨some 30, .bin .lss (.cp 28) (.cp 29), none⟩] [] [0, 1, 2, 6, 30]
noncomputable abbrev C225_18 : LCode := .cond (.cp 30) .skip (.exit 2)
noncomputable abbrev C225_19 : LCode := .seq C225_17 C225_18
noncomputable abbrev C225_20 : LCode := .region false 0 [
 ⟨some 31, .mov (.cp 6), none⟩,
 ⟨some 32, .bin .mul (.c (.int .i64 2)) (.cp 31), none⟩,
 ⟨some 7, .mov (.c (.int .i64 0)), none⟩,
 ⟨some 8, .mov (.cp 32), none⟩] [] [0, 1, 2, 6, 7, 8]
noncomputable abbrev C225_21 : LCode := .region false 0 [
 ⟨some 33, .mov (.cp 8), none⟩,
 ⟨some 34, .mov (.cp 1), none⟩,
 ⟨some 35, .bin .leq (.cp 33) (.cp 34), none⟩] [] [0, 1, 2, 6, 7, 8, 35]
noncomputable abbrev C225_22 : LCode := .cond (.cp 35) .skip (.exit 4)
noncomputable abbrev C225_23 : LCode := .seq C225_21 C225_22
noncomputable abbrev C225_24 : LCode := .region false 0 [
 ⟨some 36, .mov (.cp 0), none⟩,
 ⟨some 37, .mov (.cp 7), none⟩,
 ⟨some 38, .mov (.cp 7), none⟩,
 ⟨some 39, .mov (.cp 6), none⟩,
 ⟨some 40, .bin .add (.cp 38) (.cp 39), none⟩,
 ⟨some 41, .mov (.cp 8), none⟩,
 ⟨some 42, .mov (.cp 2), none⟩,
 ⟨some 43, .call N_slices_symMergeCmpFunc_int [.cp 36, .cp 37, .cp 40, .cp 41, .cp 42], none⟩] [] [0, 1, 2, 6, 8]
noncomputable abbrev C225_25 : LCode := .region false 0 [
 ⟨some 44, .mov (.cp 8), none⟩,
 ⟨some 7, .mov (.cp 44), none⟩] [] [0, 1, 2, 6, 7, 8]
noncomputable abbrev C225_26 : LCode := .region false 0 [
 ⟨some 45, .mov (.cp 8), none⟩,
 ⟨some 46, .mov (.cp 6), none⟩,
 ⟨some 47, .bin .mul (.c (.int .i64 2)) (.cp 46), none⟩,
 ⟨some 48, .bin .add (.cp 45) (.cp 47), none⟩,
 ⟨some 8, .mov (.cp 48), none⟩] [] [0, 1, 2, 6, 7, 8]
noncomputable abbrev C225_27 : LCode := .seq C225_25 C225_26
noncomputable abbrev C225_28 : LCode := .seq C225_24 C225_27
noncomputable abbrev C225_29 : LCode := .block 5 C225_28
noncomputable def C225_30 : LCode := .seq C225_23 C225_29
noncomputable abbrev C225_31 : LCode := .gc (.only [0, 1, 2, 6, 7, 8] C225_30)
noncomputable abbrev C225_32 : LCode := .only [0, 1, 2, 6, 7, 8] (.loop C225_31)
noncomputable abbrev C225_33 : LCode := .block 4 C225_32
noncomputable abbrev C225_34 : LCode := .region false 0 [
 ⟨some 49, .mov (.cp 7), none⟩,
 ⟨some 50, .mov (.cp 6), none⟩,
 ⟨some 51, .bin .add (.cp 49) (.cp 50), none⟩,
 ⟨some 9, .mov (.cp 51), none⟩] [] [0, 1, 2, 6, 7, 9]
noncomputable abbrev C225_35 : LCode := .region false 0 [
 ⟨some 52, .mov (.cp 9), none⟩,
 ⟨some 53, .mov (.cp 1), none⟩,
 ⟨some 54, .bin .lss (.cp 52) (.cp 53), none⟩] [] [0, 1, 2, 6, 7, 9, 54]
noncomputable abbrev C225_36 : LCode := .region false 0 [
 ⟨some 55, .mov (.cp 0), none⟩,
 ⟨some 56, .mov (.cp 7), none⟩,
 ⟨some 57, .mov (.cp 9), none⟩,
 ⟨some 58, .mov (.cp 1), none⟩,
 ⟨some 59, .mov (.cp 2), none⟩,
 ⟨some 60, .call N_slices_symMergeCmpFunc_int [.cp 55, .cp 56, .cp 57, .cp 58, .cp 59], none⟩] [] [0, 1, 2, 6]
noncomputable abbrev C225_37 : LCode := .cond (.cp 54) C225_36 .skip
noncomputable abbrev C225_38 : LCode := .seq C225_35 C225_37
noncomputable abbrev C225_39 : LCode := .seq C225_34 C225_38
noncomputable abbrev C225_40 : LCode := .region false 0 [
 ⟨some 61, .mov (.cp 6), none⟩,
 ⟨some 62, .bin .mul (.cp 61) (.c (.int .i64 2)), none⟩,
 ⟨some 6, .mov (.cp 62), none⟩] [] [0, 1, 2, 6]
noncomputable abbrev C225_41 : LCode := .seq C225_39 C225_40
noncomputable abbrev C225_42 : LCode := .seq C225_33 C225_41
noncomputable abbrev C225_43 : LCode := .seq C225_20 C225_42
noncomputable abbrev C225_44 : LCode := .block 3 C225_43
noncomputable def C225_45 : LCode := .seq C225_19 C225_44
noncomputable abbrev C225_46 : LCode := .gc (.only [0, 1, 2, 6] C225_45)
noncomputable abbrev C225_47 : LCode := .only [0, 1, 2, 6] (.loop C225_46)
noncomputable abbrev C225_48 : LCode := .block 2 C225_47
noncomputable abbrev C225_49 : LCode := .seq C225_16 C225_48
noncomputable abbrev C225_50 : LCode := .seq C225_15 C225_49
noncomputable abbrev C225_51 : LCode := .seq C225_2 C225_50
noncomputable abbrev C225_52 : LCode := .seq C225_1 C225_51
noncomputable def L_slices_stableCmpFunc_int : LF := { np := 3, res := [], keepRes := false, body := C225_52 }
noncomputable abbrev C229_1 : LCode := .region false 0 [
 ⟨some 10, .mov (.cp 1), none⟩,
 ⟨some 11, .bin .add (.cp 10) (.c (.int .i64 1)), none⟩,
 ⟨some 8, .mov (.cp 11), none⟩] [] [0, 1, 2, 3, 8]
noncomputable abbrev C229_2 : LCode := .region false 0 [
 ⟨some 12, .mov (.cp 8), none⟩,
 ⟨some 13, .mov (.cp 2), none⟩,
 ⟨some 14, .bin .lss (.cp 12) (.cp 13), none⟩] [] [0, 1, 2, 3, 8, 14]
noncomputable abbrev C229_3 : LCode := .cond (.cp 14) .skip (.exit 0)
noncomputable abbrev C229_4 : LCode := .seq C229_2 C229_3
noncomputable abbrev C229_5 : LCode := .region false 0 [
 ⟨some 17, .mov (.cp 8), none⟩,
 ⟨some 9, .mov (.cp 17), none⟩] [] [0, 1, 2, 3, 8, 9]
noncomputable abbrev C229_6 : LCode := .region true 0 [
 ⟨some 18, .mov (.cp 9), none⟩,
 ⟨some 19, .mov (.cp 1), none⟩,
 ⟨some 20, .bin .gtr (.cp 18) (.cp 19), none⟩,
 ⟨some 21, .mov (.cp 20), none⟩,
 ⟨some 22, .mov (.cp 3), some (21, true)⟩,
 ⟨some 23, .mov (.cp 0), some (21, true)⟩,
 ⟨some 24, .mov (.cp 9), some (21, true)⟩,
 ⟨some 25, .iaddr 1 none (.cp 23) (.cp 24), some (21, true)⟩,
 ⟨some 26, .load false none (.cp 25), some (21, true)⟩,
 ⟨some 27, .mov (.cp 0), some (21, true)⟩,
 ⟨some 28, .mov (.cp 9), some (21, true)⟩,
 ⟨some 29, .bin .sub (.cp 28) (.c (.int .i64 1)), some (21, true)⟩,
 ⟨some 30, .iaddr 1 none (.cp 27) (.cp 29), some (21, true)⟩,
 ⟨some 31, .load false none (.cp 30), some (21, true)⟩,
 ⟨some 32, .callv (.cp 22) [.cp 26, .cp 31], some (21, true)⟩,
 ⟨some 33, .bin .lss (.cp 32) (.c (.int .i64 0)), some (21, true)⟩,
 ⟨some 34, .pick (.cp 21) (.cp 33) (.c (.bool false)), none⟩] [(8, 13)] [0, 1, 2, 3, 8, 9, 34]
noncomputable abbrev C229_7 : LCode := .cond (.cp 34) .skip (.exit 2)
noncomputable abbrev C229_8 : LCode := .seq C229_6 C229_7
noncomputable abbrev C229_9 : LCode := .region true 0 [
 ⟨some 37, .mov (.cp 0), none⟩,
 ⟨some 38, .mov (.cp 9), none⟩,
 ⟨some 39, .mov (.cp 0), none⟩,
 ⟨some 40, .mov (.cp 9), none⟩,
 ⟨some 41, .bin .sub (.cp 40) (.c (.int .i64 1)), none⟩,
 ⟨some 42, .mov (.cp 0), none⟩,
 ⟨some 43, .mov (.cp 9), none⟩,
 ⟨some 44, .bin .sub (.cp 43) (.c (.int .i64 1)), none⟩,
 ⟨some 45, .iaddr 1 none (.cp 42) (.cp 44), none⟩,
 ⟨some 46, .load false none (.cp 45), none⟩,
 ⟨some 47, .mov (.cp 0), none⟩,
 ⟨some 48, .mov (.cp 9), none⟩,
 ⟨some 49, .iaddr 1 none (.cp 47) (.cp 48), none⟩,
 ⟨some 50, .load false none (.cp 49), none⟩,
 ⟨some 51, .iaddr 1 none (.cp 37) (.cp 38), none⟩,
 ⟨none, .store none (.cp 51) (.cp 46), none⟩,
 ⟨some 52, .iaddr 1 none (.cp 39) (.cp 41), none⟩,
 ⟨none, .store none (.cp 52) (.cp 50), none⟩] [(9, 13)] [0, 1, 2, 3, 8, 9]
noncomputable abbrev C229_10 : LCode := .block 3 C229_9
noncomputable abbrev C229_11 : LCode := .region false 0 [
 ⟨some 35, .mov (.cp 9), none⟩,
 ⟨some 36, .bin .sub (.cp 35) (.c (.int .i64 1)), none⟩,
 ⟨some 9, .mov (.cp 36), none⟩] [] [0, 1, 2, 3, 8, 9]
noncomputable def C229_12 : LCode := .seq C229_10 C229_11
noncomputable abbrev C229_13 : LCode := .only [0, 1, 2, 3, 8, 9] C229_12
noncomputable def C229_14 : LCode := .seq C229_8 C229_13
noncomputable abbrev C229_15 : LCode := .gc (.only [0, 1, 2, 3, 8, 9] C229_14)
noncomputable abbrev C229_16 : LCode := .only [0, 1, 2, 3, 8, 9] (.loop C229_15)
noncomputable abbrev C229_17 : LCode := .block 2 C229_16
noncomputable abbrev C229_18 : LCode := .seq C229_5 C229_17
noncomputable abbrev C229_19 : LCode := .block 1 C229_18
noncomputable abbrev C229_20 : LCode := .region false 0 [
 ⟨some 15, .mov (.cp 8), none⟩,
 ⟨some 16, .bin .add (.cp 15) (.c (.int .i64 1)), none⟩,
 ⟨some 8, .mov (.cp 16), none⟩] [] [0, 1, 2, 3, 8]
noncomputable abbrev C229_21 : LCode := .seq C229_19 C229_20
noncomputable def C229_22 : LCode := .seq C229_4 C229_21
noncomputable abbrev C229_23 : LCode := .gc (.only [0, 1, 2, 3, 8] C229_22)
noncomputable abbrev C229_24 : LCode := .only [0, 1, 2, 3, 8] (.loop C229_23)
noncomputable abbrev C229_25 : LCode := .block 0 C229_24
noncomputable abbrev C229_26 : LCode := .seq C229_1 C229_25
noncomputable def L_slices_insertionSortCmpFunc_int : LF := { np := 4, res := [], keepRes := false, body := C229_26 }
end Go.Proofs.YtfihinodhhhllaaGreat

/- Printed: functions of the given program as functions over plain data, and that the machine does what they say; no claim of its own; no condition. -/
import Derived.Test.YtlkddekecegfdaaGreatProg
import Derived.Test.YtlkddekecegfdaaGreatGtDefs
import Derived.KernelRfl
set_option maxRecDepth 100000
set_option maxHeartbeats 4000000
set_option linter.unusedVariables false
set_option linter.unusedSimpArgs false
namespace Go.AM
open Go Go.Proofs

def memN : List Nat → Nat → Bool
  | [], _ => false
  | x :: l, n => match Nat.beq x n with | true => true | false => memN l n
def cutF (f : FuncId) : Cut := match memN [52] f with | true => .sort | false => match memN [5, 6, 7, 10, 11, 12, 14, 15, 17, 19, 22, 26, 32, 37, 38, 39, 40, 41, 42, 49, 50, 54, 56, 57, 63, 64, 66, 67, 68, 69, 70, 78, 79, 80, 83, 85, 92, 93, 94] f with | true => .yes | false => match memN [53] f with | true => .compact | false => .no
theorem tz_25 : tzero Tryz.prog 25 = .ok (.agg #[.int .i64 0, .slice none 0 0, .slice none 0 0]) := by kernel_rfl
theorem un_22 : under Tryz.prog 22 = .ok (.slice 4) := by kernel_rfl
theorem ts_4 : tsize Tryz.prog 4 = .ok 1 := by kernel_rfl
theorem tz_4 : tzero Tryz.prog 4 = .ok (.bool false) := by kernel_rfl
theorem tz_65 : tzero Tryz.prog 65 = .ok (.agg #[.int .i64 0, .int .i64 0, .int .i64 0, .int .i64 0]) := by kernel_rfl
theorem pl_65 : placesOf Tryz.prog 65 = .ok [(0, 1), (1, 1), (2, 1), (3, 1)] := by kernel_rfl
theorem un_23 : under Tryz.prog 23 = .ok (.slice 65) := by kernel_rfl
theorem ts_65 : tsize Tryz.prog 65 = .ok 4 := by kernel_rfl
theorem pl_25 : placesOf Tryz.prog 25 = .ok [(0, 1), (1, 1), (2, 1)] := by kernel_rfl
theorem ts_25 : tsize Tryz.prog 25 = .ok 3 := by kernel_rfl
theorem wd_25 : wide Tryz.prog 25 = .ok (some 3) := by kernel_rfl
theorem ca_27 : callable Tryz.prog 27 = .ok () := by kernel_rfl
theorem un_27 : under Tryz.prog 27 = .ok (.slice 3) := by kernel_rfl
theorem ts_3 : tsize Tryz.prog 3 = .ok 1 := by kernel_rfl
theorem tz_3 : tzero Tryz.prog 3 = .ok (.int .i64 0) := by kernel_rfl
theorem wd_27 : wide Tryz.prog 27 = .ok none := by kernel_rfl
theorem fo_25_0 : fieldOff Tryz.prog 25 0 = .ok 0 := by kernel_rfl
theorem wd_3 : wide Tryz.prog 3 = .ok none := by kernel_rfl
theorem fo_25_1 : fieldOff Tryz.prog 25 1 = .ok 1 := by kernel_rfl
theorem wd_22 : wide Tryz.prog 22 = .ok none := by kernel_rfl
theorem fo_25_2 : fieldOff Tryz.prog 25 2 = .ok 2 := by kernel_rfl
theorem wd_23 : wide Tryz.prog 23 = .ok none := by kernel_rfl
theorem rs_23 : rowSize Tryz.prog 23 = .ok 4 := by kernel_rfl
theorem wd_65 : wide Tryz.prog 65 = .ok (some 4) := by kernel_rfl
theorem tz_106 : tzero Tryz.prog 106 = .ok (.agg #[.nilFunc, .nilFunc, .nilFunc, .nilFunc]) := by kernel_rfl
theorem ae_106 : arrOf Tryz.prog 106 = .ok 1 := by kernel_rfl
theorem ts_106 : tsize Tryz.prog 106 = .ok 4 := by kernel_rfl
theorem wd_106 : wide Tryz.prog 106 = .ok (some 4) := by kernel_rfl
theorem as_106 : arrSize Tryz.prog 106 = .ok (4, 1, none) := by kernel_rfl
theorem fo_65_0 : fieldOff Tryz.prog 65 0 = .ok 0 := by kernel_rfl
theorem ca_85 : callable Tryz.prog 85 = .ok () := by kernel_rfl
theorem fo_65_1 : fieldOff Tryz.prog 65 1 = .ok 1 := by kernel_rfl
theorem rs_22 : rowSize Tryz.prog 22 = .ok 1 := by kernel_rfl
theorem wd_4 : wide Tryz.prog 4 = .ok none := by kernel_rfl
theorem fo_65_2 : fieldOff Tryz.prog 65 2 = .ok 2 := by kernel_rfl
theorem fo_65_3 : fieldOff Tryz.prog 65 3 = .ok 3 := by kernel_rfl
theorem ca_90 : callable Tryz.prog 90 = .ok () := by kernel_rfl
theorem ca_108 : callable Tryz.prog 108 = .ok () := by kernel_rfl
theorem ca_89 : callable Tryz.prog 89 = .ok () := by kernel_rfl
theorem ca_88 : callable Tryz.prog 88 = .ok () := by kernel_rfl
theorem ca_87 : callable Tryz.prog 87 = .ok () := by kernel_rfl
theorem ca_86 : callable Tryz.prog 86 = .ok () := by kernel_rfl
theorem ca_84 : callable Tryz.prog 84 = .ok () := by kernel_rfl
theorem ca_68 : callable Tryz.prog 68 = .ok () := by kernel_rfl
theorem tz_111 : tzero Tryz.prog 111 = .ok (.agg #[.int .i64 0, .int .i64 0, .int .i64 0, .int .i64 0, .int .i64 0]) := by kernel_rfl
theorem pl_111 : placesOf Tryz.prog 111 = .ok [(0, 4), (4, 1)] := by kernel_rfl
theorem ts_111 : tsize Tryz.prog 111 = .ok 5 := by kernel_rfl
theorem fo_111_1 : fieldOff Tryz.prog 111 1 = .ok 4 := by kernel_rfl
theorem fo_111_0 : fieldOff Tryz.prog 111 0 = .ok 0 := by kernel_rfl
theorem wd_111 : wide Tryz.prog 111 = .ok (some 5) := by kernel_rfl
theorem ca_92 : callable Tryz.prog 92 = .ok () := by kernel_rfl
theorem ca_109 : callable Tryz.prog 109 = .ok () := by kernel_rfl
theorem ca_91 : callable Tryz.prog 91 = .ok () := by kernel_rfl
theorem ca_69 : callable Tryz.prog 69 = .ok () := by kernel_rfl
theorem tb_4 : tbytes Tryz.prog 4 = .ok 1 := by kernel_rfl
theorem tz_22 : tzero Tryz.prog 22 = .ok (.slice none 0 0) := by kernel_rfl
theorem ts_22 : tsize Tryz.prog 22 = .ok 1 := by kernel_rfl
theorem un_26 : under Tryz.prog 26 = .ok (.slice 3) := by kernel_rfl
theorem rs_26 : rowSize Tryz.prog 26 = .ok 1 := by kernel_rfl
theorem ca_78 : callable Tryz.prog 78 = .ok () := by kernel_rfl
theorem ca_94 : callable Tryz.prog 94 = .ok () := by kernel_rfl
theorem wd_26 : wide Tryz.prog 26 = .ok none := by kernel_rfl
theorem ca_54 : callable Tryz.prog 54 = .ok () := by kernel_rfl
theorem ca_71 : callable Tryz.prog 71 = .ok () := by kernel_rfl
theorem un_4 : under Tryz.prog 4 = .ok .bool := by kernel_rfl
theorem ca_93 : callable Tryz.prog 93 = .ok () := by kernel_rfl
theorem ca_70 : callable Tryz.prog 70 = .ok () := by kernel_rfl
theorem ca_39 : callable Tryz.prog 39 = .ok () := by kernel_rfl
theorem tz_60 : tzero Tryz.prog 60 = .ok (.agg #[.int .i64 0, .slice none 0 0, .slice none 0 0]) := by kernel_rfl
theorem pl_60 : placesOf Tryz.prog 60 = .ok [(0, 3)] := by kernel_rfl
theorem ts_60 : tsize Tryz.prog 60 = .ok 3 := by kernel_rfl
theorem wd_60 : wide Tryz.prog 60 = .ok (some 3) := by kernel_rfl
theorem rs_27 : rowSize Tryz.prog 27 = .ok 1 := by kernel_rfl
theorem fo_60_0 : fieldOff Tryz.prog 60 0 = .ok 0 := by kernel_rfl
theorem ca_72 : callable Tryz.prog 72 = .ok () := by kernel_rfl
theorem ca_73 : callable Tryz.prog 73 = .ok () := by kernel_rfl
theorem ca_46 : callable Tryz.prog 46 = .ok () := by kernel_rfl
theorem tz_26 : tzero Tryz.prog 26 = .ok (.slice none 0 0) := by kernel_rfl
theorem ca_107 : callable Tryz.prog 107 = .ok () := by kernel_rfl
theorem ca_80 : callable Tryz.prog 80 = .ok () := by kernel_rfl
theorem ca_56 : callable Tryz.prog 56 = .ok () := by kernel_rfl
theorem ax_26_26 : argOk Tryz.prog #[26, 26] = .ok () := by kernel_rfl
theorem tb_3 : tbytes Tryz.prog 3 = .ok 8 := by kernel_rfl
theorem ts_26 : tsize Tryz.prog 26 = .ok 1 := by kernel_rfl
theorem ca_79 : callable Tryz.prog 79 = .ok () := by kernel_rfl
theorem ca_55 : callable Tryz.prog 55 = .ok () := by kernel_rfl
theorem ca_82 : callable Tryz.prog 82 = .ok () := by kernel_rfl
theorem ca_59 : callable Tryz.prog 59 = .ok () := by kernel_rfl
theorem ca_40 : callable Tryz.prog 40 = .ok () := by kernel_rfl
theorem ca_15 : callable Tryz.prog 15 = .ok () := by kernel_rfl
theorem ca_81 : callable Tryz.prog 81 = .ok () := by kernel_rfl
theorem ca_58 : callable Tryz.prog 58 = .ok () := by kernel_rfl
theorem ca_30 : callable Tryz.prog 30 = .ok () := by kernel_rfl
theorem ca_29 : callable Tryz.prog 29 = .ok () := by kernel_rfl
theorem ca_28 : callable Tryz.prog 28 = .ok () := by kernel_rfl
theorem ca_9 : callable Tryz.prog 9 = .ok () := by kernel_rfl
theorem ca_10 : callable Tryz.prog 10 = .ok () := by kernel_rfl
theorem wd_66 : wide Tryz.prog 66 = .ok none := by kernel_rfl
theorem ca_32 : callable Tryz.prog 32 = .ok () := by kernel_rfl
theorem ca_61 : callable Tryz.prog 61 = .ok () := by kernel_rfl
theorem ca_60 : callable Tryz.prog 60 = .ok () := by kernel_rfl
theorem ca_31 : callable Tryz.prog 31 = .ok () := by kernel_rfl
theorem ca_11 : callable Tryz.prog 11 = .ok () := by kernel_rfl
theorem ca_33 : callable Tryz.prog 33 = .ok () := by kernel_rfl
theorem ca_12 : callable Tryz.prog 12 = .ok () := by kernel_rfl
theorem tz_27 : tzero Tryz.prog 27 = .ok (.slice none 0 0) := by kernel_rfl
theorem ax_27_27 : argOk Tryz.prog #[27, 27] = .ok () := by kernel_rfl
theorem ts_27 : tsize Tryz.prog 27 = .ok 1 := by kernel_rfl
theorem ca_62 : callable Tryz.prog 62 = .ok () := by kernel_rfl
theorem ca_36 : callable Tryz.prog 36 = .ok () := by kernel_rfl
theorem ca_35 : callable Tryz.prog 35 = .ok () := by kernel_rfl
theorem ca_34 : callable Tryz.prog 34 = .ok () := by kernel_rfl
theorem ca_13 : callable Tryz.prog 13 = .ok () := by kernel_rfl
theorem ca_48 : callable Tryz.prog 48 = .ok () := by kernel_rfl
theorem ca_47 : callable Tryz.prog 47 = .ok () := by kernel_rfl
theorem ca_50 : callable Tryz.prog 50 = .ok () := by kernel_rfl
theorem ca_75 : callable Tryz.prog 75 = .ok () := by kernel_rfl
theorem ca_95 : callable Tryz.prog 95 = .ok () := by kernel_rfl
theorem ca_74 : callable Tryz.prog 74 = .ok () := by kernel_rfl
theorem ca_49 : callable Tryz.prog 49 = .ok () := by kernel_rfl
theorem ca_22 : callable Tryz.prog 22 = .ok () := by kernel_rfl
theorem un_52 : under Tryz.prog 52 = .ok (.slice 27) := by kernel_rfl
theorem rs_52 : rowSize Tryz.prog 52 = .ok 1 := by kernel_rfl
theorem ax_26_27 : argOk Tryz.prog #[26, 27] = .ok () := by kernel_rfl
theorem ca_52 : callable Tryz.prog 52 = .ok () := by kernel_rfl
theorem ca_53 : callable Tryz.prog 53 = .ok () := by kernel_rfl
theorem ca_24 : callable Tryz.prog 24 = .ok () := by kernel_rfl
theorem ca_17 : callable Tryz.prog 17 = .ok () := by kernel_rfl
theorem ca_19 : callable Tryz.prog 19 = .ok () := by kernel_rfl
theorem ca_6 : callable Tryz.prog 6 = .ok () := by kernel_rfl
theorem ts_23 : tsize Tryz.prog 23 = .ok 1 := by kernel_rfl
theorem ca_7 : callable Tryz.prog 7 = .ok () := by kernel_rfl
theorem ca_8 : callable Tryz.prog 8 = .ok () := by kernel_rfl
theorem ax_52_52 : argOk Tryz.prog #[52, 52] = .ok () := by kernel_rfl
theorem tb_27 : tbytes Tryz.prog 27 = .ok 24 := by kernel_rfl
theorem ca_83 : callable Tryz.prog 83 = .ok () := by kernel_rfl
theorem ca_63 : callable Tryz.prog 63 = .ok () := by kernel_rfl
theorem ca_67 : callable Tryz.prog 67 = .ok () := by kernel_rfl
theorem ca_65 : callable Tryz.prog 65 = .ok () := by kernel_rfl
theorem ca_64 : callable Tryz.prog 64 = .ok () := by kernel_rfl
theorem ca_37 : callable Tryz.prog 37 = .ok () := by kernel_rfl
theorem ca_66 : callable Tryz.prog 66 = .ok () := by kernel_rfl
theorem ca_41 : callable Tryz.prog 41 = .ok () := by kernel_rfl
theorem ca_42 : callable Tryz.prog 42 = .ok () := by kernel_rfl
theorem ca_16 : callable Tryz.prog 16 = .ok () := by kernel_rfl
theorem ca_38 : callable Tryz.prog 38 = .ok () := by kernel_rfl
theorem ca_14 : callable Tryz.prog 14 = .ok () := by kernel_rfl
theorem ca_57 : callable Tryz.prog 57 = .ok () := by kernel_rfl
theorem ca_25 : callable Tryz.prog 25 = .ok () := by kernel_rfl
theorem ca_26 : callable Tryz.prog 26 = .ok () := by kernel_rfl
end Go.AM

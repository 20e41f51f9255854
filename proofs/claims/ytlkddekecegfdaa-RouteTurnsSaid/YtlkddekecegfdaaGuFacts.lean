/- Printed: functions of the given program as functions over plain data, and that the machine does what they say; no claim of its own; no condition. -/
import Derived.Test.YtlkddekecegfdaaProg
import Derived.Test.YtlkddekecegfdaaGuDefs
import Derived.KernelRfl
set_option maxRecDepth 100000
set_option maxHeartbeats 4000000
set_option linter.unusedVariables false
set_option linter.unusedSimpArgs false
namespace Go.AM
open Go Go.Proofs

def memN : List Nat → Nat → Bool
  | [], _ => false
  | x :: l, n => match Nat.beq x n with | true => true | false => memN l n
def cutF (f : FuncId) : Cut := match memN [15] f with | true => .sort | false => match memN [6, 9, 11, 12, 16, 18, 19, 20, 21, 22, 25, 28, 35, 36, 37, 38, 40, 42, 44, 50, 51, 52, 55, 59, 60, 68, 70, 75, 76, 83, 96, 105, 107] f with | true => .yes | false => match memN [67] f with | true => .compact | false => .no
theorem tz_29 : tzero Try.prog 29 = .ok (.agg #[.int .i64 0, .slice none 0 0, .slice none 0 0]) := by kernel_rfl
theorem un_26 : under Try.prog 26 = .ok (.slice 4) := by kernel_rfl
theorem ts_4 : tsize Try.prog 4 = .ok 1 := by kernel_rfl
theorem tz_4 : tzero Try.prog 4 = .ok (.bool false) := by kernel_rfl
theorem tz_75 : tzero Try.prog 75 = .ok (.agg #[.int .i64 0, .int .i64 0, .int .i64 0, .int .i64 0]) := by kernel_rfl
theorem pl_75 : placesOf Try.prog 75 = .ok [(0, 1), (1, 1), (2, 1), (3, 1)] := by kernel_rfl
theorem un_27 : under Try.prog 27 = .ok (.slice 75) := by kernel_rfl
theorem ts_75 : tsize Try.prog 75 = .ok 4 := by kernel_rfl
theorem pl_29 : placesOf Try.prog 29 = .ok [(0, 1), (1, 1), (2, 1)] := by kernel_rfl
theorem ts_29 : tsize Try.prog 29 = .ok 3 := by kernel_rfl
theorem wd_29 : wide Try.prog 29 = .ok (some 3) := by kernel_rfl
theorem ca_48 : callable Try.prog 48 = .ok () := by kernel_rfl
theorem un_42 : under Try.prog 42 = .ok (.slice 3) := by kernel_rfl
theorem ts_3 : tsize Try.prog 3 = .ok 1 := by kernel_rfl
theorem tz_3 : tzero Try.prog 3 = .ok (.int .i64 0) := by kernel_rfl
theorem wd_42 : wide Try.prog 42 = .ok none := by kernel_rfl
theorem fo_29_0 : fieldOff Try.prog 29 0 = .ok 0 := by kernel_rfl
theorem wd_3 : wide Try.prog 3 = .ok none := by kernel_rfl
theorem fo_29_1 : fieldOff Try.prog 29 1 = .ok 1 := by kernel_rfl
theorem wd_26 : wide Try.prog 26 = .ok none := by kernel_rfl
theorem fo_29_2 : fieldOff Try.prog 29 2 = .ok 2 := by kernel_rfl
theorem wd_27 : wide Try.prog 27 = .ok none := by kernel_rfl
theorem rs_27 : rowSize Try.prog 27 = .ok 4 := by kernel_rfl
theorem wd_75 : wide Try.prog 75 = .ok (some 4) := by kernel_rfl
theorem tz_108 : tzero Try.prog 108 = .ok (.agg #[.nilFunc, .nilFunc, .nilFunc, .nilFunc]) := by kernel_rfl
theorem ae_108 : arrOf Try.prog 108 = .ok 1 := by kernel_rfl
theorem ts_108 : tsize Try.prog 108 = .ok 4 := by kernel_rfl
theorem wd_108 : wide Try.prog 108 = .ok (some 4) := by kernel_rfl
theorem as_108 : arrSize Try.prog 108 = .ok (4, 1, none) := by kernel_rfl
theorem fo_75_0 : fieldOff Try.prog 75 0 = .ok 0 := by kernel_rfl
theorem ca_40 : callable Try.prog 40 = .ok () := by kernel_rfl
theorem fo_75_1 : fieldOff Try.prog 75 1 = .ok 1 := by kernel_rfl
theorem rs_26 : rowSize Try.prog 26 = .ok 1 := by kernel_rfl
theorem wd_4 : wide Try.prog 4 = .ok none := by kernel_rfl
theorem fo_75_2 : fieldOff Try.prog 75 2 = .ok 2 := by kernel_rfl
theorem fo_75_3 : fieldOff Try.prog 75 3 = .ok 3 := by kernel_rfl
theorem ca_82 : callable Try.prog 82 = .ok () := by kernel_rfl
theorem ca_108 : callable Try.prog 108 = .ok () := by kernel_rfl
theorem ca_81 : callable Try.prog 81 = .ok () := by kernel_rfl
theorem ca_80 : callable Try.prog 80 = .ok () := by kernel_rfl
theorem ca_79 : callable Try.prog 79 = .ok () := by kernel_rfl
theorem ca_78 : callable Try.prog 78 = .ok () := by kernel_rfl
theorem ca_77 : callable Try.prog 77 = .ok () := by kernel_rfl
theorem ca_36 : callable Try.prog 36 = .ok () := by kernel_rfl
theorem tz_77 : tzero Try.prog 77 = .ok (.agg #[.int .i64 0, .int .i64 0, .int .i64 0, .int .i64 0, .int .i64 0]) := by kernel_rfl
theorem pl_77 : placesOf Try.prog 77 = .ok [(0, 4), (4, 1)] := by kernel_rfl
theorem ts_77 : tsize Try.prog 77 = .ok 5 := by kernel_rfl
theorem fo_77_1 : fieldOff Try.prog 77 1 = .ok 4 := by kernel_rfl
theorem fo_77_0 : fieldOff Try.prog 77 0 = .ok 0 := by kernel_rfl
theorem wd_77 : wide Try.prog 77 = .ok (some 5) := by kernel_rfl
theorem ca_42 : callable Try.prog 42 = .ok () := by kernel_rfl
theorem ca_84 : callable Try.prog 84 = .ok () := by kernel_rfl
theorem ca_41 : callable Try.prog 41 = .ok () := by kernel_rfl
theorem ca_37 : callable Try.prog 37 = .ok () := by kernel_rfl
theorem tb_4 : tbytes Try.prog 4 = .ok 1 := by kernel_rfl
theorem tz_26 : tzero Try.prog 26 = .ok (.slice none 0 0) := by kernel_rfl
theorem ts_26 : tsize Try.prog 26 = .ok 1 := by kernel_rfl
theorem un_33 : under Try.prog 33 = .ok (.slice 3) := by kernel_rfl
theorem rs_33 : rowSize Try.prog 33 = .ok 1 := by kernel_rfl
theorem ca_105 : callable Try.prog 105 = .ok () := by kernel_rfl
theorem ca_44 : callable Try.prog 44 = .ok () := by kernel_rfl
theorem wd_33 : wide Try.prog 33 = .ok none := by kernel_rfl
theorem ca_68 : callable Try.prog 68 = .ok () := by kernel_rfl
theorem ca_39 : callable Try.prog 39 = .ok () := by kernel_rfl
theorem un_4 : under Try.prog 4 = .ok .bool := by kernel_rfl
theorem ca_83 : callable Try.prog 83 = .ok () := by kernel_rfl
theorem ca_38 : callable Try.prog 38 = .ok () := by kernel_rfl
theorem ca_9 : callable Try.prog 9 = .ok () := by kernel_rfl
theorem tz_87 : tzero Try.prog 87 = .ok (.agg #[.int .i64 0, .slice none 0 0, .slice none 0 0]) := by kernel_rfl
theorem pl_87 : placesOf Try.prog 87 = .ok [(0, 3)] := by kernel_rfl
theorem ts_87 : tsize Try.prog 87 = .ok 3 := by kernel_rfl
theorem wd_87 : wide Try.prog 87 = .ok (some 3) := by kernel_rfl
theorem rs_42 : rowSize Try.prog 42 = .ok 1 := by kernel_rfl
theorem fo_87_0 : fieldOff Try.prog 87 0 = .ok 0 := by kernel_rfl
theorem ca_97 : callable Try.prog 97 = .ok () := by kernel_rfl
theorem ca_101 : callable Try.prog 101 = .ok () := by kernel_rfl
theorem ca_56 : callable Try.prog 56 = .ok () := by kernel_rfl
theorem tz_33 : tzero Try.prog 33 = .ok (.slice none 0 0) := by kernel_rfl
theorem ca_43 : callable Try.prog 43 = .ok () := by kernel_rfl
theorem ca_11 : callable Try.prog 11 = .ok () := by kernel_rfl
theorem ca_70 : callable Try.prog 70 = .ok () := by kernel_rfl
theorem ax_33_33 : argOk Try.prog #[33, 33] = .ok () := by kernel_rfl
theorem tb_3 : tbytes Try.prog 3 = .ok 8 := by kernel_rfl
theorem ts_33 : tsize Try.prog 33 = .ok 1 := by kernel_rfl
theorem ca_12 : callable Try.prog 12 = .ok () := by kernel_rfl
theorem ca_69 : callable Try.prog 69 = .ok () := by kernel_rfl
theorem ca_115 : callable Try.prog 115 = .ok () := by kernel_rfl
theorem ca_98 : callable Try.prog 98 = .ok () := by kernel_rfl
theorem ca_52 : callable Try.prog 52 = .ok () := by kernel_rfl
theorem ca_18 : callable Try.prog 18 = .ok () := by kernel_rfl
theorem ca_116 : callable Try.prog 116 = .ok () := by kernel_rfl
theorem ca_104 : callable Try.prog 104 = .ok () := by kernel_rfl
theorem ca_66 : callable Try.prog 66 = .ok () := by kernel_rfl
theorem ca_65 : callable Try.prog 65 = .ok () := by kernel_rfl
theorem ca_64 : callable Try.prog 64 = .ok () := by kernel_rfl
theorem ca_24 : callable Try.prog 24 = .ok () := by kernel_rfl
theorem ca_21 : callable Try.prog 21 = .ok () := by kernel_rfl
theorem wd_90 : wide Try.prog 90 = .ok none := by kernel_rfl
theorem ca_55 : callable Try.prog 55 = .ok () := by kernel_rfl
theorem ca_100 : callable Try.prog 100 = .ok () := by kernel_rfl
theorem ca_99 : callable Try.prog 99 = .ok () := by kernel_rfl
theorem ca_53 : callable Try.prog 53 = .ok () := by kernel_rfl
theorem ca_20 : callable Try.prog 20 = .ok () := by kernel_rfl
theorem ca_54 : callable Try.prog 54 = .ok () := by kernel_rfl
theorem ca_19 : callable Try.prog 19 = .ok () := by kernel_rfl
theorem tz_42 : tzero Try.prog 42 = .ok (.slice none 0 0) := by kernel_rfl
theorem ax_42_42 : argOk Try.prog #[42, 42] = .ok () := by kernel_rfl
theorem ts_42 : tsize Try.prog 42 = .ok 1 := by kernel_rfl
theorem ca_103 : callable Try.prog 103 = .ok () := by kernel_rfl
theorem ca_63 : callable Try.prog 63 = .ok () := by kernel_rfl
theorem ca_62 : callable Try.prog 62 = .ok () := by kernel_rfl
theorem ca_61 : callable Try.prog 61 = .ok () := by kernel_rfl
theorem ca_23 : callable Try.prog 23 = .ok () := by kernel_rfl
theorem ca_58 : callable Try.prog 58 = .ok () := by kernel_rfl
theorem ca_57 : callable Try.prog 57 = .ok () := by kernel_rfl
theorem ca_60 : callable Try.prog 60 = .ok () := by kernel_rfl
theorem ca_102 : callable Try.prog 102 = .ok () := by kernel_rfl
theorem ca_106 : callable Try.prog 106 = .ok () := by kernel_rfl
theorem ca_73 : callable Try.prog 73 = .ok () := by kernel_rfl
theorem ca_59 : callable Try.prog 59 = .ok () := by kernel_rfl
theorem ca_22 : callable Try.prog 22 = .ok () := by kernel_rfl
theorem un_59 : under Try.prog 59 = .ok (.slice 42) := by kernel_rfl
theorem rs_59 : rowSize Try.prog 59 = .ok 1 := by kernel_rfl
theorem ax_33_42 : argOk Try.prog #[33, 42] = .ok () := by kernel_rfl
theorem ca_15 : callable Try.prog 15 = .ok () := by kernel_rfl
theorem ca_67 : callable Try.prog 67 = .ok () := by kernel_rfl
theorem ca_27 : callable Try.prog 27 = .ok () := by kernel_rfl
theorem ca_28 : callable Try.prog 28 = .ok () := by kernel_rfl
theorem ca_25 : callable Try.prog 25 = .ok () := by kernel_rfl
theorem ca_16 : callable Try.prog 16 = .ok () := by kernel_rfl
theorem wd_24 : wide Try.prog 24 = .ok (some 6) := by kernel_rfl
theorem fo_24_0 : fieldOff Try.prog 24 0 = .ok 0 := by kernel_rfl
theorem wd_5 : wide Try.prog 5 = .ok none := by kernel_rfl
theorem un_5 : under Try.prog 5 = .ok (.int .u8) := by kernel_rfl
theorem un_3 : under Try.prog 3 = .ok (.int .i64) := by kernel_rfl
theorem fo_24_1 : fieldOff Try.prog 24 1 = .ok 1 := by kernel_rfl
theorem ax_26_26 : argOk Try.prog #[26, 26] = .ok () := by kernel_rfl
theorem un_22 : under Try.prog 22 = .ok (.slice 5) := by kernel_rfl
theorem rs_22 : rowSize Try.prog 22 = .ok 1 := by kernel_rfl
theorem fo_24_4 : fieldOff Try.prog 24 4 = .ok 4 := by kernel_rfl
theorem wd_22 : wide Try.prog 22 = .ok none := by kernel_rfl
theorem ca_35 : callable Try.prog 35 = .ok () := by kernel_rfl
theorem fo_24_5 : fieldOff Try.prog 24 5 = .ok 5 := by kernel_rfl
theorem ca_107 : callable Try.prog 107 = .ok () := by kernel_rfl
theorem ca_75 : callable Try.prog 75 = .ok () := by kernel_rfl
theorem ca_76 : callable Try.prog 76 = .ok () := by kernel_rfl
theorem ax_27_27 : argOk Try.prog #[27, 27] = .ok () := by kernel_rfl
theorem tb_75 : tbytes Try.prog 75 = .ok 32 := by kernel_rfl
theorem ts_27 : tsize Try.prog 27 = .ok 1 := by kernel_rfl
theorem ca_34 : callable Try.prog 34 = .ok () := by kernel_rfl
theorem fo_24_3 : fieldOff Try.prog 24 3 = .ok 3 := by kernel_rfl
theorem fo_24_2 : fieldOff Try.prog 24 2 = .ok 2 := by kernel_rfl
theorem ca_8 : callable Try.prog 8 = .ok () := by kernel_rfl
theorem ca_96 : callable Try.prog 96 = .ok () := by kernel_rfl
theorem ca_49 : callable Try.prog 49 = .ok () := by kernel_rfl
theorem ca_51 : callable Try.prog 51 = .ok () := by kernel_rfl
theorem ca_50 : callable Try.prog 50 = .ok () := by kernel_rfl
theorem ca_17 : callable Try.prog 17 = .ok () := by kernel_rfl
theorem ca_26 : callable Try.prog 26 = .ok () := by kernel_rfl
end Go.AM

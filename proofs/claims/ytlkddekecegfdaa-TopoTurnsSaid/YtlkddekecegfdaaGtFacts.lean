/- Printed: functions of the given program as functions over plain data, and that the machine does what they say; no claim of its own; no condition. -/
import Derived.Test.YtlkddekecegfdaaProg
import Derived.Test.YtlkddekecegfdaaGtDefs
import Derived.KernelRfl
set_option maxRecDepth 100000
set_option maxHeartbeats 4000000
set_option linter.unusedVariables false
set_option linter.unusedSimpArgs false
namespace Go.AM
open Go Go.Proofs

def memN : List Nat → Nat → Bool
  | [], _ => false
  | x :: l, n => match Nat.beq x n with | true => true | false => memN l n
def cutF (f : FuncId) : Cut := match memN [15] f with | true => .sort | false => match memN [3, 7, 9, 11, 12, 13, 14, 28, 30, 31, 33, 35, 36, 37, 38, 40, 42, 44, 45, 68, 71, 72, 75, 76, 83, 105, 107] f with | true => .yes | false => match memN [] f with | true => .compact | false => .no
theorem tz_29 : tzero Try.prog 29 = .ok (.agg #[.int .i64 0, .slice none 0 0, .slice none 0 0]) := by kernel_rfl
theorem un_26 : under Try.prog 26 = .ok (.slice 4) := by kernel_rfl
theorem ts_4 : tsize Try.prog 4 = .ok 1 := by kernel_rfl
theorem tz_4 : tzero Try.prog 4 = .ok (.bool false) := by kernel_rfl
theorem tz_75 : tzero Try.prog 75 = .ok (.agg #[.int .i64 0, .int .i64 0, .int .i64 0, .int .i64 0]) := by kernel_rfl
theorem pl_75 : placesOf Try.prog 75 = .ok [(0, 1), (1, 1), (2, 1), (3, 1)] := by kernel_rfl
theorem un_27 : under Try.prog 27 = .ok (.slice 75) := by kernel_rfl
theorem ts_75 : tsize Try.prog 75 = .ok 4 := by kernel_rfl
theorem pl_29 : placesOf Try.prog 29 = .ok [(0, 1), (1, 1), (2, 1)] := by kernel_rfl
theorem ts_29 : tsize Try.prog 29 = .ok 3 := by kernel_rfl
theorem wd_29 : wide Try.prog 29 = .ok (some 3) := by kernel_rfl
theorem ca_29 : callable Try.prog 29 = .ok () := by kernel_rfl
theorem fo_29_0 : fieldOff Try.prog 29 0 = .ok 0 := by kernel_rfl
theorem wd_3 : wide Try.prog 3 = .ok none := by kernel_rfl
theorem fo_29_1 : fieldOff Try.prog 29 1 = .ok 1 := by kernel_rfl
theorem wd_26 : wide Try.prog 26 = .ok none := by kernel_rfl
theorem fo_29_2 : fieldOff Try.prog 29 2 = .ok 2 := by kernel_rfl
theorem wd_27 : wide Try.prog 27 = .ok none := by kernel_rfl
theorem rs_27 : rowSize Try.prog 27 = .ok 4 := by kernel_rfl
theorem wd_75 : wide Try.prog 75 = .ok (some 4) := by kernel_rfl
theorem tz_108 : tzero Try.prog 108 = .ok (.agg #[.nilFunc, .nilFunc, .nilFunc, .nilFunc]) := by kernel_rfl
theorem ae_108 : arrOf Try.prog 108 = .ok 1 := by kernel_rfl
theorem ts_108 : tsize Try.prog 108 = .ok 4 := by kernel_rfl
theorem wd_108 : wide Try.prog 108 = .ok (some 4) := by kernel_rfl
theorem as_108 : arrSize Try.prog 108 = .ok (4, 1, none) := by kernel_rfl
theorem fo_75_0 : fieldOff Try.prog 75 0 = .ok 0 := by kernel_rfl
theorem ca_40 : callable Try.prog 40 = .ok () := by kernel_rfl
theorem fo_75_1 : fieldOff Try.prog 75 1 = .ok 1 := by kernel_rfl
theorem rs_26 : rowSize Try.prog 26 = .ok 1 := by kernel_rfl
theorem wd_4 : wide Try.prog 4 = .ok none := by kernel_rfl
theorem fo_75_2 : fieldOff Try.prog 75 2 = .ok 2 := by kernel_rfl
theorem fo_75_3 : fieldOff Try.prog 75 3 = .ok 3 := by kernel_rfl
theorem ca_82 : callable Try.prog 82 = .ok () := by kernel_rfl
theorem ca_108 : callable Try.prog 108 = .ok () := by kernel_rfl
theorem ca_81 : callable Try.prog 81 = .ok () := by kernel_rfl
theorem ca_80 : callable Try.prog 80 = .ok () := by kernel_rfl
theorem ca_79 : callable Try.prog 79 = .ok () := by kernel_rfl
theorem ca_78 : callable Try.prog 78 = .ok () := by kernel_rfl
theorem ca_77 : callable Try.prog 77 = .ok () := by kernel_rfl
theorem ca_36 : callable Try.prog 36 = .ok () := by kernel_rfl
theorem tz_3 : tzero Try.prog 3 = .ok (.int .i64 0) := by kernel_rfl
theorem ts_3 : tsize Try.prog 3 = .ok 1 := by kernel_rfl
theorem tz_77 : tzero Try.prog 77 = .ok (.agg #[.int .i64 0, .int .i64 0, .int .i64 0, .int .i64 0, .int .i64 0]) := by kernel_rfl
theorem pl_77 : placesOf Try.prog 77 = .ok [(0, 4), (4, 1)] := by kernel_rfl
theorem ts_77 : tsize Try.prog 77 = .ok 5 := by kernel_rfl
theorem fo_77_1 : fieldOff Try.prog 77 1 = .ok 4 := by kernel_rfl
theorem fo_77_0 : fieldOff Try.prog 77 0 = .ok 0 := by kernel_rfl
theorem wd_77 : wide Try.prog 77 = .ok (some 5) := by kernel_rfl
theorem ca_42 : callable Try.prog 42 = .ok () := by kernel_rfl
theorem ca_84 : callable Try.prog 84 = .ok () := by kernel_rfl
theorem ca_41 : callable Try.prog 41 = .ok () := by kernel_rfl
theorem ca_37 : callable Try.prog 37 = .ok () := by kernel_rfl
theorem tb_4 : tbytes Try.prog 4 = .ok 1 := by kernel_rfl
theorem tz_26 : tzero Try.prog 26 = .ok (.slice none 0 0) := by kernel_rfl
theorem ts_26 : tsize Try.prog 26 = .ok 1 := by kernel_rfl
theorem un_33 : under Try.prog 33 = .ok (.slice 3) := by kernel_rfl
theorem rs_33 : rowSize Try.prog 33 = .ok 1 := by kernel_rfl
theorem ca_105 : callable Try.prog 105 = .ok () := by kernel_rfl
theorem ca_44 : callable Try.prog 44 = .ok () := by kernel_rfl
theorem wd_33 : wide Try.prog 33 = .ok none := by kernel_rfl
theorem ca_68 : callable Try.prog 68 = .ok () := by kernel_rfl
theorem ca_39 : callable Try.prog 39 = .ok () := by kernel_rfl
theorem un_4 : under Try.prog 4 = .ok .bool := by kernel_rfl
theorem ca_83 : callable Try.prog 83 = .ok () := by kernel_rfl
theorem ca_38 : callable Try.prog 38 = .ok () := by kernel_rfl
theorem ca_9 : callable Try.prog 9 = .ok () := by kernel_rfl
theorem ca_43 : callable Try.prog 43 = .ok () := by kernel_rfl
theorem ca_11 : callable Try.prog 11 = .ok () := by kernel_rfl
theorem ca_12 : callable Try.prog 12 = .ok () := by kernel_rfl
theorem ca_71 : callable Try.prog 71 = .ok () := by kernel_rfl
theorem ca_30 : callable Try.prog 30 = .ok () := by kernel_rfl
theorem ca_72 : callable Try.prog 72 = .ok () := by kernel_rfl
theorem ca_31 : callable Try.prog 31 = .ok () := by kernel_rfl
theorem tz_33 : tzero Try.prog 33 = .ok (.slice none 0 0) := by kernel_rfl
theorem ax_33_33 : argOk Try.prog #[33, 33] = .ok () := by kernel_rfl
theorem tb_3 : tbytes Try.prog 3 = .ok 8 := by kernel_rfl
theorem ts_33 : tsize Try.prog 33 = .ok 1 := by kernel_rfl
theorem ca_10 : callable Try.prog 10 = .ok () := by kernel_rfl
theorem tz_31 : tzero Try.prog 31 = .ok (.int .i64 0) := by kernel_rfl
theorem ts_31 : tsize Try.prog 31 = .ok 1 := by kernel_rfl
theorem wd_31 : wide Try.prog 31 = .ok none := by kernel_rfl
theorem ca_14 : callable Try.prog 14 = .ok () := by kernel_rfl
theorem ca_74 : callable Try.prog 74 = .ok () := by kernel_rfl
theorem ca_106 : callable Try.prog 106 = .ok () := by kernel_rfl
theorem ca_73 : callable Try.prog 73 = .ok () := by kernel_rfl
theorem ca_32 : callable Try.prog 32 = .ok () := by kernel_rfl
theorem ca_28 : callable Try.prog 28 = .ok () := by kernel_rfl
theorem ca_33 : callable Try.prog 33 = .ok () := by kernel_rfl
theorem ca_7 : callable Try.prog 7 = .ok () := by kernel_rfl
theorem wd_24 : wide Try.prog 24 = .ok (some 6) := by kernel_rfl
theorem fo_24_0 : fieldOff Try.prog 24 0 = .ok 0 := by kernel_rfl
theorem wd_5 : wide Try.prog 5 = .ok none := by kernel_rfl
theorem un_5 : under Try.prog 5 = .ok (.int .u8) := by kernel_rfl
theorem un_3 : under Try.prog 3 = .ok (.int .i64) := by kernel_rfl
theorem fo_24_1 : fieldOff Try.prog 24 1 = .ok 1 := by kernel_rfl
theorem ax_26_26 : argOk Try.prog #[26, 26] = .ok () := by kernel_rfl
theorem un_22 : under Try.prog 22 = .ok (.slice 5) := by kernel_rfl
theorem rs_22 : rowSize Try.prog 22 = .ok 1 := by kernel_rfl
theorem fo_24_4 : fieldOff Try.prog 24 4 = .ok 4 := by kernel_rfl
theorem wd_22 : wide Try.prog 22 = .ok none := by kernel_rfl
theorem ca_35 : callable Try.prog 35 = .ok () := by kernel_rfl
theorem fo_24_5 : fieldOff Try.prog 24 5 = .ok 5 := by kernel_rfl
theorem ca_107 : callable Try.prog 107 = .ok () := by kernel_rfl
theorem ca_75 : callable Try.prog 75 = .ok () := by kernel_rfl
theorem ca_76 : callable Try.prog 76 = .ok () := by kernel_rfl
theorem ax_27_27 : argOk Try.prog #[27, 27] = .ok () := by kernel_rfl
theorem tb_75 : tbytes Try.prog 75 = .ok 32 := by kernel_rfl
theorem ts_27 : tsize Try.prog 27 = .ok 1 := by kernel_rfl
theorem ca_34 : callable Try.prog 34 = .ok () := by kernel_rfl
theorem fo_24_3 : fieldOff Try.prog 24 3 = .ok 3 := by kernel_rfl
theorem fo_24_2 : fieldOff Try.prog 24 2 = .ok 2 := by kernel_rfl
theorem ca_8 : callable Try.prog 8 = .ok () := by kernel_rfl
theorem ca_45 : callable Try.prog 45 = .ok () := by kernel_rfl
theorem ca_13 : callable Try.prog 13 = .ok () := by kernel_rfl
theorem ca_15 : callable Try.prog 15 = .ok () := by kernel_rfl
end Go.AM

/- Printed: functions of the given program as functions over plain data, and that the machine does what they say; no claim of its own; no condition. -/
import Derived.Test.YtjemelnmlbcmeaaProg
import Derived.Test.YtjemelnmlbcmeaaGsDefs
import Derived.KernelRfl
set_option maxRecDepth 100000
set_option maxHeartbeats 4000000
set_option linter.unusedVariables false
set_option linter.unusedSimpArgs false
namespace Go.AM
open Go Go.Proofs

def memN : List Nat → Nat → Bool
  | [], _ => false
  | x :: l, n => match Nat.beq x n with | true => true | false => memN l n
def cutF (f : FuncId) : Bool := memN [5, 9, 12, 13, 14, 18, 21, 22, 23, 24, 25, 26, 34, 39, 41, 42, 43, 44, 48, 50, 51, 52, 54, 55, 57, 58, 63] f
theorem tz_25 : tzero Try.prog 25 = .ok (.agg #[.int .i64 0, .slice none 0 0, .slice none 0 0]) := by kernel_rfl
theorem un_22 : under Try.prog 22 = .ok (.slice 4) := by kernel_rfl
theorem ts_4 : tsize Try.prog 4 = .ok 1 := by kernel_rfl
theorem tz_4 : tzero Try.prog 4 = .ok (.bool false) := by kernel_rfl
theorem tz_50 : tzero Try.prog 50 = .ok (.agg #[.int .i64 0, .int .i64 0, .int .i64 0, .int .i64 0]) := by kernel_rfl
theorem pl_50 : placesOf Try.prog 50 = .ok [(0, 1), (1, 1), (2, 1), (3, 1)] := by kernel_rfl
theorem un_23 : under Try.prog 23 = .ok (.slice 50) := by kernel_rfl
theorem ts_50 : tsize Try.prog 50 = .ok 4 := by kernel_rfl
theorem pl_25 : placesOf Try.prog 25 = .ok [(0, 1), (1, 1), (2, 1)] := by kernel_rfl
theorem ts_25 : tsize Try.prog 25 = .ok 3 := by kernel_rfl
theorem wd_25 : wide Try.prog 25 = .ok (some 3) := by kernel_rfl
theorem ca_38 : callable Try.prog 38 = .ok () := by kernel_rfl
theorem fo_25_0 : fieldOff Try.prog 25 0 = .ok 0 := by kernel_rfl
theorem wd_3 : wide Try.prog 3 = .ok none := by kernel_rfl
theorem fo_25_1 : fieldOff Try.prog 25 1 = .ok 1 := by kernel_rfl
theorem wd_22 : wide Try.prog 22 = .ok none := by kernel_rfl
theorem fo_25_2 : fieldOff Try.prog 25 2 = .ok 2 := by kernel_rfl
theorem wd_23 : wide Try.prog 23 = .ok none := by kernel_rfl
theorem rs_23 : rowSize Try.prog 23 = .ok 4 := by kernel_rfl
theorem wd_50 : wide Try.prog 50 = .ok (some 4) := by kernel_rfl
theorem tz_85 : tzero Try.prog 85 = .ok (.agg #[.nilFunc, .nilFunc, .nilFunc, .nilFunc]) := by kernel_rfl
theorem ae_85 : arrOf Try.prog 85 = .ok 1 := by kernel_rfl
theorem ts_85 : tsize Try.prog 85 = .ok 4 := by kernel_rfl
theorem wd_85 : wide Try.prog 85 = .ok (some 4) := by kernel_rfl
theorem as_85 : arrSize Try.prog 85 = .ok (4, 1, none) := by kernel_rfl
theorem fo_50_0 : fieldOff Try.prog 50 0 = .ok 0 := by kernel_rfl
theorem ca_39 : callable Try.prog 39 = .ok () := by kernel_rfl
theorem fo_50_1 : fieldOff Try.prog 50 1 = .ok 1 := by kernel_rfl
theorem rs_22 : rowSize Try.prog 22 = .ok 1 := by kernel_rfl
theorem wd_4 : wide Try.prog 4 = .ok none := by kernel_rfl
theorem fo_50_2 : fieldOff Try.prog 50 2 = .ok 2 := by kernel_rfl
theorem fo_50_3 : fieldOff Try.prog 50 3 = .ok 3 := by kernel_rfl
theorem ca_70 : callable Try.prog 70 = .ok () := by kernel_rfl
theorem ca_82 : callable Try.prog 82 = .ok () := by kernel_rfl
theorem ca_69 : callable Try.prog 69 = .ok () := by kernel_rfl
theorem ca_68 : callable Try.prog 68 = .ok () := by kernel_rfl
theorem ca_67 : callable Try.prog 67 = .ok () := by kernel_rfl
theorem ca_66 : callable Try.prog 66 = .ok () := by kernel_rfl
theorem ca_65 : callable Try.prog 65 = .ok () := by kernel_rfl
theorem ca_57 : callable Try.prog 57 = .ok () := by kernel_rfl
theorem tz_3 : tzero Try.prog 3 = .ok (.int .i64 0) := by kernel_rfl
theorem ts_3 : tsize Try.prog 3 = .ok 1 := by kernel_rfl
theorem tz_65 : tzero Try.prog 65 = .ok (.agg #[.int .i64 0, .int .i64 0, .int .i64 0, .int .i64 0, .int .i64 0]) := by kernel_rfl
theorem pl_65 : placesOf Try.prog 65 = .ok [(0, 4), (4, 1)] := by kernel_rfl
theorem ts_65 : tsize Try.prog 65 = .ok 5 := by kernel_rfl
theorem fo_65_1 : fieldOff Try.prog 65 1 = .ok 4 := by kernel_rfl
theorem fo_65_0 : fieldOff Try.prog 65 0 = .ok 0 := by kernel_rfl
theorem wd_65 : wide Try.prog 65 = .ok (some 5) := by kernel_rfl
theorem ca_41 : callable Try.prog 41 = .ok () := by kernel_rfl
theorem ca_62 : callable Try.prog 62 = .ok () := by kernel_rfl
theorem ca_40 : callable Try.prog 40 = .ok () := by kernel_rfl
theorem ca_58 : callable Try.prog 58 = .ok () := by kernel_rfl
theorem tb_4 : tbytes Try.prog 4 = .ok 1 := by kernel_rfl
theorem tz_22 : tzero Try.prog 22 = .ok (.slice none 0 0) := by kernel_rfl
theorem ts_22 : tsize Try.prog 22 = .ok 1 := by kernel_rfl
theorem un_28 : under Try.prog 28 = .ok (.slice 3) := by kernel_rfl
theorem rs_28 : rowSize Try.prog 28 = .ok 1 := by kernel_rfl
theorem ca_52 : callable Try.prog 52 = .ok () := by kernel_rfl
theorem ca_42 : callable Try.prog 42 = .ok () := by kernel_rfl
theorem wd_28 : wide Try.prog 28 = .ok none := by kernel_rfl
theorem ca_22 : callable Try.prog 22 = .ok () := by kernel_rfl
theorem ca_47 : callable Try.prog 47 = .ok () := by kernel_rfl
theorem un_4 : under Try.prog 4 = .ok .bool := by kernel_rfl
theorem ca_51 : callable Try.prog 51 = .ok () := by kernel_rfl
theorem ca_21 : callable Try.prog 21 = .ok () := by kernel_rfl
theorem ca_34 : callable Try.prog 34 = .ok () := by kernel_rfl
theorem ca_53 : callable Try.prog 53 = .ok () := by kernel_rfl
theorem ca_23 : callable Try.prog 23 = .ok () := by kernel_rfl
theorem ca_24 : callable Try.prog 24 = .ok () := by kernel_rfl
theorem ca_54 : callable Try.prog 54 = .ok () := by kernel_rfl
theorem ca_25 : callable Try.prog 25 = .ok () := by kernel_rfl
theorem ca_55 : callable Try.prog 55 = .ok () := by kernel_rfl
theorem ca_26 : callable Try.prog 26 = .ok () := by kernel_rfl
theorem tz_28 : tzero Try.prog 28 = .ok (.slice none 0 0) := by kernel_rfl
theorem ax_28_28 : argOk Try.prog #[28, 28] = .ok () := by kernel_rfl
theorem tb_3 : tbytes Try.prog 3 = .ok 8 := by kernel_rfl
theorem ts_28 : tsize Try.prog 28 = .ok 1 := by kernel_rfl
theorem ca_11 : callable Try.prog 11 = .ok () := by kernel_rfl
theorem tz_29 : tzero Try.prog 29 = .ok (.int .i64 0) := by kernel_rfl
theorem ts_29 : tsize Try.prog 29 = .ok 1 := by kernel_rfl
theorem wd_29 : wide Try.prog 29 = .ok none := by kernel_rfl
theorem ca_12 : callable Try.prog 12 = .ok () := by kernel_rfl
theorem ca_46 : callable Try.prog 46 = .ok () := by kernel_rfl
theorem ca_64 : callable Try.prog 64 = .ok () := by kernel_rfl
theorem ca_45 : callable Try.prog 45 = .ok () := by kernel_rfl
theorem ca_17 : callable Try.prog 17 = .ok () := by kernel_rfl
theorem ca_14 : callable Try.prog 14 = .ok () := by kernel_rfl
theorem ca_18 : callable Try.prog 18 = .ok () := by kernel_rfl
theorem ca_9 : callable Try.prog 9 = .ok () := by kernel_rfl
theorem wd_46 : wide Try.prog 46 = .ok (some 6) := by kernel_rfl
theorem fo_46_0 : fieldOff Try.prog 46 0 = .ok 0 := by kernel_rfl
theorem wd_5 : wide Try.prog 5 = .ok none := by kernel_rfl
theorem un_5 : under Try.prog 5 = .ok (.int .u8) := by kernel_rfl
theorem un_3 : under Try.prog 3 = .ok (.int .i64) := by kernel_rfl
theorem fo_46_1 : fieldOff Try.prog 46 1 = .ok 1 := by kernel_rfl
theorem ax_22_22 : argOk Try.prog #[22, 22] = .ok () := by kernel_rfl
theorem un_44 : under Try.prog 44 = .ok (.slice 5) := by kernel_rfl
theorem rs_44 : rowSize Try.prog 44 = .ok 1 := by kernel_rfl
theorem fo_46_4 : fieldOff Try.prog 46 4 = .ok 4 := by kernel_rfl
theorem wd_44 : wide Try.prog 44 = .ok none := by kernel_rfl
theorem ca_50 : callable Try.prog 50 = .ok () := by kernel_rfl
theorem fo_46_5 : fieldOff Try.prog 46 5 = .ok 5 := by kernel_rfl
theorem ca_63 : callable Try.prog 63 = .ok () := by kernel_rfl
theorem ca_43 : callable Try.prog 43 = .ok () := by kernel_rfl
theorem ca_44 : callable Try.prog 44 = .ok () := by kernel_rfl
theorem ax_23_23 : argOk Try.prog #[23, 23] = .ok () := by kernel_rfl
theorem tb_50 : tbytes Try.prog 50 = .ok 32 := by kernel_rfl
theorem ts_23 : tsize Try.prog 23 = .ok 1 := by kernel_rfl
theorem ca_49 : callable Try.prog 49 = .ok () := by kernel_rfl
theorem fo_46_3 : fieldOff Try.prog 46 3 = .ok 3 := by kernel_rfl
theorem fo_46_2 : fieldOff Try.prog 46 2 = .ok 2 := by kernel_rfl
theorem ca_20 : callable Try.prog 20 = .ok () := by kernel_rfl
theorem ts_5 : tsize Try.prog 5 = .ok 1 := by kernel_rfl
theorem ca_48 : callable Try.prog 48 = .ok () := by kernel_rfl
theorem ca_19 : callable Try.prog 19 = .ok () := by kernel_rfl
end Go.AM

/- Facts on this translation's types and functions. -/
import Derived.Test.YtallgbdcolfleaaProg
import Derived.Test.YtallgbdcolfleaaRCode
namespace Go.Rill.T
open Go.Proofs
theorem agg23 : tyAgg Try.prog 23 3 = true := by kernel_rfl
theorem agg25 : tyAgg Try.prog 25 2 = true := by kernel_rfl
theorem fld23_0 : tyFld Try.prog 23 0 0 = true := by kernel_rfl
theorem fld23_1 : tyFld Try.prog 23 1 1 = true := by kernel_rfl
theorem fld23_2 : tyFld Try.prog 23 2 2 = true := by kernel_rfl
theorem fn10 : goFn Try.prog 10 = true := by kernel_rfl
theorem fn11 : goFn Try.prog 11 = true := by kernel_rfl
theorem fn12 : goFn Try.prog 12 = true := by kernel_rfl
theorem fn13 : goFn Try.prog 13 = true := by kernel_rfl
theorem fn14 : goFn Try.prog 14 = true := by kernel_rfl
theorem fn9 : goFn Try.prog 9 = true := by kernel_rfl
theorem mixed : Try.prog.follows .mixedOrders = true := by kernel_rfl
theorem one3 : tyOne Try.prog 3 = true := by kernel_rfl
theorem size23 : tySize Try.prog 23 3 = true := by kernel_rfl
theorem size3 : tySize Try.prog 3 1 = true := by kernel_rfl
abbrev tab3_12_b : List Nat := [0, 1, 3, 7, 15, 31, 15, 127, 15, 271, 1023, 2047, 4095, 8191, 16383, 16383, 65535, 16383, 16383, 524287, 1048575, 2097151, 4194303, 8388607, 16777215, 8388607, 67108863, 134217727, 268435455, 536870911, 1073741823, 2147483647, 4294967295, 8589934591, 8589934591, 34359738367, 8589934591, 137438953471, 274877906943, 549755813887, 1099511627775, 2199023255551, 4398046511103, 8796093022207]
abbrev tab3_12_i : List Nat := [0, 1, 2, 3, 4, 5, 6, 7, 8, 9, 10, 11, 12, 13, 14, 15, 16, 17, 18, 19, 20, 21, 22, 23, 24, 25, 26, 27, 28, 29, 30, 31, 32, 33, 34, 35, 36, 37, 38, 39, 40, 41, 42, 43]
theorem tab3_12 : tabOk (regOps Try.f3 12) tab3_12_b 87 = true := by kernel_rfl
theorem zero23 : zeroOf Try.prog 23 = some (.agg #[.int .i64 0, .int .i64 0, .int .i64 0]) := by kernel_rfl
end Go.Rill.T

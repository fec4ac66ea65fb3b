/- Facts on this translation's types and functions. -/
import Derived.Test.YtallgbdcolfleaaProg
import Derived.Test.YtallgbdcolfleaaRCode
namespace Go.Rill.T
open Go.Proofs
theorem agg23 : tyAgg Try.prog 23 3 = true := by kernel_rfl
theorem fld23_0 : tyFld Try.prog 23 0 0 = true := by kernel_rfl
theorem fld23_2 : tyFld Try.prog 23 2 2 = true := by kernel_rfl
theorem fn10 : goFn Try.prog 10 = true := by kernel_rfl
theorem fn14 : goFn Try.prog 14 = true := by kernel_rfl
theorem fn16 : goFn Try.prog 16 = true := by kernel_rfl
theorem fn17 : goFn Try.prog 17 = true := by kernel_rfl
theorem fn9 : goFn Try.prog 9 = true := by kernel_rfl
theorem one3 : tyOne Try.prog 3 = true := by kernel_rfl
theorem size3 : tySize Try.prog 3 1 = true := by kernel_rfl
theorem slice35 : tySlice Try.prog 35 3 = true := by kernel_rfl
end Go.Rill.T

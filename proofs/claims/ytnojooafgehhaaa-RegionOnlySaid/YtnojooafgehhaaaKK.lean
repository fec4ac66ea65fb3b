/- Facts on this translation's types and functions. -/
import Derived.Test.YtnojooafgehhaaaProg
import Derived.Test.YtnojooafgehhaaaRR
import Derived.Test.YtnojooafgehhaaaRS
section
namespace Go.Rill.T
open Go.Proofs
theorem agg67 : tyAgg Try.prog 67 141 = true := by kernel_rfl
theorem fn34 : goFn Try.prog 34 = true := by kernel_rfl
theorem fn36 : goFn Try.prog 36 = true := by kernel_rfl
abbrev tab10_13_b : List Nat := [0, 0, 2, 0, 0, 16, 0, 64, 240, 504, 1016, 2047]
abbrev tab10_13_i : List Nat := [0, 1, 2, 3, 4, 5, 6, 7, 8, 9, 10, 11]
theorem tab10_13 : tabOk (regOps Try.f10 13) tab10_13_b 138 = true := by kernel_rfl
abbrev tab10_23_b : List Nat := [0, 0, 0, 6, 14, 31, 63, 127, 255, 511, 1023, 2047, 4095, 8191, 16383, 32767, 65535, 65535, 262143, 524287, 1048575, 2097151, 65535, 4259839, 12648447, 29425663, 62980095, 134217727, 268435455, 536870911]
abbrev tab10_23_i : List Nat := [0, 1, 2, 3, 4, 5, 6, 7, 8, 9, 10, 11, 12, 13, 14, 15, 16, 17, 18, 19, 20, 21, 22, 23, 24, 25, 26, 27, 28, 29]
theorem tab10_23 : tabOk (regOps Try.f10 23) tab10_23_b 138 = true := by kernel_rfl
theorem zero67 : zeroOf Try.prog 67 = some (.agg #[.int .i64 0, .int .i64 0, .int .i64 0, .int .i64 0, .int .i64 0, .int .i64 0, .int .u8 0, .int .u8 0, .int .u8 0, .int .u8 0, .int .u8 0, .int .u8 0, .int .u8 0, .int .u8 0, .int .u8 0, .int .u8 0, .int .u8 0, .int .u8 0, .int .u8 0, .int .u8 0, .int .u8 0, .int .u8 0, .int .u8 0, .int .u8 0, .int .u8 0, .int .u8 0, .int .u8 0, .int .u8 0, .int .u8 0, .int .u8 0, .int .u8 0, .int .u8 0, .int .u8 0, .int .u8 0, .int .u8 0, .int .u8 0, .int .u8 0, .int .u8 0, .int .i64 0, .int .u8 0, .int .u8 0, .int .u8 0, .int .u8 0, .int .u8 0, .int .u8 0, .int .u8 0, .int .u8 0, .int .u8 0, .int .u8 0, .int .u8 0, .int .u8 0, .int .u8 0, .int .u8 0, .int .u8 0, .int .u8 0, .int .u8 0, .int .u8 0, .int .u8 0, .int .u8 0, .int .u8 0, .int .u8 0, .int .u8 0, .int .u8 0, .int .u8 0, .int .u8 0, .int .u8 0, .int .u8 0, .int .u8 0, .int .u8 0, .int .u8 0, .int .u8 0, .int .i64 0, .int .i64 0, .int .i64 0, .int .i64 0, .int .u8 0, .int .u8 0, .int .u8 0, .int .u8 0, .int .u8 0, .int .u8 0, .int .u8 0, .int .u8 0, .int .u8 0, .int .u8 0, .int .u8 0, .int .u8 0, .int .u8 0, .int .u8 0, .int .u8 0, .int .u8 0, .int .u8 0, .int .u8 0, .int .u8 0, .int .u8 0, .int .u8 0, .int .u8 0, .int .u8 0, .int .u8 0, .int .u8 0, .int .u8 0, .int .u8 0, .int .u8 0, .int .u8 0, .int .u8 0, .int .u8 0, .int .u8 0, .int .u8 0, .int .u8 0, .int .u8 0, .int .u8 0, .int .u8 0, .int .u8 0, .int .u8 0, .int .u8 0, .int .u8 0, .int .u8 0, .int .u8 0, .int .u8 0, .int .u8 0, .int .u8 0, .int .u8 0, .int .u8 0, .int .u8 0, .int .u8 0, .int .u8 0, .int .u8 0, .int .u8 0, .int .u8 0, .int .u8 0, .int .u8 0, .int .u8 0, .int .u8 0, .int .u8 0, .int .u8 0, .int .u8 0, .int .u8 0, .int .u8 0, .int .u8 0, .slice none 0 0, .slice none 0 0]) := by kernel_rfl
end Go.Rill.T
end
section
namespace Go.Rill.T
open Go.Proofs
theorem fld67_0 : tyFld Try.prog 67 0 0 = true := by kernel_rfl
theorem fld67_1 : tyFld Try.prog 67 1 1 = true := by kernel_rfl
theorem fld67_2 : tyFld Try.prog 67 2 2 = true := by kernel_rfl
theorem fld67_3 : tyFld Try.prog 67 3 3 = true := by kernel_rfl
theorem fld67_4 : tyFld Try.prog 67 4 139 = true := by kernel_rfl
theorem fld67_5 : tyFld Try.prog 67 5 140 = true := by kernel_rfl
theorem fn35 : goFn Try.prog 35 = true := by kernel_rfl
theorem fn69 : goFn Try.prog 69 = true := by kernel_rfl
end Go.Rill.T
end
section
namespace Go.Rill.T
open Go.Proofs
theorem fn30 : goFn Try.prog 30 = true := by kernel_rfl
theorem fn32 : goFn Try.prog 32 = true := by kernel_rfl
theorem fn33 : goFn Try.prog 33 = true := by kernel_rfl
end Go.Rill.T
end
section
namespace Go.Rill.T
open Go.Proofs
theorem fn15 : goFn Try.prog 15 = true := by kernel_rfl
theorem fn28 : goFn Try.prog 28 = true := by kernel_rfl
end Go.Rill.T
end
section
namespace Go.Rill.T
open Go.Proofs
theorem fn11 : goFn Try.prog 11 = true := by kernel_rfl
theorem fn17 : goFn Try.prog 17 = true := by kernel_rfl
theorem fn37 : goFn Try.prog 37 = true := by kernel_rfl
theorem fn61 : goFn Try.prog 61 = true := by kernel_rfl
theorem fn62 : goFn Try.prog 62 = true := by kernel_rfl
theorem fn63 : goFn Try.prog 63 = true := by kernel_rfl
theorem fn64 : goFn Try.prog 64 = true := by kernel_rfl
theorem fn90 : goFn Try.prog 90 = true := by kernel_rfl
abbrev tab26_4_b : List Nat := [0, 0, 2, 0, 0, 16, 0, 126, 255, 511, 1023, 1023, 2047, 8191]
abbrev tab26_4_i : List Nat := [0, 1, 2, 3, 4, 5, 6, 7, 8, 9, 10, 11, 12, 13]
theorem tab26_4 : tabOk (regOps Try.f26 4) tab26_4_b 40 = true := by kernel_rfl
abbrev tab64_8_b : List Nat := [0, 0, 2, 6, 14, 30, 14, 78, 254, 510, 1022, 2046, 4094, 2046, 16382, 32766, 8191, 131071]
abbrev tab64_8_i : List Nat := [0, 1, 2, 3, 4, 5, 6, 7, 8, 9, 10, 11, 12, 13, 14, 15, 16, 17]
theorem tab64_8 : tabOk (regOps Try.f64 8) tab64_8_b 53 = true := by kernel_rfl
theorem zl29 : (zeroOf Try.prog 29).map (·.cells.toList) = some [.int .i64 0, .int .i64 0, .int .i64 0, .int .u8 0, .int .u8 0, .int .u8 0, .int .u8 0, .int .u8 0, .int .u8 0, .int .u8 0, .int .u8 0, .int .u8 0, .int .u8 0, .int .u8 0, .int .u8 0, .int .u8 0, .int .u8 0, .int .u8 0, .int .u8 0, .int .u8 0, .int .u8 0, .int .u8 0, .int .u8 0, .int .u8 0, .int .u8 0, .int .u8 0, .int .u8 0, .int .u8 0, .int .u8 0, .int .u8 0, .int .u8 0, .int .u8 0, .int .u8 0, .int .u8 0, .int .u8 0, .int .i64 0, .int .u8 0, .int .u8 0, .int .u8 0, .int .u8 0, .int .u8 0, .int .u8 0, .int .u8 0, .int .u8 0, .int .u8 0, .int .u8 0, .int .u8 0, .int .u8 0, .int .u8 0, .int .u8 0, .int .u8 0, .int .u8 0, .int .u8 0, .int .u8 0, .int .u8 0, .int .u8 0, .int .u8 0, .int .u8 0, .int .u8 0, .int .u8 0, .int .u8 0, .int .u8 0, .int .u8 0, .int .u8 0, .int .u8 0, .int .u8 0, .int .u8 0, .int .u8 0, .int .i64 0, .int .i64 0, .int .i64 0, .int .i64 0, .int .u8 0, .int .u8 0, .int .u8 0, .int .u8 0, .int .u8 0, .int .u8 0, .int .u8 0, .int .u8 0, .int .u8 0, .int .u8 0, .int .u8 0, .int .u8 0, .int .u8 0, .int .u8 0, .int .u8 0, .int .u8 0, .int .u8 0, .int .u8 0, .int .u8 0, .int .u8 0, .int .u8 0, .int .u8 0, .int .u8 0, .int .u8 0, .int .u8 0, .int .u8 0, .int .u8 0, .int .u8 0, .int .u8 0, .int .u8 0, .int .u8 0, .int .u8 0, .int .u8 0, .int .u8 0, .int .u8 0, .int .u8 0, .int .u8 0, .int .u8 0, .int .u8 0, .int .u8 0, .int .u8 0, .int .u8 0, .int .u8 0, .int .u8 0, .int .u8 0, .int .u8 0, .int .u8 0, .int .u8 0, .int .u8 0, .int .u8 0, .int .u8 0, .int .u8 0, .int .u8 0, .int .u8 0, .int .u8 0, .int .u8 0, .int .u8 0, .int .u8 0, .int .u8 0, .int .u8 0, .int .u8 0, .int .u8 0, .int .u8 0, .int .u8 0] := by kernel_rfl
end Go.Rill.T
end
section
namespace Go.Rill.T
open Go.Proofs
theorem by3 : tyBytes' Try.prog 3 8 = true := by kernel_rfl
theorem by30 : tyBytes' Try.prog 30 24 = true := by kernel_rfl
abbrev tab24_3_b : List Nat := [0, 1, 0, 0, 8, 31, 63, 127, 255]
abbrev tab24_3_i : List Nat := [0, 1, 2, 3, 4, 5, 6, 7, 8]
theorem tab24_3 : tabOk (regOps Try.f24 3) tab24_3_b 17 = true := by kernel_rfl
theorem ts85 : tyStruct Try.prog 85 [1, 1, 1, 1, 1, 1, 1] [.slice none 0 0, .map none, .bool false, .int .i64 0, .bool false, .int .i64 0, .slice none 0 0] = true := by kernel_rfl
theorem zc3 : (zeroOf Try.prog 3).map (·.cells) = some #[.int .i64 0] := by kernel_rfl
theorem zc30 : (zeroOf Try.prog 30).map (·.cells) = some #[.slice none 0 0] := by kernel_rfl
theorem zeroL85 : zeroOf Try.prog 85 = some (.agg [.slice none 0 0, .map none, .bool false, .int .i64 0, .bool false, .int .i64 0, .slice none 0 0].toArray) := by kernel_rfl
theorem zt3 : tyZero Try.prog 3 1 = true := by kernel_rfl
theorem zt30 : tyZero Try.prog 30 1 = true := by kernel_rfl
end Go.Rill.T
end
section
namespace Go.Rill.T
open Go.Proofs
theorem agg96 : tyAgg Try.prog 96 5 = true := by kernel_rfl
theorem fld96_0 : tyFld Try.prog 96 0 0 = true := by kernel_rfl
theorem fld96_1 : tyFld Try.prog 96 1 1 = true := by kernel_rfl
theorem fld96_2 : tyFld Try.prog 96 2 2 = true := by kernel_rfl
theorem fld96_3 : tyFld Try.prog 96 3 3 = true := by kernel_rfl
theorem fld96_4 : tyFld Try.prog 96 4 4 = true := by kernel_rfl
theorem fn134 : goFn Try.prog 134 = true := by kernel_rfl
theorem fn135 : goFn Try.prog 135 = true := by kernel_rfl
theorem fn88 : goFn Try.prog 88 = true := by kernel_rfl
theorem fn89 : goFn Try.prog 89 = true := by kernel_rfl
theorem fn94 : goFn Try.prog 94 = true := by kernel_rfl
theorem meth51_Open : tyMeth Try.prog 51 "Open" 134 = true := by kernel_rfl
theorem meth51_Seal : tyMeth Try.prog 51 "Seal" 135 = true := by kernel_rfl
theorem size96 : tySize Try.prog 96 5 = true := by kernel_rfl
abbrev tab61_8_b : List Nat := [0, 1, 3, 7, 0, 16, 63, 0, 128, 511, 1023]
abbrev tab61_8_i : List Nat := [0, 1, 2, 3, 4, 5, 6, 7, 8, 9, 10]
theorem tab61_8 : tabOk (regOps Try.f61 8) tab61_8_b 56 = true := by kernel_rfl
abbrev tab61_9_b : List Nat := [0, 0, 0, 4, 0, 16, 0, 64, 0, 256, 960, 0, 2048, 2, 8194, 24578, 65534, 131071, 262143, 524287]
abbrev tab61_9_i : List Nat := [0, 1, 2, 3, 4, 5, 6, 7, 8, 9, 10, 11, 12, 13, 14, 15, 16, 17, 18, 19]
theorem tab61_9 : tabOk (regOps Try.f61 9) tab61_9_b 56 = true := by kernel_rfl
abbrev tab90_11_b : List Nat := [0, 0, 2, 0, 8, 0, 0, 96, 0, 256, 1, 1025, 3073, 8191, 16383, 32767, 32767, 65535, 262143]
abbrev tab90_11_i : List Nat := [0, 1, 2, 3, 4, 5, 6, 7, 8, 9, 10, 11, 12, 13, 14, 15, 16, 17, 18]
theorem tab90_11 : tabOk (regOps Try.f90 11) tab90_11_b 75 = true := by kernel_rfl
theorem ts96 : tyStruct Try.prog 96 [1, 1, 1, 1, 1] [.int .i64 0, .int .i64 0, .int .i64 0, .int .i64 0, .slice none 0 0] = true := by kernel_rfl
theorem zero96 : zeroOf Try.prog 96 = some (.agg #[.int .i64 0, .int .i64 0, .int .i64 0, .int .i64 0, .slice none 0 0]) := by kernel_rfl
theorem zeroL96 : zeroOf Try.prog 96 = some (.agg [.int .i64 0, .int .i64 0, .int .i64 0, .int .i64 0, .slice none 0 0].toArray) := by kernel_rfl
end Go.Rill.T
end
section
namespace Go.Rill.T
open Go.Proofs
theorem agg170 : tyAgg Try.prog 170 4 = true := by kernel_rfl
theorem by170 : tyBytes' Try.prog 170 48 = true := by kernel_rfl
theorem fld90_0 : tyFld Try.prog 90 0 0 = true := by kernel_rfl
theorem fld90_1 : tyFld Try.prog 90 1 1 = true := by kernel_rfl
theorem fn137 : goFn Try.prog 137 = true := by kernel_rfl
theorem fn138 : goFn Try.prog 138 = true := by kernel_rfl
theorem fn139 : goFn Try.prog 139 = true := by kernel_rfl
theorem fn140 : goFn Try.prog 140 = true := by kernel_rfl
theorem namesM : tyNames Try.prog 86 170 3 = true := by kernel_rfl
theorem one86 : tyOne Try.prog 86 = true := by kernel_rfl
theorem one88 : tyOne Try.prog 88 = true := by kernel_rfl
theorem size170 : tySize Try.prog 170 4 = true := by kernel_rfl
theorem size88 : tySize Try.prog 88 1 = true := by kernel_rfl
theorem slice88 : tySlice Try.prog 88 170 = true := by kernel_rfl
theorem strT : Try.prog.underlying 9 = some .string := by kernel_rfl
abbrev tab134_3_b : List Nat := [0, 0, 2, 6, 15, 0, 0, 64, 192, 480, 31, 2047]
abbrev tab134_3_i : List Nat := [0, 1, 2, 3, 4, 5, 6, 7, 8, 9, 10, 11]
theorem tab134_3 : tabOk (regOps Try.f134 3) tab134_3_b 58 = true := by kernel_rfl
abbrev tab134_4_b : List Nat := [0, 1, 3, 7, 0, 0, 0, 64, 0, 256, 1008, 2047, 4095, 8191, 8191, 16383, 65535]
abbrev tab134_4_i : List Nat := [0, 1, 2, 3, 4, 5, 6, 7, 8, 9, 10, 11, 12, 13, 14, 15, 16]
theorem tab134_4 : tabOk (regOps Try.f134 4) tab134_4_b 58 = true := by kernel_rfl
abbrev tab134_5_b : List Nat := [0, 1, 3, 7, 7, 7, 39, 119, 247, 511, 1023, 2047]
abbrev tab134_5_i : List Nat := [0, 1, 2, 3, 4, 5, 6, 7, 8, 9, 10, 11]
theorem tab134_5 : tabOk (regOps Try.f134 5) tab134_5_b 58 = true := by kernel_rfl
abbrev tab135_4_b : List Nat := [0, 1, 3, 7, 0, 31, 63, 127, 127, 255, 1023]
abbrev tab135_4_i : List Nat := [0, 1, 2, 3, 4, 5, 6, 7, 8, 9, 10]
theorem tab135_4 : tabOk (regOps Try.f135 4) tab135_4_b 67 = true := by kernel_rfl
abbrev tab135_6_b : List Nat := [0, 0, 2, 6, 14, 0, 32, 126, 255, 511, 1023]
theorem tab135_6 : tabOk (regOps Try.f135 6) tab135_6_b 67 = true := by kernel_rfl
abbrev tab135_6_j : List Nat := [0, 1, 2, 3, 4, 5, 6, 7, 8, 9]
abbrev tab135_8_b : List Nat := [0, 1, 3, 7, 0, 0, 63]
theorem tab135_8 : tabOk (regOps Try.f135 8) tab135_8_b 67 = true := by kernel_rfl
abbrev tab135_8_j : List Nat := [0, 1, 2, 3, 4, 5]
abbrev tab135_9_b : List Nat := [0, 0, 0, 4, 15, 31, 63]
abbrev tab135_9_i : List Nat := [0, 1, 2, 3, 4, 5, 6]
theorem tab135_9 : tabOk (regOps Try.f135 9) tab135_9_b 67 = true := by kernel_rfl
theorem ts170 : tyStruct Try.prog 170 [1, 1, 1, 1] [.int .i64 0, .int .i64 0, .string .empty, .string .empty] = true := by kernel_rfl
theorem ts90 : tyStruct Try.prog 90 [1, 1, 1] [.map none, .slice none 0 0, .map none] = true := by kernel_rfl
theorem u8T : Try.prog.underlying 5 = some (.int .u8) := by kernel_rfl
theorem zero170 : zeroOf Try.prog 170 = some (.agg #[.int .i64 0, .int .i64 0, .string .empty, .string .empty]) := by kernel_rfl
theorem zero3 : zeroOf Try.prog 3 = some (.int .i64 0) := by kernel_rfl
theorem zeroL170 : zeroOf Try.prog 170 = some (.agg [.int .i64 0, .int .i64 0, .string .empty, .string .empty].toArray) := by kernel_rfl
theorem zeroL90 : zeroOf Try.prog 90 = some (.agg [.map none, .slice none 0 0, .map none].toArray) := by kernel_rfl
theorem zl170 : (zeroOf Try.prog 170).map (·.cells.toList) = some [.int .i64 0, .int .i64 0, .string .empty, .string .empty] := by kernel_rfl
theorem zl30 : (zeroOf Try.prog 30).map (·.cells.toList) = some [.slice none 0 0] := by kernel_rfl
theorem zt170 : tyZero Try.prog 170 4 = true := by kernel_rfl
end Go.Rill.T
end
section
namespace Go.Rill.T
open Go.Proofs
theorem fn141 : goFn Try.prog 141 = true := by kernel_rfl
theorem intT : Try.prog.underlying 3 = some (.int .i64) := by kernel_rfl
end Go.Rill.T
end
section
namespace Go.Rill.T
open Go.Proofs
theorem fld85_0 : tyFld Try.prog 85 0 0 = true := by kernel_rfl
theorem fld85_1 : tyFld Try.prog 85 1 1 = true := by kernel_rfl
theorem fld85_2 : tyFld Try.prog 85 2 2 = true := by kernel_rfl
theorem fld85_3 : tyFld Try.prog 85 3 3 = true := by kernel_rfl
theorem fld85_4 : tyFld Try.prog 85 4 4 = true := by kernel_rfl
theorem fld85_5 : tyFld Try.prog 85 5 5 = true := by kernel_rfl
theorem fld85_6 : tyFld Try.prog 85 6 6 = true := by kernel_rfl
theorem fn65 : goFn Try.prog 65 = true := by kernel_rfl
theorem fn67 : goFn Try.prog 67 = true := by kernel_rfl
theorem fn68 : goFn Try.prog 68 = true := by kernel_rfl
theorem fn70 : goFn Try.prog 70 = true := by kernel_rfl
theorem map83 : tyMap Try.prog 83 3 30 = true := by kernel_rfl
theorem one58 : tyOne Try.prog 58 = true := by kernel_rfl
theorem one65 : tyOne Try.prog 65 = true := by kernel_rfl
theorem one83 : tyOne Try.prog 83 = true := by kernel_rfl
theorem slice65 : tySlice Try.prog 65 30 = true := by kernel_rfl
abbrev tab63_9_b : List Nat := [0, 1, 3, 7, 0, 0, 32, 127]
theorem tab63_9 : tabOk (regOps Try.f63 9) tab63_9_b 39 = true := by kernel_rfl
abbrev tab63_9_j : List Nat := [0, 1, 2, 3, 4, 5, 6]
theorem zero30 : zeroOf Try.prog 30 = some (.slice none 0 0) := by kernel_rfl
end Go.Rill.T
end
section
namespace Go.Rill.T
open Go.Proofs
abbrev tab137_6_b : List Nat := [0, 0, 3, 7, 0, 0, 48, 112, 255]
abbrev tab137_6_i : List Nat := [0, 1, 2, 3, 4, 5, 6, 7, 8]
theorem tab137_6 : tabOk (regOps Try.f137 6) tab137_6_b 26 = true := by kernel_rfl
end Go.Rill.T
end
section
namespace Go.Rill.T
open Go.Proofs
end Go.Rill.T
end
section
namespace Go.Rill.T
open Go.Proofs
end Go.Rill.T
end
section
namespace Go.Rill.T
open Go.Proofs
end Go.Rill.T
end
section
namespace Go.Rill.T
open Go.Proofs
theorem fn47 : goFn Try.prog 47 = true := by kernel_rfl
theorem fn48 : goFn Try.prog 48 = true := by kernel_rfl
theorem fn49 : goFn Try.prog 49 = true := by kernel_rfl
theorem fn50 : goFn Try.prog 50 = true := by kernel_rfl
theorem fn51 : goFn Try.prog 51 = true := by kernel_rfl
theorem size27 : tySize Try.prog 27 2 = true := by kernel_rfl
theorem size29 : tySize Try.prog 29 136 = true := by kernel_rfl
theorem ts27 : tyStruct Try.prog 27 [1, 1] [.int .i64 0, .int .i64 0] = true := by kernel_rfl
theorem ts29 : tyStruct Try.prog 29 [1, 1, 1, 32, 33, 2, 2, 32, 32] [.int .i64 0, .int .i64 0, .int .i64 0, .int .u8 0, .int .u8 0, .int .u8 0, .int .u8 0, .int .u8 0, .int .u8 0, .int .u8 0, .int .u8 0, .int .u8 0, .int .u8 0, .int .u8 0, .int .u8 0, .int .u8 0, .int .u8 0, .int .u8 0, .int .u8 0, .int .u8 0, .int .u8 0, .int .u8 0, .int .u8 0, .int .u8 0, .int .u8 0, .int .u8 0, .int .u8 0, .int .u8 0, .int .u8 0, .int .u8 0, .int .u8 0, .int .u8 0, .int .u8 0, .int .u8 0, .int .u8 0, .int .i64 0, .int .u8 0, .int .u8 0, .int .u8 0, .int .u8 0, .int .u8 0, .int .u8 0, .int .u8 0, .int .u8 0, .int .u8 0, .int .u8 0, .int .u8 0, .int .u8 0, .int .u8 0, .int .u8 0, .int .u8 0, .int .u8 0, .int .u8 0, .int .u8 0, .int .u8 0, .int .u8 0, .int .u8 0, .int .u8 0, .int .u8 0, .int .u8 0, .int .u8 0, .int .u8 0, .int .u8 0, .int .u8 0, .int .u8 0, .int .u8 0, .int .u8 0, .int .u8 0, .int .i64 0, .int .i64 0, .int .i64 0, .int .i64 0, .int .u8 0, .int .u8 0, .int .u8 0, .int .u8 0, .int .u8 0, .int .u8 0, .int .u8 0, .int .u8 0, .int .u8 0, .int .u8 0, .int .u8 0, .int .u8 0, .int .u8 0, .int .u8 0, .int .u8 0, .int .u8 0, .int .u8 0, .int .u8 0, .int .u8 0, .int .u8 0, .int .u8 0, .int .u8 0, .int .u8 0, .int .u8 0, .int .u8 0, .int .u8 0, .int .u8 0, .int .u8 0, .int .u8 0, .int .u8 0, .int .u8 0, .int .u8 0, .int .u8 0, .int .u8 0, .int .u8 0, .int .u8 0, .int .u8 0, .int .u8 0, .int .u8 0, .int .u8 0, .int .u8 0, .int .u8 0, .int .u8 0, .int .u8 0, .int .u8 0, .int .u8 0, .int .u8 0, .int .u8 0, .int .u8 0, .int .u8 0, .int .u8 0, .int .u8 0, .int .u8 0, .int .u8 0, .int .u8 0, .int .u8 0, .int .u8 0, .int .u8 0, .int .u8 0, .int .u8 0, .int .u8 0, .int .u8 0, .int .u8 0, .int .u8 0] = true := by kernel_rfl
theorem zero29 : zeroOf Try.prog 29 = some (.agg #[.int .i64 0, .int .i64 0, .int .i64 0, .int .u8 0, .int .u8 0, .int .u8 0, .int .u8 0, .int .u8 0, .int .u8 0, .int .u8 0, .int .u8 0, .int .u8 0, .int .u8 0, .int .u8 0, .int .u8 0, .int .u8 0, .int .u8 0, .int .u8 0, .int .u8 0, .int .u8 0, .int .u8 0, .int .u8 0, .int .u8 0, .int .u8 0, .int .u8 0, .int .u8 0, .int .u8 0, .int .u8 0, .int .u8 0, .int .u8 0, .int .u8 0, .int .u8 0, .int .u8 0, .int .u8 0, .int .u8 0, .int .i64 0, .int .u8 0, .int .u8 0, .int .u8 0, .int .u8 0, .int .u8 0, .int .u8 0, .int .u8 0, .int .u8 0, .int .u8 0, .int .u8 0, .int .u8 0, .int .u8 0, .int .u8 0, .int .u8 0, .int .u8 0, .int .u8 0, .int .u8 0, .int .u8 0, .int .u8 0, .int .u8 0, .int .u8 0, .int .u8 0, .int .u8 0, .int .u8 0, .int .u8 0, .int .u8 0, .int .u8 0, .int .u8 0, .int .u8 0, .int .u8 0, .int .u8 0, .int .u8 0, .int .i64 0, .int .i64 0, .int .i64 0, .int .i64 0, .int .u8 0, .int .u8 0, .int .u8 0, .int .u8 0, .int .u8 0, .int .u8 0, .int .u8 0, .int .u8 0, .int .u8 0, .int .u8 0, .int .u8 0, .int .u8 0, .int .u8 0, .int .u8 0, .int .u8 0, .int .u8 0, .int .u8 0, .int .u8 0, .int .u8 0, .int .u8 0, .int .u8 0, .int .u8 0, .int .u8 0, .int .u8 0, .int .u8 0, .int .u8 0, .int .u8 0, .int .u8 0, .int .u8 0, .int .u8 0, .int .u8 0, .int .u8 0, .int .u8 0, .int .u8 0, .int .u8 0, .int .u8 0, .int .u8 0, .int .u8 0, .int .u8 0, .int .u8 0, .int .u8 0, .int .u8 0, .int .u8 0, .int .u8 0, .int .u8 0, .int .u8 0, .int .u8 0, .int .u8 0, .int .u8 0, .int .u8 0, .int .u8 0, .int .u8 0, .int .u8 0, .int .u8 0, .int .u8 0, .int .u8 0, .int .u8 0, .int .u8 0, .int .u8 0, .int .u8 0, .int .u8 0, .int .u8 0, .int .u8 0, .int .u8 0]) := by kernel_rfl
theorem zeroL27 : zeroOf Try.prog 27 = some (.agg [.int .i64 0, .int .i64 0].toArray) := by kernel_rfl
theorem zeroL29 : zeroOf Try.prog 29 = some (.agg [.int .i64 0, .int .i64 0, .int .i64 0, .int .u8 0, .int .u8 0, .int .u8 0, .int .u8 0, .int .u8 0, .int .u8 0, .int .u8 0, .int .u8 0, .int .u8 0, .int .u8 0, .int .u8 0, .int .u8 0, .int .u8 0, .int .u8 0, .int .u8 0, .int .u8 0, .int .u8 0, .int .u8 0, .int .u8 0, .int .u8 0, .int .u8 0, .int .u8 0, .int .u8 0, .int .u8 0, .int .u8 0, .int .u8 0, .int .u8 0, .int .u8 0, .int .u8 0, .int .u8 0, .int .u8 0, .int .u8 0, .int .i64 0, .int .u8 0, .int .u8 0, .int .u8 0, .int .u8 0, .int .u8 0, .int .u8 0, .int .u8 0, .int .u8 0, .int .u8 0, .int .u8 0, .int .u8 0, .int .u8 0, .int .u8 0, .int .u8 0, .int .u8 0, .int .u8 0, .int .u8 0, .int .u8 0, .int .u8 0, .int .u8 0, .int .u8 0, .int .u8 0, .int .u8 0, .int .u8 0, .int .u8 0, .int .u8 0, .int .u8 0, .int .u8 0, .int .u8 0, .int .u8 0, .int .u8 0, .int .u8 0, .int .i64 0, .int .i64 0, .int .i64 0, .int .i64 0, .int .u8 0, .int .u8 0, .int .u8 0, .int .u8 0, .int .u8 0, .int .u8 0, .int .u8 0, .int .u8 0, .int .u8 0, .int .u8 0, .int .u8 0, .int .u8 0, .int .u8 0, .int .u8 0, .int .u8 0, .int .u8 0, .int .u8 0, .int .u8 0, .int .u8 0, .int .u8 0, .int .u8 0, .int .u8 0, .int .u8 0, .int .u8 0, .int .u8 0, .int .u8 0, .int .u8 0, .int .u8 0, .int .u8 0, .int .u8 0, .int .u8 0, .int .u8 0, .int .u8 0, .int .u8 0, .int .u8 0, .int .u8 0, .int .u8 0, .int .u8 0, .int .u8 0, .int .u8 0, .int .u8 0, .int .u8 0, .int .u8 0, .int .u8 0, .int .u8 0, .int .u8 0, .int .u8 0, .int .u8 0, .int .u8 0, .int .u8 0, .int .u8 0, .int .u8 0, .int .u8 0, .int .u8 0, .int .u8 0, .int .u8 0, .int .u8 0, .int .u8 0, .int .u8 0, .int .u8 0, .int .u8 0, .int .u8 0, .int .u8 0, .int .u8 0].toArray) := by kernel_rfl
end Go.Rill.T
end
section
namespace Go.Rill.T
open Go.Proofs
end Go.Rill.T
end
section
namespace Go.Rill.T
open Go.Proofs
end Go.Rill.T
end
section
namespace Go.Rill.T
open Go.Proofs
theorem agg29 : tyAgg Try.prog 29 136 = true := by kernel_rfl
theorem fld29_3 : tyFld Try.prog 29 3 3 = true := by kernel_rfl
theorem fld29_7 : tyFld Try.prog 29 7 72 = true := by kernel_rfl
theorem fld29_8 : tyFld Try.prog 29 8 104 = true := by kernel_rfl
theorem fn38 : goFn Try.prog 38 = true := by kernel_rfl
theorem fn40 : goFn Try.prog 40 = true := by kernel_rfl
theorem fn42 : goFn Try.prog 42 = true := by kernel_rfl
abbrev tab11_3_b : List Nat := [0, 1, 3, 0, 8, 31, 0, 64, 255, 511]
abbrev tab11_3_i : List Nat := [0, 1, 2, 3, 4, 5, 6, 7, 8, 9]
theorem tab11_3 : tabOk (regOps Try.f11 3) tab11_3_b 38 = true := by kernel_rfl
abbrev tab11_4_b : List Nat := [0, 0, 2, 7, 0, 16, 63, 127]
abbrev tab11_4_i : List Nat := [0, 1, 2, 3, 4, 5, 6, 7]
theorem tab11_4 : tabOk (regOps Try.f11 4) tab11_4_b 38 = true := by kernel_rfl
abbrev tab11_5_b : List Nat := [0, 0, 2, 7, 0, 16, 63, 127]
abbrev tab11_5_i : List Nat := [0, 1, 2, 3, 4, 5, 6, 7]
theorem tab11_5 : tabOk (regOps Try.f11 5) tab11_5_b 38 = true := by kernel_rfl
abbrev tab11_6_b : List Nat := [0, 0, 2, 7, 0, 16, 63, 127, 255]
abbrev tab11_6_i : List Nat := [0, 1, 2, 3, 4, 5, 6, 7, 8]
theorem tab11_6 : tabOk (regOps Try.f11 6) tab11_6_b 38 = true := by kernel_rfl
abbrev tab42_1_b : List Nat := [0, 0, 2, 7, 0, 16, 63, 127]
abbrev tab42_1_i : List Nat := [0, 1, 2, 3, 4, 5, 6, 7]
theorem tab42_1 : tabOk (regOps Try.f42 1) tab42_1_b 12 = true := by kernel_rfl
end Go.Rill.T
end
section
namespace Go.Rill.T
open Go.Proofs
theorem agg27 : tyAgg Try.prog 27 2 = true := by kernel_rfl
theorem flat25 : tyFlat Try.prog 25 ([.i64] ++ List.replicate 32 .u8) = true := by kernel_rfl
theorem fld27_0 : tyFld Try.prog 27 0 0 = true := by kernel_rfl
theorem fld27_1 : tyFld Try.prog 27 1 1 = true := by kernel_rfl
theorem fld29_0 : tyFld Try.prog 29 0 0 = true := by kernel_rfl
theorem fld29_1 : tyFld Try.prog 29 1 1 = true := by kernel_rfl
theorem fld29_2 : tyFld Try.prog 29 2 2 = true := by kernel_rfl
theorem fld29_4 : tyFld Try.prog 29 4 35 = true := by kernel_rfl
theorem fld29_5 : tyFld Try.prog 29 5 68 = true := by kernel_rfl
theorem fld29_6 : tyFld Try.prog 29 6 70 = true := by kernel_rfl
theorem fn71 : goFn Try.prog 71 = true := by kernel_rfl
theorem fn72 : goFn Try.prog 72 = true := by kernel_rfl
theorem fn73 : goFn Try.prog 73 = true := by kernel_rfl
theorem fn74 : goFn Try.prog 74 = true := by kernel_rfl
theorem fn93 : goFn Try.prog 93 = true := by kernel_rfl
theorem size3 : tySize Try.prog 3 1 = true := by kernel_rfl
theorem slice58 : tySlice Try.prog 58 3 = true := by kernel_rfl
theorem zl3 : (zeroOf Try.prog 3).map (·.cells.toList) = some [.int .i64 0] := by kernel_rfl
end Go.Rill.T
end
section
namespace Go.Rill.T
open Go.Proofs
theorem agg25 : tyAgg Try.prog 25 33 = true := by kernel_rfl
theorem fld110_0 : tyFld Try.prog 110 0 0 = true := by kernel_rfl
theorem fld110_1 : tyFld Try.prog 110 1 1 = true := by kernel_rfl
theorem fn79 : goFn Try.prog 79 = true := by kernel_rfl
theorem fn80 : goFn Try.prog 80 = true := by kernel_rfl
theorem fn81 : goFn Try.prog 81 = true := by kernel_rfl
theorem fn82 : goFn Try.prog 82 = true := by kernel_rfl
theorem fn83 : goFn Try.prog 83 = true := by kernel_rfl
theorem fn84 : goFn Try.prog 84 = true := by kernel_rfl
theorem one30 : tyOne Try.prog 30 = true := by kernel_rfl
theorem one4 : tyOne Try.prog 4 = true := by kernel_rfl
theorem one5 : tyOne Try.prog 5 = true := by kernel_rfl
theorem size23 : tySize Try.prog 23 32 = true := by kernel_rfl
theorem size25 : tySize Try.prog 25 33 = true := by kernel_rfl
theorem size30 : tySize Try.prog 30 1 = true := by kernel_rfl
theorem size4 : tySize Try.prog 4 1 = true := by kernel_rfl
abbrev tab84_1_b : List Nat := [0, 1, 3, 0, 8, 31, 63, 127]
theorem tab84_1 : tabOk (regOps Try.f84 1) tab84_1_b 10 = true := by kernel_rfl
abbrev tab84_1_j : List Nat := [0, 1, 2, 3, 4, 5, 6]
theorem ts110 : tyStruct Try.prog 110 [1, 1] [.slice none 0 0, .bool false] = true := by kernel_rfl
theorem ts25 : tyStruct Try.prog 25 [1, 32] [.int .i64 0, .int .u8 0, .int .u8 0, .int .u8 0, .int .u8 0, .int .u8 0, .int .u8 0, .int .u8 0, .int .u8 0, .int .u8 0, .int .u8 0, .int .u8 0, .int .u8 0, .int .u8 0, .int .u8 0, .int .u8 0, .int .u8 0, .int .u8 0, .int .u8 0, .int .u8 0, .int .u8 0, .int .u8 0, .int .u8 0, .int .u8 0, .int .u8 0, .int .u8 0, .int .u8 0, .int .u8 0, .int .u8 0, .int .u8 0, .int .u8 0, .int .u8 0, .int .u8 0] = true := by kernel_rfl
theorem zero23 : zeroOf Try.prog 23 = some (.agg #[.int .u8 0, .int .u8 0, .int .u8 0, .int .u8 0, .int .u8 0, .int .u8 0, .int .u8 0, .int .u8 0, .int .u8 0, .int .u8 0, .int .u8 0, .int .u8 0, .int .u8 0, .int .u8 0, .int .u8 0, .int .u8 0, .int .u8 0, .int .u8 0, .int .u8 0, .int .u8 0, .int .u8 0, .int .u8 0, .int .u8 0, .int .u8 0, .int .u8 0, .int .u8 0, .int .u8 0, .int .u8 0, .int .u8 0, .int .u8 0, .int .u8 0, .int .u8 0]) := by kernel_rfl
theorem zero25 : zeroOf Try.prog 25 = some (.agg #[.int .i64 0, .int .u8 0, .int .u8 0, .int .u8 0, .int .u8 0, .int .u8 0, .int .u8 0, .int .u8 0, .int .u8 0, .int .u8 0, .int .u8 0, .int .u8 0, .int .u8 0, .int .u8 0, .int .u8 0, .int .u8 0, .int .u8 0, .int .u8 0, .int .u8 0, .int .u8 0, .int .u8 0, .int .u8 0, .int .u8 0, .int .u8 0, .int .u8 0, .int .u8 0, .int .u8 0, .int .u8 0, .int .u8 0, .int .u8 0, .int .u8 0, .int .u8 0, .int .u8 0]) := by kernel_rfl
theorem zeroL110 : zeroOf Try.prog 110 = some (.agg [.slice none 0 0, .bool false].toArray) := by kernel_rfl
theorem zeroL25 : zeroOf Try.prog 25 = some (.agg [.int .i64 0, .int .u8 0, .int .u8 0, .int .u8 0, .int .u8 0, .int .u8 0, .int .u8 0, .int .u8 0, .int .u8 0, .int .u8 0, .int .u8 0, .int .u8 0, .int .u8 0, .int .u8 0, .int .u8 0, .int .u8 0, .int .u8 0, .int .u8 0, .int .u8 0, .int .u8 0, .int .u8 0, .int .u8 0, .int .u8 0, .int .u8 0, .int .u8 0, .int .u8 0, .int .u8 0, .int .u8 0, .int .u8 0, .int .u8 0, .int .u8 0, .int .u8 0, .int .u8 0].toArray) := by kernel_rfl
end Go.Rill.T
end
section
namespace Go.Rill.T
open Go.Proofs
theorem agg23 : tyAgg Try.prog 23 32 = true := by kernel_rfl
theorem arr23 : tyArr Try.prog 23 5 32 = true := by kernel_rfl
theorem by5 : tyBytes' Try.prog 5 1 = true := by kernel_rfl
theorem fld25_0 : tyFld Try.prog 25 0 0 = true := by kernel_rfl
theorem fld25_1 : tyFld Try.prog 25 1 1 = true := by kernel_rfl
theorem fn39 : goFn Try.prog 39 = true := by kernel_rfl
theorem fn41 : goFn Try.prog 41 = true := by kernel_rfl
theorem fn75 : goFn Try.prog 75 = true := by kernel_rfl
theorem fn76 : goFn Try.prog 76 = true := by kernel_rfl
theorem mixed : Try.prog.follows .mixedOrders = true := by kernel_rfl
theorem one3 : tyOne Try.prog 3 = true := by kernel_rfl
theorem size5 : tySize Try.prog 5 1 = true := by kernel_rfl
theorem slice30 : tySlice Try.prog 30 5 = true := by kernel_rfl
abbrev tab40_1_b : List Nat := [0, 0, 2, 7, 0, 16, 63, 127]
abbrev tab40_1_i : List Nat := [0, 1, 2, 3, 4, 5, 6, 7]
theorem tab40_1 : tabOk (regOps Try.f40 1) tab40_1_b 12 = true := by kernel_rfl
theorem zc5 : (zeroOf Try.prog 5).map (·.cells) = some #[.int .u8 0] := by kernel_rfl
theorem zl5 : (zeroOf Try.prog 5).map (·.cells.toList) = some [.int .u8 0] := by kernel_rfl
theorem zt5 : tyZero Try.prog 5 1 = true := by kernel_rfl
end Go.Rill.T
end
section
namespace Go.Proofs.Ytnojooafgehhaaa.K
open Go.RowKit Go.Rill Go.Proofs
set_option linter.unusedVariables false
theorem wrap_u64 (x : Int) : IntKind.u64.wrap x = x % 18446744073709551616 := rfl
theorem wrap_u8 (x : Int) : IntKind.u8.wrap x = x % 256 := rfl
theorem eight_cells (v : Int) : [Value.int .u8 (IntKind.u8.wrap (IntKind.u64.wrap v / 72057594037927936)), .int .u8 (IntKind.u8.wrap (IntKind.u64.wrap v / 281474976710656)), .int .u8 (IntKind.u8.wrap (IntKind.u64.wrap v / 1099511627776)), .int .u8 (IntKind.u8.wrap (IntKind.u64.wrap v / 4294967296)), .int .u8 (IntKind.u8.wrap (IntKind.u64.wrap v / 16777216)), .int .u8 (IntKind.u8.wrap (IntKind.u64.wrap v / 65536)), .int .u8 (IntKind.u8.wrap (IntKind.u64.wrap v / 256)), .int .u8 (IntKind.u8.wrap (IntKind.u64.wrap v))] = bc (be8 v) := by
  simp only [be8, bc, List.map_cons, List.map_nil, ofInt_toNat, wrap_u64, wrap_u8, List.cons.injEq, Value.int.injEq, true_and, and_true]
  refine ⟨?_, ?_, ?_, ?_, ?_, ?_, ?_, ?_⟩ <;> omega
set_option maxRecDepth 100000 in
theorem eight_x (v : Int) (w0 : World) : Does Try.prog 76 [.int .i64 v] w0 [] (fun s : Value => s) (fun s => [.bytes 5 s (be8 v)]) (fun _ => True) := by
  refine enter (n := 30) Try.func76 rfl rfl rfl ?_
  intro fr E
  have M : Mem w0 (feet []) [] (fun _ => True) w0 := Mem.begin (Has.nil w0) (fun _ _ => trivial)
  refine code_region ?_
  refine sv (v := _) E rfl rfl rfl rfl rfl (run_assignC rfl) fun fr E => ?_
  refine seq_nil' ?_
  refine code_region ?_
  refine sv (v := _) E rfl rfl rfl rfl rfl (run_move rfl rfl) fun fr E => ?_
  refine sv (v := .int _ (IntKind.u64.wrap v)) E rfl rfl rfl rfl rfl (num rfl (rfl)) fun fr E => ?_
  refine sv (v := _) E rfl rfl rfl rfl rfl (run_assign rfl rfl) fun fr E => ?_
  refine seq_nil' ?_
  refine code_region ?_
  refine sv (v := _) E rfl rfl rfl rfl rfl (run_move rfl rfl) fun fr E => ?_
  refine sv (v := .int _ (IntKind.u64.wrap v / 72057594037927936)) E rfl rfl rfl rfl rfl (num rfl (fd (by decide) rfl)) fun fr E => ?_
  refine sv (v := .int _ (IntKind.u8.wrap (IntKind.u64.wrap v / 72057594037927936))) E rfl rfl rfl rfl rfl (num rfl (rfl)) fun fr E => ?_
  refine sv (v := _) E rfl rfl rfl rfl rfl (run_move rfl rfl) fun fr E => ?_
  refine sv (v := .int _ (IntKind.u64.wrap v / 281474976710656)) E rfl rfl rfl rfl rfl (num rfl (fd (by decide) rfl)) fun fr E => ?_
  refine sv (v := .int _ (IntKind.u8.wrap (IntKind.u64.wrap v / 281474976710656))) E rfl rfl rfl rfl rfl (num rfl (rfl)) fun fr E => ?_
  refine sv (v := _) E rfl rfl rfl rfl rfl (run_move rfl rfl) fun fr E => ?_
  refine sv (v := .int _ (IntKind.u64.wrap v / 1099511627776)) E rfl rfl rfl rfl rfl (num rfl (fd (by decide) rfl)) fun fr E => ?_
  refine sv (v := .int _ (IntKind.u8.wrap (IntKind.u64.wrap v / 1099511627776))) E rfl rfl rfl rfl rfl (num rfl (rfl)) fun fr E => ?_
  refine sv (v := _) E rfl rfl rfl rfl rfl (run_move rfl rfl) fun fr E => ?_
  refine sv (v := .int _ (IntKind.u64.wrap v / 4294967296)) E rfl rfl rfl rfl rfl (num rfl (fd (by decide) rfl)) fun fr E => ?_
  refine sv (v := .int _ (IntKind.u8.wrap (IntKind.u64.wrap v / 4294967296))) E rfl rfl rfl rfl rfl (num rfl (rfl)) fun fr E => ?_
  refine sv (v := _) E rfl rfl rfl rfl rfl (run_move rfl rfl) fun fr E => ?_
  refine sv (v := .int _ (IntKind.u64.wrap v / 16777216)) E rfl rfl rfl rfl rfl (num rfl (fd (by decide) rfl)) fun fr E => ?_
  refine sv (v := .int _ (IntKind.u8.wrap (IntKind.u64.wrap v / 16777216))) E rfl rfl rfl rfl rfl (num rfl (rfl)) fun fr E => ?_
  refine sv (v := _) E rfl rfl rfl rfl rfl (run_move rfl rfl) fun fr E => ?_
  refine sv (v := .int _ (IntKind.u64.wrap v / 65536)) E rfl rfl rfl rfl rfl (num rfl (fd (by decide) rfl)) fun fr E => ?_
  refine sv (v := .int _ (IntKind.u8.wrap (IntKind.u64.wrap v / 65536))) E rfl rfl rfl rfl rfl (num rfl (rfl)) fun fr E => ?_
  refine sv (v := _) E rfl rfl rfl rfl rfl (run_move rfl rfl) fun fr E => ?_
  refine sv (v := .int _ (IntKind.u64.wrap v / 256)) E rfl rfl rfl rfl rfl (num rfl (fd (by decide) rfl)) fun fr E => ?_
  refine sv (v := .int _ (IntKind.u8.wrap (IntKind.u64.wrap v / 256))) E rfl rfl rfl rfl rfl (num rfl (rfl)) fun fr E => ?_
  refine sv (v := _) E rfl rfl rfl rfl rfl (run_move rfl rfl) fun fr E => ?_
  refine sv (v := .int _ (IntKind.u8.wrap (IntKind.u64.wrap v))) E rfl rfl rfl rfl rfl (num rfl (rfl)) fun fr E => ?_
  refine srow (sz := 1) (xs := bc (be8 v)) E M rfl rfl rfl rfl rfl (run_buildSliceA (us := [_, _, _, _, _, _, _, _]) (vs := [_, _, _, _, _, _, _, _]) rfl rfl rfl T.slice30 T.size5 T.zl5 rfl rfl rfl rfl rfl) (rfl) (Nat.le_refl _) (by decide) (eight_cells v) fun g0 fr w M E => ?_
  refine sv (v := _) E rfl rfl rfl rfl rfl (run_assign rfl rfl) fun fr E => ?_
  refine seq_nil' ?_
  refine wp_ret ?_
  refine ret1 E rfl rfl ?_
  exact ⟨_, rfl, M.fin (sub1 (i := 0) rfl) trivial⟩

set_option maxRecDepth 100000 in
theorem behind_x {b m : Value} {l k : List UInt8} {w0 : World} (hb : Bytes w0 b l) (hm : Bytes w0 m k) (hz : l.length + k.length ≤ 35184372088832) : Does Try.prog 75 [b, m] w0 [] (fun s : Value => s) (fun s => [.bytes 5 s (l ++ k)]) (fun _ => True) := by
  refine enter (n := 15) Try.func75 rfl rfl rfl ?_
  intro fr E
  have M : Mem w0 (feet []) [] (fun w' => Bytes w' b l ∧ Bytes w' m k) w0 := Mem.begin (Has.nil w0) (fun w' h => ⟨hb.held0 h, hm.held0 h⟩)
  refine code_region ?_
  refine sv (v := _) E rfl rfl rfl rfl rfl (run_assignC rfl) fun fr E => ?_
  refine seq_nil' ?_
  refine code_region ?_
  refine sv (v := _) E rfl rfl rfl rfl rfl (run_move rfl rfl) fun fr E => ?_
  refine sv (v := .int .i64 _) E rfl rfl rfl rfl rfl (run_lenR rfl rfl rfl rfl T.slice30 M.fact.1) fun fr E => ?_
  refine sv (v := _) E rfl rfl rfl rfl rfl (run_move rfl rfl) fun fr E => ?_
  refine sv (v := .int .i64 _) E rfl rfl rfl rfl rfl (run_lenR rfl rfl rfl rfl T.slice30 M.fact.2) fun fr E => ?_
  refine sv (v := .int _ (((l.length + k.length : Nat) : Int))) E rfl rfl rfl rfl rfl (num rfl ((i64_id (by omega) (by omega)).trans (by omega))) fun fr E => ?_
  refine smakeB (k := 0) (c := l.length + k.length) E M rfl rfl rfl rfl rfl rfl rfl rfl (rfl) (rfl) T.slice30 T.zt5 T.zc5 T.by5 (Nat.zero_le _) (by omega) fun g0 fr w M E => ?_
  refine sv (v := _) E rfl rfl rfl rfl rfl (run_move rfl rfl) fun fr E => ?_
  refine sappB (i := 0) E M rfl rfl rfl rfl rfl rfl rfl rfl rfl rfl rfl T.slice30 T.slice30 T.zt5 T.by5 M.fact.1 (by simp; omega) fun g0 fr w M E => ?_
  refine sv (v := _) E rfl rfl rfl rfl rfl (run_move rfl rfl) fun fr E => ?_
  refine sappB (i := 0) E M rfl rfl rfl rfl rfl rfl rfl rfl rfl rfl rfl T.slice30 T.slice30 T.zt5 T.by5 M.fact.2 (by simp; omega) fun g0 fr w M E => ?_
  refine sv (v := _) E rfl rfl rfl rfl rfl (run_assign rfl rfl) fun fr E => ?_
  refine seq_nil' ?_
  refine wp_ret ?_
  refine ret1 E rfl rfl ?_
  exact ⟨_, rfl, M.fin (sub1 (i := 0) rfl) trivial⟩

set_option maxRecDepth 100000 in
theorem Int_x {b : Value} {l : List UInt8} {w0 : World} (v : Int) (hb : Bytes w0 b l) (hz : l.length + 8 ≤ 35184372088832) : Does Try.prog 39 [b, .int .i64 v] w0 [] (fun s : Value => s) (fun s => [.bytes 5 s (l ++ be8 v)]) (fun _ => True) := by
  refine enter (n := 9) Try.func39 rfl rfl rfl ?_
  intro fr E
  have M : Mem w0 (feet []) [] (fun w' => Bytes w' b l) w0 := Mem.begin (Has.nil w0) (fun w' h => hb.held0 h)
  refine code_region ?_
  refine sv (v := _) E rfl rfl rfl rfl rfl (run_assignC rfl) fun fr E => ?_
  refine seq_nil' ?_
  refine code_region ?_
  refine sv (v := _) E rfl rfl rfl rfl rfl (run_move rfl rfl) fun fr E => ?_
  refine sv (v := _) E rfl rfl rfl rfl rfl (run_move rfl rfl) fun fr E => ?_
  refine scall E M rfl rfl rfl rfl rfl (run_call rfl rfl T.fn76) (eight_x v _) rfl ?_
  rintro s fr w - M E
  refine scall E M rfl rfl rfl rfl rfl (run_call rfl rfl T.fn75) (behind_x M.fact (M.bytes 0 rfl) hz) rfl ?_
  rintro r fr w - M E
  refine sv (v := _) E rfl rfl rfl rfl rfl (run_assign rfl rfl) fun fr E => ?_
  refine seq_nil' ?_
  refine wp_ret ?_
  refine ret1 E rfl rfl ?_
  exact ⟨_, rfl, M.fin (sub1 (i := 0) rfl) trivial⟩

set_option maxRecDepth 100000 in
theorem Sum_x {b : Value} {l s : List UInt8} {w0 : World} (hb : Bytes w0 b l) (hs : s.length = 32) (hz : l.length + 32 ≤ 35184372088832) : Does Try.prog 41 [b, .agg (bc s).toArray] w0 [] (fun s : Value => s) (fun r => [.bytes 5 r (l ++ s)]) (fun _ => True) := by
  refine enter (n := 8) Try.func41 rfl rfl rfl ?_
  intro fr E
  have M : Mem w0 (feet []) [] (fun w' => Bytes w' b l) w0 := Mem.begin (Has.nil w0) (fun w' h => hb.held0 h)
  refine code_region ?_
  refine snew (ob := .cells ((bc s).toArray) 23) (fun g => .pointer (some ⟨g, 0, none⟩)) E M rfl rfl rfl rfl rfl (run_boxN (cs := ((bc s).toArray)) rfl rfl) fun g0 fr w M E => ?_
  refine sv (v := _) E rfl rfl rfl rfl rfl (run_assignC rfl) fun fr E => ?_
  refine seq_nil' ?_
  refine code_region ?_
  refine sv (v := _) E rfl rfl rfl rfl rfl (run_move rfl rfl) fun fr E => ?_
  refine sv (v := _) E rfl rfl rfl rfl rfl (run_sliceA (g := _) (cs := #[]) (T := 0) (fr := (0, 0)) rfl rfl T.arr23 T.size5) fun fr E => ?_
  refine scall E M rfl rfl rfl rfl rfl (run_call rfl rfl T.fn75) (behind_x M.fact (k := s) (by have := M; exact hs ▸ reads_blk (M.row (i := 0) rfl) (by simp [hs]) (by rw [hs]; decide)) (by omega)) rfl ?_
  rintro r fr w - M E
  refine sv (v := _) E rfl rfl rfl rfl rfl (run_assign rfl rfl) fun fr E => ?_
  refine seq_nil' ?_
  refine wp_ret ?_
  refine ret1 E rfl rfl ?_
  exact ⟨_, rfl, M.fin (sub1 (i := 0) rfl) trivial⟩

set_option maxRecDepth 100000 in
theorem Ref_x {b : Value} {l s : List UInt8} {a : Int} {w0 : World} (hb : Bytes w0 b l) (hs : s.length = 32) (hz : l.length + 40 ≤ 35184372088832) : Does Try.prog 40 [b, .agg (.int .i64 a :: bc s).toArray] w0 [] (fun s : Value => s) (fun r => [.bytes 5 r (l ++ be8 a ++ s)]) (fun _ => True) := by
  refine enter (n := 12) Try.func40 rfl rfl rfl ?_
  intro fr E
  have M : Mem w0 (feet []) [] (fun w' => Bytes w' b l) w0 := Mem.begin (Has.nil w0) (fun w' h => hb.held0 h)
  refine code_region ?_
  refine snew (ob := .cells ((.int .i64 a :: bc s).toArray) 25) (fun g => .pointer (some ⟨g, 0, none⟩)) E M rfl rfl rfl rfl rfl (run_boxN (cs := ((.int .i64 a :: bc s).toArray)) rfl rfl) fun g0 fr w M E => ?_
  refine sv (v := _) E rfl rfl rfl rfl rfl (run_assignC rfl) fun fr E => ?_
  refine seq_nil' ?_
  refine wp_seq (free_reg (B := T.tab40_1_b) (Vs := (.exact _ :: .exact (.pointer (some ⟨_, 0, none⟩)) :: .exact (.int .i64 _) :: CameV w.heap.size (fun v => [.bytes 5 v (l ++ be8 a)]) (fun _ => True) :: .exact (.pointer (some ⟨_, 1, none⟩)) :: .exact (.agg (bc s).toArray) :: CameV w.heap.size (fun v => [.bytes 5 v (l ++ be8 a ++ s)]) (fun _ => True) :: CameV w.heap.size (fun v => [.bytes 5 v (l ++ be8 a ++ s)]) (fun _ => True) :: [])) T.tab40_1_i E T.mixed T.tab40_1 rfl (AllS.lasts ⟨trivial, trivial, trivial, LastsS.cameV, trivial, trivial, LastsS.cameV, LastsS.cameV, trivial⟩) ⟨fs_val rfl rfl (fun x w hx hk => ⟨_, _, rfl, rfl, rfl, run_move rfl rfl, Ext.refl _, rfl⟩),
      fs_val rfl rfl (fun x w hx hk => ⟨_, _, rfl, rfl, rfl, run_fieldAddr rfl rfl T.fld25_0, Ext.refl _, rfl⟩),
      fs_val rfl rfl (fun x w hx hk => ⟨_, _, rfl, rfl, rfl, run_loadB rfl rfl T.one3 ((M.ext ((Ext.drew _).trans hx)).row (i := 0) rfl) rfl, Ext.refl _, rfl⟩),
      fs_ext rfl rfl (fun x w hx hk => ⟨_, _, rfl, rfl, rfl, run_call rfl rfl T.fn39, (Int_x a (M.ext ((Ext.drew _).trans hx)).fact (by omega)).extV hx.size⟩),
      fs_val rfl rfl (fun x w hx hk => ⟨_, _, rfl, rfl, rfl, run_fieldAddr rfl rfl T.fld25_1, Ext.refl _, rfl⟩),
      fs_val rfl rfl (fun x w hx hk => ⟨_, _, rfl, rfl, rfl, run_loadN' (vs := (bc s).toArray) rfl rfl T.agg23 ((M.ext ((Ext.drew _).trans hx)).row (i := 0) rfl) (by simp [hs]) (by simp [take_all, hs]), Ext.refl _, rfl⟩),
      fs_ext rfl rfl (fun x w hx hk => ⟨_, _, rfl, rfl, rfl, run_call rfl rfl T.fn41, (Sum_x (s := s) ((hk 3 rfl).1.reads 0 rfl) hs (by simp [be8]; omega)).extV hx.size⟩),
      fs_val rfl rfl (fun x w hx hk => ⟨_, _, rfl, rfl, rfl, run_assign rfl rfl, Ext.refl _, hk 6 rfl⟩), trivial⟩ ?_)
  intro x fr w hx hk E
  have M := M.adopts hx (hk 7 (by decide)).1 (hk 7 (by decide)).2.1
  refine then_normal ?_
  refine wp_ret ?_
  refine ret1 E rfl rfl ?_
  exact ⟨_, rfl, M.fin (sub1 (i := 0) rfl) trivial⟩
end Go.Proofs.Ytnojooafgehhaaa.K
end
section
namespace Go.Proofs.Ytnojooafgehhaaa.K
open Go.RowKit Go.Rill Go.Proofs
set_option linter.unusedVariables false
set_option linter.unusedSimpArgs false
/-- What a reader tells, and what is left then. -/
def rNext (n : Nat) (s : List UInt8 × Bool) : List UInt8 × Bool := if s.2 = true ∨ s.1.length < n then (s.1, true) else (s.1.drop n, false)
def rInt (s : List UInt8 × Bool) : Int := if s.2 = true ∨ s.1.length < 8 then 0 else num64 (s.1.take 8)
def rSum (s : List UInt8 × Bool) : List UInt8 := if s.2 = true ∨ s.1.length < 32 then List.replicate 32 0 else s.1.take 32
def rRef (s : List UInt8 × Bool) : Int × List UInt8 := if s.2 = true ∨ s.1.length < 40 then (0, List.replicate 32 0) else (num64 ((s.1.take 40).take 8), (s.1.take 40).drop 8)
def rEnd (s : List UInt8 × Bool) : Int := if s.2 = true then 4 else if 0 < s.1.length then 3 else 0
theorem rSum_len (s : List UInt8 × Bool) : (rSum s).length = 32 := by unfold rSum; split <;> simp <;> omega
theorem rRef_len (s : List UInt8 × Bool) : (rRef s).2.length = 32 := by unfold rRef; split <;> simp <;> omega
/-- A reader: what is left, and whether it is bad. -/
abbrev rdr (g : Nat) (rv : Value) (l : List UInt8) (bad : Bool) : List Ent := [.blk g (.cells #[rv, .bool bad] 110 (0, 0)), .sub rv l]
set_option maxRecDepth 100000 in
theorem number_x {b : Value} {l : List UInt8} {w0 : World} (hb : Bytes w0 b l) (hz : l.length ≤ 35184372088832) : Gives Try.prog 80 [b] w0 (.int .i64 (num64 l)) := by
  refine enter (n := 20) Try.func80 rfl rfl rfl ?_
  intro fr E
  have M : Mem w0 (feet []) [] (fun w' => Bytes w' b l) w0 := Mem.begin (Has.nil w0) (fun w' h => hb.held0 h)
  refine code_region ?_
  refine sv (v := _) E rfl rfl rfl rfl rfl (run_assignC rfl) fun fr E => ?_
  refine seq_nil' ?_
  refine code_region ?_
  refine sv (v := _) E rfl rfl rfl rfl rfl (run_assignC rfl) fun fr E => ?_
  refine seq_nil' ?_
  refine wp_seq ?_
  refine code_region ?_
  refine sv (v := _) E rfl rfl rfl rfl rfl (run_move rfl rfl) fun fr E => ?_
  refine sv (v := .int .i64 _) E rfl rfl rfl rfl rfl (run_lenR rfl rfl rfl rfl T.slice30 M.fact) fun fr E => ?_
  refine sv (v := _) E rfl rfl rfl rfl rfl (run_moveC rfl) fun fr E => ?_
  refine seq_nil' ?_
  refine wp_block ?_
  refine loop_dec (fun d fr w => ∃ i : Nat, d = l.length - i ∧ i ≤ l.length ∧ Env [(8, .int .i64 i), (7, .int .i64 l.length), (6, b), (3, .int .u64 (fold64 (l.take i)))] 20 fr ∧ Mem w0 (feet []) [] (fun w' => Bytes w' b l) w) (l.length) ?_ ?_
  · refine ⟨0, rfl, Nat.zero_le _, ((((Env.nil E).add E (t := 3) rfl).add E (t := 6) rfl).add E (t := 7) rfl).add E (t := 8) rfl, M⟩
  · clear E M
    rintro d fr w ⟨i, rfl, hle, E, M⟩
    by_cases hi : i < l.length
    · refine code_region ?_
      refine sv (v := .bool true) E rfl rfl rfl rfl rfl (tst rfl (by simp <;> omega)) fun fr E => ?_
      refine seq_nil' ?_
      refine wp_seq ?_
      refine cond_true E rfl (rfl) ?_
      refine wp_skip ?_
      refine then_normal ?_
      refine wp_seq ?_
      refine wp_block ?_
      refine code_region ?_
      refine sv (v := _) E rfl rfl rfl rfl rfl (run_indexR (i := i) rfl M.fact rfl rfl (rfl) (hi) T.slice30 T.size5) fun fr E => ?_
      refine sv (v := _) E rfl rfl rfl rfl rfl (run_loadR rfl M.fact rfl T.one5 (by rw [Nat.mul_one]; exact bc_get hi)) fun fr E => ?_
      refine sv (v := _) E rfl rfl rfl rfl rfl (run_assign rfl rfl) fun fr E => ?_
      refine seq_nil' ?_
      refine code_last ?_
      refine sv (v := _) E rfl rfl rfl rfl rfl (run_move rfl rfl) fun fr E => ?_
      refine sv (v := .int .u64 _) E rfl rfl rfl rfl rfl (rfl) fun fr E => ?_
      refine sv (v := _) E rfl rfl rfl rfl rfl (run_move rfl rfl) fun fr E => ?_
      refine sv (v := .int .u64 _) E rfl rfl rfl rfl rfl (rfl) fun fr E => ?_
      refine sv (v := .int _ (fold64 (l.take (i + 1)))) E rfl rfl rfl rfl rfl (num rfl ((or_step _ _ (l[i]).toNat_lt).trans (congrArg _ (fold64_take hi).symm))) fun fr E => ?_
      refine sv (v := _) E rfl rfl rfl rfl rfl (run_assign rfl rfl) fun fr E => ?_
      refine seq_nil ?_
      refine block_normal ?_
      refine then_normal ?_
      refine code_last ?_
      refine sv (v := .int _ (((i + 1 : Nat) : Int))) E rfl rfl rfl rfl rfl (num rfl ((i64_id (by omega) (by omega)).trans (by omega))) fun fr E => ?_
      refine sv (v := _) E rfl rfl rfl rfl rfl (run_move rfl rfl) fun fr E => ?_
      refine seq_nil ?_
      refine then_any ?_
      refine ⟨l.length - (i + 1), by omega, i + 1, rfl, by omega, ((((Env.nil E).add E (t := 3) rfl).add E (t := 6) rfl).add E (t := 7) rfl).add E (t := 8) rfl, M⟩
    · obtain rfl : i = l.length := by omega
      rw [List.take_length] at E
      refine code_region ?_
      refine sv (v := .bool false) E rfl rfl rfl rfl rfl (tst rfl (by simp <;> omega)) fun fr E => ?_
      refine seq_nil' ?_
      refine wp_seq ?_
      refine cond_false E rfl (rfl) ?_
      refine wp_exit ?_
      refine then_exit ?_
      refine then_exit ?_
      refine block_exit ?_
      refine then_normal ?_
      refine code_region ?_
      refine sv (v := _) E rfl rfl rfl rfl rfl (run_move rfl rfl) fun fr E => ?_
      refine sv (v := .int _ (num64 l)) E rfl rfl rfl rfl rfl (num rfl (rfl)) fun fr E => ?_
      refine sv (v := _) E rfl rfl rfl rfl rfl (run_assign rfl rfl) fun fr E => ?_
      refine seq_nil' ?_
      refine wp_ret ?_
      refine ret1 E rfl rfl ?_
      exact given M

set_option maxRecDepth 100000 in
theorem digest_x {b : Value} {l : List UInt8} {w0 : World} (hb : Bytes w0 b l) (hl : l.length = 32) : Gives Try.prog 82 [b] w0 (.agg (bc l).toArray) := by
  refine enter (n := 6) Try.func82 rfl rfl rfl ?_
  intro fr E
  have M : Mem w0 (feet []) [] (fun w' => Bytes w' b l) w0 := Mem.begin (Has.nil w0) (fun w' h => hb.held0 h)
  refine code_region ?_
  refine snew (ob := .cells _ 23) (fun g => .pointer (some ⟨g, 0, none⟩)) E M rfl rfl rfl rfl rfl (run_allocN rfl T.zero23) fun g0 fr w M E => ?_
  refine seq_nil' ?_
  refine code_region ?_
  refine sv (v := _) E rfl rfl rfl rfl rfl (run_move rfl rfl) fun fr E => ?_
  refine sv (v := _) E rfl rfl rfl rfl rfl (run_toArrayR rfl M.fact rfl T.arr23 (by omega) (by decide)) fun fr E => ?_
  refine sv (v := .agg (bc l).toArray) E rfl rfl rfl rfl rfl (run_loadRN rfl M.fact rfl T.agg23 (by omega) (by omega) (by rw [List.drop_zero]; exact take_all (by simp [hl]))) fun fr E => ?_
  refine sset (i := 0) (cs' := (bc l).toArray) E M rfl rfl rfl rfl rfl (run_storeAll (vs := (bc l).toArray) rfl rfl rfl T.size23 (by simp [hl]) (M.row (i := 0) rfl) rfl (by simpa using bc_one l)) rfl fun fr w M E => ?_
  refine seq_nil' ?_
  refine wp_ret ?_
  refine retC E rfl rfl T.agg23 (M.row (i := 0) rfl) (by simp [hl]) ?_
  exact given M

set_option maxRecDepth 100000 in
theorem ref_x {b : Value} {l : List UInt8} {w0 : World} (hb : Bytes w0 b l) (hl : l.length = 40) : Gives Try.prog 84 [b] w0 (.agg (.int .i64 (num64 (l.take 8)) :: bc (l.drop 8)).toArray) := by
  refine enter (n := 10) Try.func84 rfl rfl rfl ?_
  intro fr E
  have M : Mem w0 (feet []) [] (fun w' => Bytes w' b l) w0 := Mem.begin (Has.nil w0) (fun w' h => hb.held0 h)
  refine code_region ?_
  refine snew (ob := .cells _ 25) (fun g => .pointer (some ⟨g, 0, none⟩)) E M rfl rfl rfl rfl rfl (run_allocN rfl T.zero25) fun g0 fr w M E => ?_
  refine seq_nil' ?_
  refine wp_seq (free_last (B := T.tab84_1_b) (Vs := (.exact _ :: .exact (cutV 1 b 0 8) :: .exact (.int .i64 _) :: .exact _ :: .exact (cutV 1 b 8 l.length) :: .exact (.agg (bc (l.drop 8)).toArray) :: .exact (.agg (Value.int .i64 (num64 (l.take 8)) :: bc (l.drop 8)).toArray) :: [])) T.tab84_1_j 7 E T.mixed T.tab84_1 rfl rfl rfl (AllS.lasts ⟨trivial, trivial, trivial, trivial, trivial, trivial, trivial, trivial⟩) ⟨fs_val rfl rfl (fun x w hx hk => ⟨_, _, rfl, rfl, rfl, run_move rfl rfl, Ext.refl _, rfl⟩),
      fs_val rfl rfl (fun x w hx hk => ⟨_, _, rfl, rfl, rfl, run_sliceR (lo := 0) (hi := 8) rfl (M.ext ((Ext.drew _).trans hx)).fact rfl T.slice30 T.size5 (rfl) (⟨_, _, rfl, rfl⟩) (by omega) (by omega), Ext.refl _, rfl⟩),
      fs_ext rfl rfl (fun x w hx hk => ⟨_, _, rfl, rfl, rfl, run_call rfl rfl T.fn80, (number_x (b := cutV 1 b 0 8) (l := l.take 8) (Bytes.pre (M.ext ((Ext.drew _).trans hx)).fact (by omega)) (by simp; omega)).ext⟩),
      fs_val rfl rfl (fun x w hx hk => ⟨_, _, rfl, rfl, rfl, run_move rfl rfl, Ext.refl _, rfl⟩),
      fs_val rfl rfl (fun x w hx hk => ⟨_, _, rfl, rfl, rfl, run_sliceR (lo := 8) (hi := l.length) rfl (M.ext ((Ext.drew _).trans hx)).fact rfl T.slice30 T.size5 (⟨_, _, rfl, rfl⟩) (rfl) (by omega) (Nat.le_refl _), Ext.refl _, rfl⟩),
      fs_ext rfl rfl (fun x w hx hk => ⟨_, _, rfl, rfl, rfl, run_call rfl rfl T.fn82, (digest_x (b := cutV 1 b 8 l.length) (l := l.drop 8) (Bytes.suf (M.ext ((Ext.drew _).trans hx)).fact (by omega)) (by simp [hl])).ext⟩),
      fs_val rfl rfl (fun x w hx hk => ⟨_, _, rfl, rfl, rfl, run_buildP (vs := [.int .i64 (num64 (l.take 8)), .agg (bc (l.drop 8)).toArray]) (us := Value.int .i64 (num64 (l.take 8)) :: bc (l.drop 8)) rfl rfl T.ts25 T.zeroL25 (by simp [Value.cells, hl]) rfl rfl (by simp [Value.cells]), Ext.refl _, rfl⟩), trivial⟩ ?_)
  intro x fr w hx hk E
  have M := M.ext hx
  refine last_set (i := 0) (cs' := (Value.int .i64 (num64 (l.take 8)) :: bc (l.drop 8)).toArray) E M rfl rfl rfl rfl rfl rfl (run_storeAll (vs := (Value.int .i64 (num64 (l.take 8)) :: bc (l.drop 8)).toArray) rfl rfl rfl T.size25 (by simp [hl]) (M.row (i := 0) rfl) rfl (by intro v hv; simp only [List.mem_cons] at hv; rcases hv with rfl | hv; rfl; exact bc_one _ v hv)) rfl fun fr w M E => ?_
  refine then_normal ?_
  refine wp_ret ?_
  refine retC E rfl rfl T.agg25 (M.row (i := 0) rfl) (by simp [hl]) ?_
  exact given M

set_option maxRecDepth 100000 in
theorem take_number_bad {g : Nat} {rv : Value} {l : List UInt8} {bad : Bool} {w0 : World} (H : Has w0 (rdr g rv l bad)) (hz : l.length ≤ 35184372088832) (hbad : bad = true) : Does Try.prog 79 [.pointer (some ⟨g, 0, none⟩), .int .i64 8, .func (.func 80) #[] #[]] w0 (rdr g rv l bad) (fun _ : Value => .int .i64 0) (fun x => rdr g x l true) (fun _ => True) := by
  refine enter (n := 44) Try.func79 rfl rfl rfl ?_
  intro fr E
  obtain ⟨rb, rc, rfl⟩ := Reads.slice (H.ents _ (List.mem_cons_of_mem _ (List.mem_singleton.2 rfl)) : Reads 1 w0 rv _ _)
  have M : Mem w0 (feet (rdr g _ l bad)) (rdr g _ l bad) (fun _ => True) w0 := Mem.begin H (fun _ _ => trivial)
  subst hbad
  refine code_region ?_
  refine sv (v := _) E rfl rfl rfl rfl rfl (run_assignC rfl) fun fr E => ?_
  refine seq_nil' ?_
  refine wp_seq ?_
  refine code_region ?_
  refine sv (v := _) E rfl rfl rfl rfl rfl (run_move rfl rfl) fun fr E => ?_
  refine sv (v := _) E rfl rfl rfl rfl rfl (run_nilCheck rfl rfl) fun fr E => ?_
  refine sv (v := .pointer (some ⟨_, 1, none⟩)) E rfl rfl rfl rfl rfl (run_fieldAddr rfl rfl T.fld110_1) fun fr E => ?_
  refine sv (v := .bool _) E rfl rfl rfl rfl rfl (run_loadB rfl rfl T.one4 (M.row (i := 0) rfl) rfl) fun fr E => ?_
  refine sv (v := _) E rfl rfl rfl rfl rfl (run_move rfl rfl) fun fr E => ?_
  refine sno E rfl rfl rfl rfl fun fr E => ?_
  refine sno E rfl rfl rfl rfl fun fr E => ?_
  refine sno E rfl rfl rfl rfl fun fr E => ?_
  refine sno E rfl rfl rfl rfl fun fr E => ?_
  refine sno E rfl rfl rfl rfl fun fr E => ?_
  refine sno E rfl rfl rfl rfl fun fr E => ?_
  refine sno E rfl rfl rfl rfl fun fr E => ?_
  refine sv (v := .bool true) E rfl rfl rfl rfl rfl (tst rfl (rfl)) fun fr E => ?_
  refine seq_nil' ?_
  refine cond_true E rfl (rfl) ?_
  refine code_region ?_
  refine sv (v := _) E rfl rfl rfl rfl rfl (run_move rfl rfl) fun fr E => ?_
  refine sv (v := _) E rfl rfl rfl rfl rfl (run_nilCheck rfl rfl) fun fr E => ?_
  refine sv (v := .pointer (some ⟨_, 1, none⟩)) E rfl rfl rfl rfl rfl (run_fieldAddr rfl rfl T.fld110_1) fun fr E => ?_
  refine sset (i := 0) (cs' := #[_, _]) E M rfl rfl rfl rfl rfl (run_store1' (v := _) rfl rfl rfl T.size4 (M.row (i := 0) rfl) (rfl) (rfl) (rfl)) rfl fun fr w M E => ?_
  refine seq_nil' ?_
  refine code_region ?_
  refine sv (v := _) E rfl rfl rfl rfl rfl (run_assignC rfl) fun fr E => ?_
  refine seq_nil' ?_
  refine code_region ?_
  refine sv (v := _) E rfl rfl rfl rfl rfl (run_move rfl rfl) fun fr E => ?_
  refine sv (v := _) E rfl rfl rfl rfl rfl (run_assign rfl rfl) fun fr E => ?_
  refine seq_nil' ?_
  refine wp_ret ?_
  refine then_ret ?_
  refine ret1 E rfl rfl ?_
  exact ⟨_, rfl, M.fin (List.Sublist.refl _) trivial⟩

set_option maxRecDepth 100000 in
theorem take_number_short {g : Nat} {rv : Value} {l : List UInt8} {bad : Bool} {w0 : World} (H : Has w0 (rdr g rv l bad)) (hz : l.length ≤ 35184372088832) (hbad : bad = false) (hn : l.length < 8) : Does Try.prog 79 [.pointer (some ⟨g, 0, none⟩), .int .i64 8, .func (.func 80) #[] #[]] w0 (rdr g rv l bad) (fun _ : Value => .int .i64 0) (fun x => rdr g x l true) (fun _ => True) := by
  refine enter (n := 44) Try.func79 rfl rfl rfl ?_
  intro fr E
  obtain ⟨rb, rc, rfl⟩ := Reads.slice (H.ents _ (List.mem_cons_of_mem _ (List.mem_singleton.2 rfl)) : Reads 1 w0 rv _ _)
  have M : Mem w0 (feet (rdr g _ l bad)) (rdr g _ l bad) (fun _ => True) w0 := Mem.begin H (fun _ _ => trivial)
  subst hbad
  refine code_region ?_
  refine sv (v := _) E rfl rfl rfl rfl rfl (run_assignC rfl) fun fr E => ?_
  refine seq_nil' ?_
  refine wp_seq ?_
  refine code_region ?_
  refine sv (v := _) E rfl rfl rfl rfl rfl (run_move rfl rfl) fun fr E => ?_
  refine sv (v := _) E rfl rfl rfl rfl rfl (run_nilCheck rfl rfl) fun fr E => ?_
  refine sv (v := .pointer (some ⟨_, 1, none⟩)) E rfl rfl rfl rfl rfl (run_fieldAddr rfl rfl T.fld110_1) fun fr E => ?_
  refine sv (v := .bool _) E rfl rfl rfl rfl rfl (run_loadB rfl rfl T.one4 (M.row (i := 0) rfl) rfl) fun fr E => ?_
  refine sv (v := _) E rfl rfl rfl rfl rfl (run_move rfl rfl) fun fr E => ?_
  refine sv (v := _) E rfl rfl rfl rfl rfl (run_move rfl rfl) fun fr E => ?_
  refine sv (v := _) E rfl rfl rfl rfl rfl (run_nilCheck rfl rfl) fun fr E => ?_
  refine sv (v := .pointer (some ⟨_, 0, none⟩)) E rfl rfl rfl rfl rfl (run_fieldAddr rfl rfl T.fld110_0) fun fr E => ?_
  refine sv (v := _) E rfl rfl rfl rfl rfl (run_loadB rfl rfl T.one30 (M.row (i := 0) rfl) rfl) fun fr E => ?_
  refine sv (v := .int .i64 _) E rfl rfl rfl rfl rfl (run_lenR rfl rfl rfl rfl T.slice30 (M.subs 1 rfl)) fun fr E => ?_
  refine sv (v := _) E rfl rfl rfl rfl rfl (run_move rfl rfl) fun fr E => ?_
  refine sv (v := .bool true) E rfl rfl rfl rfl rfl (tst rfl (by simp <;> omega)) fun fr E => ?_
  refine sv (v := .bool true) E rfl rfl rfl rfl rfl (tst rfl (rfl)) fun fr E => ?_
  refine seq_nil' ?_
  refine cond_true E rfl (rfl) ?_
  refine code_region ?_
  refine sv (v := _) E rfl rfl rfl rfl rfl (run_move rfl rfl) fun fr E => ?_
  refine sv (v := _) E rfl rfl rfl rfl rfl (run_nilCheck rfl rfl) fun fr E => ?_
  refine sv (v := .pointer (some ⟨_, 1, none⟩)) E rfl rfl rfl rfl rfl (run_fieldAddr rfl rfl T.fld110_1) fun fr E => ?_
  refine sset (i := 0) (cs' := #[_, _]) E M rfl rfl rfl rfl rfl (run_store1' (v := _) rfl rfl rfl T.size4 (M.row (i := 0) rfl) (rfl) (rfl) (rfl)) rfl fun fr w M E => ?_
  refine seq_nil' ?_
  refine code_region ?_
  refine sv (v := _) E rfl rfl rfl rfl rfl (run_assignC rfl) fun fr E => ?_
  refine seq_nil' ?_
  refine code_region ?_
  refine sv (v := _) E rfl rfl rfl rfl rfl (run_move rfl rfl) fun fr E => ?_
  refine sv (v := _) E rfl rfl rfl rfl rfl (run_assign rfl rfl) fun fr E => ?_
  refine seq_nil' ?_
  refine wp_ret ?_
  refine then_ret ?_
  refine ret1 E rfl rfl ?_
  exact ⟨_, rfl, M.fin (List.Sublist.refl _) trivial⟩

set_option maxRecDepth 100000 in
theorem take_number_ok {g : Nat} {rv : Value} {l : List UInt8} {bad : Bool} {w0 : World} (H : Has w0 (rdr g rv l bad)) (hz : l.length ≤ 35184372088832) (hbad : bad = false) (hn : 8 ≤ l.length) : Does Try.prog 79 [.pointer (some ⟨g, 0, none⟩), .int .i64 8, .func (.func 80) #[] #[]] w0 (rdr g rv l bad) (fun _ : Value => Value.int .i64 (num64 (l.take 8))) (fun x => rdr g x (l.drop 8) false) (fun _ => True) := by
  refine enter (n := 44) Try.func79 rfl rfl rfl ?_
  intro fr E
  obtain ⟨rb, rc, rfl⟩ := Reads.slice (H.ents _ (List.mem_cons_of_mem _ (List.mem_singleton.2 rfl)) : Reads 1 w0 rv _ _)
  have M : Mem w0 (feet (rdr g _ l bad)) (rdr g _ l bad) (fun _ => True) w0 := Mem.begin H (fun _ _ => trivial)
  subst hbad
  refine code_region ?_
  refine sv (v := _) E rfl rfl rfl rfl rfl (run_assignC rfl) fun fr E => ?_
  refine seq_nil' ?_
  refine wp_seq ?_
  refine code_region ?_
  refine sv (v := _) E rfl rfl rfl rfl rfl (run_move rfl rfl) fun fr E => ?_
  refine sv (v := _) E rfl rfl rfl rfl rfl (run_nilCheck rfl rfl) fun fr E => ?_
  refine sv (v := .pointer (some ⟨_, 1, none⟩)) E rfl rfl rfl rfl rfl (run_fieldAddr rfl rfl T.fld110_1) fun fr E => ?_
  refine sv (v := .bool _) E rfl rfl rfl rfl rfl (run_loadB rfl rfl T.one4 (M.row (i := 0) rfl) rfl) fun fr E => ?_
  refine sv (v := _) E rfl rfl rfl rfl rfl (run_move rfl rfl) fun fr E => ?_
  refine sv (v := _) E rfl rfl rfl rfl rfl (run_move rfl rfl) fun fr E => ?_
  refine sv (v := _) E rfl rfl rfl rfl rfl (run_nilCheck rfl rfl) fun fr E => ?_
  refine sv (v := .pointer (some ⟨_, 0, none⟩)) E rfl rfl rfl rfl rfl (run_fieldAddr rfl rfl T.fld110_0) fun fr E => ?_
  refine sv (v := _) E rfl rfl rfl rfl rfl (run_loadB rfl rfl T.one30 (M.row (i := 0) rfl) rfl) fun fr E => ?_
  refine sv (v := .int .i64 _) E rfl rfl rfl rfl rfl (run_lenR rfl rfl rfl rfl T.slice30 (M.subs 1 rfl)) fun fr E => ?_
  refine sv (v := _) E rfl rfl rfl rfl rfl (run_move rfl rfl) fun fr E => ?_
  refine sv (v := .bool false) E rfl rfl rfl rfl rfl (tst rfl (by simp <;> omega)) fun fr E => ?_
  refine sv (v := .bool false) E rfl rfl rfl rfl rfl (tst rfl (rfl)) fun fr E => ?_
  refine seq_nil' ?_
  refine cond_false E rfl (rfl) ?_
  refine wp_skip ?_
  refine then_normal ?_
  refine code_region ?_
  refine sv (v := _) E rfl rfl rfl rfl rfl (run_move rfl rfl) fun fr E => ?_
  refine sv (v := _) E rfl rfl rfl rfl rfl (run_nilCheck rfl rfl) fun fr E => ?_
  refine sv (v := .pointer (some ⟨_, 0, none⟩)) E rfl rfl rfl rfl rfl (run_fieldAddr rfl rfl T.fld110_0) fun fr E => ?_
  refine sv (v := _) E rfl rfl rfl rfl rfl (run_loadB rfl rfl T.one30 (M.row (i := 0) rfl) rfl) fun fr E => ?_
  refine sv (v := _) E rfl rfl rfl rfl rfl (run_move rfl rfl) fun fr E => ?_
  refine sv (v := _) E rfl rfl rfl rfl rfl (run_sliceR (lo := 0) (hi := 8) rfl (M.subs 1 rfl) rfl T.slice30 T.size5 (rfl) (⟨_, _, rfl, rfl⟩) (by omega) (hn)) fun fr E => ?_
  refine sv (v := _) E rfl rfl rfl rfl rfl (run_assign rfl rfl) fun fr E => ?_
  refine seq_nil' ?_
  refine code_region ?_
  refine sv (v := _) E rfl rfl rfl rfl rfl (run_move rfl rfl) fun fr E => ?_
  refine sv (v := _) E rfl rfl rfl rfl rfl (run_move rfl rfl) fun fr E => ?_
  refine sv (v := _) E rfl rfl rfl rfl rfl (run_nilCheck rfl rfl) fun fr E => ?_
  refine sv (v := .pointer (some ⟨_, 0, none⟩)) E rfl rfl rfl rfl rfl (run_fieldAddr rfl rfl T.fld110_0) fun fr E => ?_
  refine sv (v := _) E rfl rfl rfl rfl rfl (run_loadB rfl rfl T.one30 (M.row (i := 0) rfl) rfl) fun fr E => ?_
  refine sv (v := _) E rfl rfl rfl rfl rfl (run_move rfl rfl) fun fr E => ?_
  refine sv (v := _) E rfl rfl rfl rfl rfl (run_sliceR (lo := 8) (hi := l.length) rfl (M.subs 1 rfl) rfl T.slice30 T.size5 (⟨_, _, rfl, rfl⟩) (rfl) (hn) (Nat.le_refl _)) fun fr E => ?_
  refine sv (v := _) E rfl rfl rfl rfl rfl (run_nilCheck rfl rfl) fun fr E => ?_
  refine sv (v := .pointer (some ⟨_, 0, none⟩)) E rfl rfl rfl rfl rfl (run_fieldAddr rfl rfl T.fld110_0) fun fr E => ?_
  refine sset (i := 0) (cs' := #[_, _]) E M rfl rfl rfl rfl rfl (run_store1' (v := _) rfl rfl rfl T.size30 (M.row (i := 0) rfl) (rfl) (rfl) (rfl)) rfl fun fr w M E => ?_
  refine seq_nil' ?_
  refine code_region ?_
  refine sv (v := _) E rfl rfl rfl rfl rfl (run_move rfl rfl) fun fr E => ?_
  refine sv (v := _) E rfl rfl rfl rfl rfl (run_move rfl rfl) fun fr E => ?_
  refine sgive E M rfl rfl rfl rfl rfl (run_callV rfl rfl T.fn80) (number_x (l := l.take 8) (Bytes.pre (M.subs 1 rfl) hn) (by simp <;> omega)) fun fr w M E => ?_
  refine sv (v := _) E rfl rfl rfl rfl rfl (run_assign rfl rfl) fun fr E => ?_
  refine seq_nil' ?_
  refine wp_ret ?_
  refine ret1 E rfl rfl ?_
  have M := M.rest 1 8 rfl hn
  exact ⟨_, rfl, M.fin (List.Sublist.refl _) trivial⟩

set_option maxRecDepth 100000 in
theorem take_digest_bad {g : Nat} {rv : Value} {l : List UInt8} {bad : Bool} {w0 : World} (H : Has w0 (rdr g rv l bad)) (hz : l.length ≤ 35184372088832) (hbad : bad = true) : Does Try.prog 81 [.pointer (some ⟨g, 0, none⟩), .int .i64 32, .func (.func 82) #[] #[]] w0 (rdr g rv l bad) (fun _ : Value => .agg (bc (List.replicate 32 0)).toArray) (fun x => rdr g x l true) (fun _ => True) := by
  refine enter (n := 44) Try.func81 rfl rfl rfl ?_
  intro fr E
  obtain ⟨rb, rc, rfl⟩ := Reads.slice (H.ents _ (List.mem_cons_of_mem _ (List.mem_singleton.2 rfl)) : Reads 1 w0 rv _ _)
  have M : Mem w0 (feet (rdr g _ l bad)) (rdr g _ l bad) (fun _ => True) w0 := Mem.begin H (fun _ _ => trivial)
  subst hbad
  refine code_region ?_
  refine snew (ob := .cells _ 23) (fun g => .pointer (some ⟨g, 0, none⟩)) E M rfl rfl rfl rfl rfl (run_allocN rfl T.zero23) fun g0 fr w M E => ?_
  refine seq_nil' ?_
  refine wp_seq ?_
  refine code_region ?_
  refine sv (v := _) E rfl rfl rfl rfl rfl (run_move rfl rfl) fun fr E => ?_
  refine sv (v := _) E rfl rfl rfl rfl rfl (run_nilCheck rfl rfl) fun fr E => ?_
  refine sv (v := .pointer (some ⟨_, 1, none⟩)) E rfl rfl rfl rfl rfl (run_fieldAddr rfl rfl T.fld110_1) fun fr E => ?_
  refine sv (v := .bool _) E rfl rfl rfl rfl rfl (run_loadB rfl rfl T.one4 (M.row (i := 1) rfl) rfl) fun fr E => ?_
  refine sv (v := _) E rfl rfl rfl rfl rfl (run_move rfl rfl) fun fr E => ?_
  refine sno E rfl rfl rfl rfl fun fr E => ?_
  refine sno E rfl rfl rfl rfl fun fr E => ?_
  refine sno E rfl rfl rfl rfl fun fr E => ?_
  refine sno E rfl rfl rfl rfl fun fr E => ?_
  refine sno E rfl rfl rfl rfl fun fr E => ?_
  refine sno E rfl rfl rfl rfl fun fr E => ?_
  refine sno E rfl rfl rfl rfl fun fr E => ?_
  refine sv (v := .bool true) E rfl rfl rfl rfl rfl (tst rfl (rfl)) fun fr E => ?_
  refine seq_nil' ?_
  refine cond_true E rfl (rfl) ?_
  refine code_region ?_
  refine sv (v := _) E rfl rfl rfl rfl rfl (run_move rfl rfl) fun fr E => ?_
  refine sv (v := _) E rfl rfl rfl rfl rfl (run_nilCheck rfl rfl) fun fr E => ?_
  refine sv (v := .pointer (some ⟨_, 1, none⟩)) E rfl rfl rfl rfl rfl (run_fieldAddr rfl rfl T.fld110_1) fun fr E => ?_
  refine sset (i := 1) (cs' := #[_, _]) E M rfl rfl rfl rfl rfl (run_store1' (v := _) rfl rfl rfl T.size4 (M.row (i := 1) rfl) (rfl) (rfl) (rfl)) rfl fun fr w M E => ?_
  refine seq_nil' ?_
  refine code_region ?_
  refine snew (ob := .cells _ 23) (fun g => .pointer (some ⟨g, 0, none⟩)) E M rfl rfl rfl rfl rfl (run_allocN rfl T.zero23) fun g1 fr w M E => ?_
  refine seq_nil' ?_
  refine code_region ?_
  refine sv (v := .agg _) E rfl rfl rfl rfl rfl (run_loadAll rfl rfl T.agg23 (M.row (i := 0) rfl) rfl) fun fr E => ?_
  refine sset (i := 1) (cs' := _) E M rfl rfl rfl rfl rfl (run_storeN' (vs := _) rfl rfl rfl T.size23 rfl (M.row (i := 1) rfl) rfl rfl rfl) rfl fun fr w M E => ?_
  refine seq_nil' ?_
  refine wp_ret ?_
  refine then_ret ?_
  refine retC E rfl rfl T.agg23 (M.row (i := 1) rfl) (rfl) ?_
  exact ⟨_, rfl, M.fin (.cons _ (.cons _ (.refl _))) trivial⟩

set_option maxRecDepth 100000 in
theorem take_digest_short {g : Nat} {rv : Value} {l : List UInt8} {bad : Bool} {w0 : World} (H : Has w0 (rdr g rv l bad)) (hz : l.length ≤ 35184372088832) (hbad : bad = false) (hn : l.length < 32) : Does Try.prog 81 [.pointer (some ⟨g, 0, none⟩), .int .i64 32, .func (.func 82) #[] #[]] w0 (rdr g rv l bad) (fun _ : Value => .agg (bc (List.replicate 32 0)).toArray) (fun x => rdr g x l true) (fun _ => True) := by
  refine enter (n := 44) Try.func81 rfl rfl rfl ?_
  intro fr E
  obtain ⟨rb, rc, rfl⟩ := Reads.slice (H.ents _ (List.mem_cons_of_mem _ (List.mem_singleton.2 rfl)) : Reads 1 w0 rv _ _)
  have M : Mem w0 (feet (rdr g _ l bad)) (rdr g _ l bad) (fun _ => True) w0 := Mem.begin H (fun _ _ => trivial)
  subst hbad
  refine code_region ?_
  refine snew (ob := .cells _ 23) (fun g => .pointer (some ⟨g, 0, none⟩)) E M rfl rfl rfl rfl rfl (run_allocN rfl T.zero23) fun g0 fr w M E => ?_
  refine seq_nil' ?_
  refine wp_seq ?_
  refine code_region ?_
  refine sv (v := _) E rfl rfl rfl rfl rfl (run_move rfl rfl) fun fr E => ?_
  refine sv (v := _) E rfl rfl rfl rfl rfl (run_nilCheck rfl rfl) fun fr E => ?_
  refine sv (v := .pointer (some ⟨_, 1, none⟩)) E rfl rfl rfl rfl rfl (run_fieldAddr rfl rfl T.fld110_1) fun fr E => ?_
  refine sv (v := .bool _) E rfl rfl rfl rfl rfl (run_loadB rfl rfl T.one4 (M.row (i := 1) rfl) rfl) fun fr E => ?_
  refine sv (v := _) E rfl rfl rfl rfl rfl (run_move rfl rfl) fun fr E => ?_
  refine sv (v := _) E rfl rfl rfl rfl rfl (run_move rfl rfl) fun fr E => ?_
  refine sv (v := _) E rfl rfl rfl rfl rfl (run_nilCheck rfl rfl) fun fr E => ?_
  refine sv (v := .pointer (some ⟨_, 0, none⟩)) E rfl rfl rfl rfl rfl (run_fieldAddr rfl rfl T.fld110_0) fun fr E => ?_
  refine sv (v := _) E rfl rfl rfl rfl rfl (run_loadB rfl rfl T.one30 (M.row (i := 1) rfl) rfl) fun fr E => ?_
  refine sv (v := .int .i64 _) E rfl rfl rfl rfl rfl (run_lenR rfl rfl rfl rfl T.slice30 (M.subs 2 rfl)) fun fr E => ?_
  refine sv (v := _) E rfl rfl rfl rfl rfl (run_move rfl rfl) fun fr E => ?_
  refine sv (v := .bool true) E rfl rfl rfl rfl rfl (tst rfl (by simp <;> omega)) fun fr E => ?_
  refine sv (v := .bool true) E rfl rfl rfl rfl rfl (tst rfl (rfl)) fun fr E => ?_
  refine seq_nil' ?_
  refine cond_true E rfl (rfl) ?_
  refine code_region ?_
  refine sv (v := _) E rfl rfl rfl rfl rfl (run_move rfl rfl) fun fr E => ?_
  refine sv (v := _) E rfl rfl rfl rfl rfl (run_nilCheck rfl rfl) fun fr E => ?_
  refine sv (v := .pointer (some ⟨_, 1, none⟩)) E rfl rfl rfl rfl rfl (run_fieldAddr rfl rfl T.fld110_1) fun fr E => ?_
  refine sset (i := 1) (cs' := #[_, _]) E M rfl rfl rfl rfl rfl (run_store1' (v := _) rfl rfl rfl T.size4 (M.row (i := 1) rfl) (rfl) (rfl) (rfl)) rfl fun fr w M E => ?_
  refine seq_nil' ?_
  refine code_region ?_
  refine snew (ob := .cells _ 23) (fun g => .pointer (some ⟨g, 0, none⟩)) E M rfl rfl rfl rfl rfl (run_allocN rfl T.zero23) fun g1 fr w M E => ?_
  refine seq_nil' ?_
  refine code_region ?_
  refine sv (v := .agg _) E rfl rfl rfl rfl rfl (run_loadAll rfl rfl T.agg23 (M.row (i := 0) rfl) rfl) fun fr E => ?_
  refine sset (i := 1) (cs' := _) E M rfl rfl rfl rfl rfl (run_storeN' (vs := _) rfl rfl rfl T.size23 rfl (M.row (i := 1) rfl) rfl rfl rfl) rfl fun fr w M E => ?_
  refine seq_nil' ?_
  refine wp_ret ?_
  refine then_ret ?_
  refine retC E rfl rfl T.agg23 (M.row (i := 1) rfl) (rfl) ?_
  exact ⟨_, rfl, M.fin (.cons _ (.cons _ (.refl _))) trivial⟩

set_option maxRecDepth 100000 in
theorem take_digest_ok {g : Nat} {rv : Value} {l : List UInt8} {bad : Bool} {w0 : World} (H : Has w0 (rdr g rv l bad)) (hz : l.length ≤ 35184372088832) (hbad : bad = false) (hn : 32 ≤ l.length) : Does Try.prog 81 [.pointer (some ⟨g, 0, none⟩), .int .i64 32, .func (.func 82) #[] #[]] w0 (rdr g rv l bad) (fun _ : Value => Value.agg (bc (l.take 32)).toArray) (fun x => rdr g x (l.drop 32) false) (fun _ => True) := by
  refine enter (n := 44) Try.func81 rfl rfl rfl ?_
  intro fr E
  obtain ⟨rb, rc, rfl⟩ := Reads.slice (H.ents _ (List.mem_cons_of_mem _ (List.mem_singleton.2 rfl)) : Reads 1 w0 rv _ _)
  have M : Mem w0 (feet (rdr g _ l bad)) (rdr g _ l bad) (fun _ => True) w0 := Mem.begin H (fun _ _ => trivial)
  subst hbad
  refine code_region ?_
  refine snew (ob := .cells _ 23) (fun g => .pointer (some ⟨g, 0, none⟩)) E M rfl rfl rfl rfl rfl (run_allocN rfl T.zero23) fun g0 fr w M E => ?_
  refine seq_nil' ?_
  refine wp_seq ?_
  refine code_region ?_
  refine sv (v := _) E rfl rfl rfl rfl rfl (run_move rfl rfl) fun fr E => ?_
  refine sv (v := _) E rfl rfl rfl rfl rfl (run_nilCheck rfl rfl) fun fr E => ?_
  refine sv (v := .pointer (some ⟨_, 1, none⟩)) E rfl rfl rfl rfl rfl (run_fieldAddr rfl rfl T.fld110_1) fun fr E => ?_
  refine sv (v := .bool _) E rfl rfl rfl rfl rfl (run_loadB rfl rfl T.one4 (M.row (i := 1) rfl) rfl) fun fr E => ?_
  refine sv (v := _) E rfl rfl rfl rfl rfl (run_move rfl rfl) fun fr E => ?_
  refine sv (v := _) E rfl rfl rfl rfl rfl (run_move rfl rfl) fun fr E => ?_
  refine sv (v := _) E rfl rfl rfl rfl rfl (run_nilCheck rfl rfl) fun fr E => ?_
  refine sv (v := .pointer (some ⟨_, 0, none⟩)) E rfl rfl rfl rfl rfl (run_fieldAddr rfl rfl T.fld110_0) fun fr E => ?_
  refine sv (v := _) E rfl rfl rfl rfl rfl (run_loadB rfl rfl T.one30 (M.row (i := 1) rfl) rfl) fun fr E => ?_
  refine sv (v := .int .i64 _) E rfl rfl rfl rfl rfl (run_lenR rfl rfl rfl rfl T.slice30 (M.subs 2 rfl)) fun fr E => ?_
  refine sv (v := _) E rfl rfl rfl rfl rfl (run_move rfl rfl) fun fr E => ?_
  refine sv (v := .bool false) E rfl rfl rfl rfl rfl (tst rfl (by simp <;> omega)) fun fr E => ?_
  refine sv (v := .bool false) E rfl rfl rfl rfl rfl (tst rfl (rfl)) fun fr E => ?_
  refine seq_nil' ?_
  refine cond_false E rfl (rfl) ?_
  refine wp_skip ?_
  refine then_normal ?_
  refine code_region ?_
  refine sv (v := _) E rfl rfl rfl rfl rfl (run_move rfl rfl) fun fr E => ?_
  refine sv (v := _) E rfl rfl rfl rfl rfl (run_nilCheck rfl rfl) fun fr E => ?_
  refine sv (v := .pointer (some ⟨_, 0, none⟩)) E rfl rfl rfl rfl rfl (run_fieldAddr rfl rfl T.fld110_0) fun fr E => ?_
  refine sv (v := _) E rfl rfl rfl rfl rfl (run_loadB rfl rfl T.one30 (M.row (i := 1) rfl) rfl) fun fr E => ?_
  refine sv (v := _) E rfl rfl rfl rfl rfl (run_move rfl rfl) fun fr E => ?_
  refine sv (v := _) E rfl rfl rfl rfl rfl (run_sliceR (lo := 0) (hi := 32) rfl (M.subs 2 rfl) rfl T.slice30 T.size5 (rfl) (⟨_, _, rfl, rfl⟩) (by omega) (hn)) fun fr E => ?_
  refine sv (v := _) E rfl rfl rfl rfl rfl (run_assign rfl rfl) fun fr E => ?_
  refine seq_nil' ?_
  refine code_region ?_
  refine sv (v := _) E rfl rfl rfl rfl rfl (run_move rfl rfl) fun fr E => ?_
  refine sv (v := _) E rfl rfl rfl rfl rfl (run_move rfl rfl) fun fr E => ?_
  refine sv (v := _) E rfl rfl rfl rfl rfl (run_nilCheck rfl rfl) fun fr E => ?_
  refine sv (v := .pointer (some ⟨_, 0, none⟩)) E rfl rfl rfl rfl rfl (run_fieldAddr rfl rfl T.fld110_0) fun fr E => ?_
  refine sv (v := _) E rfl rfl rfl rfl rfl (run_loadB rfl rfl T.one30 (M.row (i := 1) rfl) rfl) fun fr E => ?_
  refine sv (v := _) E rfl rfl rfl rfl rfl (run_move rfl rfl) fun fr E => ?_
  refine sv (v := _) E rfl rfl rfl rfl rfl (run_sliceR (lo := 32) (hi := l.length) rfl (M.subs 2 rfl) rfl T.slice30 T.size5 (⟨_, _, rfl, rfl⟩) (rfl) (hn) (Nat.le_refl _)) fun fr E => ?_
  refine sv (v := _) E rfl rfl rfl rfl rfl (run_nilCheck rfl rfl) fun fr E => ?_
  refine sv (v := .pointer (some ⟨_, 0, none⟩)) E rfl rfl rfl rfl rfl (run_fieldAddr rfl rfl T.fld110_0) fun fr E => ?_
  refine sset (i := 1) (cs' := #[_, _]) E M rfl rfl rfl rfl rfl (run_store1' (v := _) rfl rfl rfl T.size30 (M.row (i := 1) rfl) (rfl) (rfl) (rfl)) rfl fun fr w M E => ?_
  refine seq_nil' ?_
  refine code_region ?_
  refine sv (v := _) E rfl rfl rfl rfl rfl (run_move rfl rfl) fun fr E => ?_
  refine sv (v := _) E rfl rfl rfl rfl rfl (run_move rfl rfl) fun fr E => ?_
  refine sgive E M rfl rfl rfl rfl rfl (run_callV rfl rfl T.fn82) (digest_x (l := l.take 32) (Bytes.pre (M.subs 2 rfl) hn) (by simp <;> omega)) fun fr w M E => ?_
  refine sset (i := 0) (cs' := (bc (l.take 32)).toArray) E M rfl rfl rfl rfl rfl (run_storeAll (vs := (bc (l.take 32)).toArray) rfl rfl rfl T.size23 (by simp <;> omega) (M.row (i := 0) rfl) rfl (by simpa using bc_one _)) rfl fun fr w M E => ?_
  refine seq_nil' ?_
  refine wp_ret ?_
  refine retC E rfl rfl T.agg23 (M.row (i := 0) rfl) (by simp <;> omega) ?_
  have M := M.rest 2 32 rfl hn
  exact ⟨_, rfl, M.fin (.cons _ (.refl _)) trivial⟩

set_option maxRecDepth 100000 in
theorem take_ref_bad {g : Nat} {rv : Value} {l : List UInt8} {bad : Bool} {w0 : World} (H : Has w0 (rdr g rv l bad)) (hz : l.length ≤ 35184372088832) (hbad : bad = true) : Does Try.prog 83 [.pointer (some ⟨g, 0, none⟩), .int .i64 40, .func (.func 84) #[] #[]] w0 (rdr g rv l bad) (fun _ : Value => .agg (Value.int .i64 0 :: bc (List.replicate 32 0)).toArray) (fun x => rdr g x l true) (fun _ => True) := by
  refine enter (n := 44) Try.func83 rfl rfl rfl ?_
  intro fr E
  obtain ⟨rb, rc, rfl⟩ := Reads.slice (H.ents _ (List.mem_cons_of_mem _ (List.mem_singleton.2 rfl)) : Reads 1 w0 rv _ _)
  have M : Mem w0 (feet (rdr g _ l bad)) (rdr g _ l bad) (fun _ => True) w0 := Mem.begin H (fun _ _ => trivial)
  subst hbad
  refine code_region ?_
  refine snew (ob := .cells _ 25) (fun g => .pointer (some ⟨g, 0, none⟩)) E M rfl rfl rfl rfl rfl (run_allocN rfl T.zero25) fun g0 fr w M E => ?_
  refine seq_nil' ?_
  refine wp_seq ?_
  refine code_region ?_
  refine sv (v := _) E rfl rfl rfl rfl rfl (run_move rfl rfl) fun fr E => ?_
  refine sv (v := _) E rfl rfl rfl rfl rfl (run_nilCheck rfl rfl) fun fr E => ?_
  refine sv (v := .pointer (some ⟨_, 1, none⟩)) E rfl rfl rfl rfl rfl (run_fieldAddr rfl rfl T.fld110_1) fun fr E => ?_
  refine sv (v := .bool _) E rfl rfl rfl rfl rfl (run_loadB rfl rfl T.one4 (M.row (i := 1) rfl) rfl) fun fr E => ?_
  refine sv (v := _) E rfl rfl rfl rfl rfl (run_move rfl rfl) fun fr E => ?_
  refine sno E rfl rfl rfl rfl fun fr E => ?_
  refine sno E rfl rfl rfl rfl fun fr E => ?_
  refine sno E rfl rfl rfl rfl fun fr E => ?_
  refine sno E rfl rfl rfl rfl fun fr E => ?_
  refine sno E rfl rfl rfl rfl fun fr E => ?_
  refine sno E rfl rfl rfl rfl fun fr E => ?_
  refine sno E rfl rfl rfl rfl fun fr E => ?_
  refine sv (v := .bool true) E rfl rfl rfl rfl rfl (tst rfl (rfl)) fun fr E => ?_
  refine seq_nil' ?_
  refine cond_true E rfl (rfl) ?_
  refine code_region ?_
  refine sv (v := _) E rfl rfl rfl rfl rfl (run_move rfl rfl) fun fr E => ?_
  refine sv (v := _) E rfl rfl rfl rfl rfl (run_nilCheck rfl rfl) fun fr E => ?_
  refine sv (v := .pointer (some ⟨_, 1, none⟩)) E rfl rfl rfl rfl rfl (run_fieldAddr rfl rfl T.fld110_1) fun fr E => ?_
  refine sset (i := 1) (cs' := #[_, _]) E M rfl rfl rfl rfl rfl (run_store1' (v := _) rfl rfl rfl T.size4 (M.row (i := 1) rfl) (rfl) (rfl) (rfl)) rfl fun fr w M E => ?_
  refine seq_nil' ?_
  refine code_region ?_
  refine snew (ob := .cells _ 25) (fun g => .pointer (some ⟨g, 0, none⟩)) E M rfl rfl rfl rfl rfl (run_allocN rfl T.zero25) fun g1 fr w M E => ?_
  refine seq_nil' ?_
  refine code_region ?_
  refine sv (v := .agg _) E rfl rfl rfl rfl rfl (run_loadAll rfl rfl T.agg25 (M.row (i := 0) rfl) rfl) fun fr E => ?_
  refine sset (i := 1) (cs' := _) E M rfl rfl rfl rfl rfl (run_storeN' (vs := _) rfl rfl rfl T.size25 rfl (M.row (i := 1) rfl) rfl rfl rfl) rfl fun fr w M E => ?_
  refine seq_nil' ?_
  refine wp_ret ?_
  refine then_ret ?_
  refine retC E rfl rfl T.agg25 (M.row (i := 1) rfl) (rfl) ?_
  exact ⟨_, rfl, M.fin (.cons _ (.cons _ (.refl _))) trivial⟩

set_option maxRecDepth 100000 in
theorem take_ref_short {g : Nat} {rv : Value} {l : List UInt8} {bad : Bool} {w0 : World} (H : Has w0 (rdr g rv l bad)) (hz : l.length ≤ 35184372088832) (hbad : bad = false) (hn : l.length < 40) : Does Try.prog 83 [.pointer (some ⟨g, 0, none⟩), .int .i64 40, .func (.func 84) #[] #[]] w0 (rdr g rv l bad) (fun _ : Value => .agg (Value.int .i64 0 :: bc (List.replicate 32 0)).toArray) (fun x => rdr g x l true) (fun _ => True) := by
  refine enter (n := 44) Try.func83 rfl rfl rfl ?_
  intro fr E
  obtain ⟨rb, rc, rfl⟩ := Reads.slice (H.ents _ (List.mem_cons_of_mem _ (List.mem_singleton.2 rfl)) : Reads 1 w0 rv _ _)
  have M : Mem w0 (feet (rdr g _ l bad)) (rdr g _ l bad) (fun _ => True) w0 := Mem.begin H (fun _ _ => trivial)
  subst hbad
  refine code_region ?_
  refine snew (ob := .cells _ 25) (fun g => .pointer (some ⟨g, 0, none⟩)) E M rfl rfl rfl rfl rfl (run_allocN rfl T.zero25) fun g0 fr w M E => ?_
  refine seq_nil' ?_
  refine wp_seq ?_
  refine code_region ?_
  refine sv (v := _) E rfl rfl rfl rfl rfl (run_move rfl rfl) fun fr E => ?_
  refine sv (v := _) E rfl rfl rfl rfl rfl (run_nilCheck rfl rfl) fun fr E => ?_
  refine sv (v := .pointer (some ⟨_, 1, none⟩)) E rfl rfl rfl rfl rfl (run_fieldAddr rfl rfl T.fld110_1) fun fr E => ?_
  refine sv (v := .bool _) E rfl rfl rfl rfl rfl (run_loadB rfl rfl T.one4 (M.row (i := 1) rfl) rfl) fun fr E => ?_
  refine sv (v := _) E rfl rfl rfl rfl rfl (run_move rfl rfl) fun fr E => ?_
  refine sv (v := _) E rfl rfl rfl rfl rfl (run_move rfl rfl) fun fr E => ?_
  refine sv (v := _) E rfl rfl rfl rfl rfl (run_nilCheck rfl rfl) fun fr E => ?_
  refine sv (v := .pointer (some ⟨_, 0, none⟩)) E rfl rfl rfl rfl rfl (run_fieldAddr rfl rfl T.fld110_0) fun fr E => ?_
  refine sv (v := _) E rfl rfl rfl rfl rfl (run_loadB rfl rfl T.one30 (M.row (i := 1) rfl) rfl) fun fr E => ?_
  refine sv (v := .int .i64 _) E rfl rfl rfl rfl rfl (run_lenR rfl rfl rfl rfl T.slice30 (M.subs 2 rfl)) fun fr E => ?_
  refine sv (v := _) E rfl rfl rfl rfl rfl (run_move rfl rfl) fun fr E => ?_
  refine sv (v := .bool true) E rfl rfl rfl rfl rfl (tst rfl (by simp <;> omega)) fun fr E => ?_
  refine sv (v := .bool true) E rfl rfl rfl rfl rfl (tst rfl (rfl)) fun fr E => ?_
  refine seq_nil' ?_
  refine cond_true E rfl (rfl) ?_
  refine code_region ?_
  refine sv (v := _) E rfl rfl rfl rfl rfl (run_move rfl rfl) fun fr E => ?_
  refine sv (v := _) E rfl rfl rfl rfl rfl (run_nilCheck rfl rfl) fun fr E => ?_
  refine sv (v := .pointer (some ⟨_, 1, none⟩)) E rfl rfl rfl rfl rfl (run_fieldAddr rfl rfl T.fld110_1) fun fr E => ?_
  refine sset (i := 1) (cs' := #[_, _]) E M rfl rfl rfl rfl rfl (run_store1' (v := _) rfl rfl rfl T.size4 (M.row (i := 1) rfl) (rfl) (rfl) (rfl)) rfl fun fr w M E => ?_
  refine seq_nil' ?_
  refine code_region ?_
  refine snew (ob := .cells _ 25) (fun g => .pointer (some ⟨g, 0, none⟩)) E M rfl rfl rfl rfl rfl (run_allocN rfl T.zero25) fun g1 fr w M E => ?_
  refine seq_nil' ?_
  refine code_region ?_
  refine sv (v := .agg _) E rfl rfl rfl rfl rfl (run_loadAll rfl rfl T.agg25 (M.row (i := 0) rfl) rfl) fun fr E => ?_
  refine sset (i := 1) (cs' := _) E M rfl rfl rfl rfl rfl (run_storeN' (vs := _) rfl rfl rfl T.size25 rfl (M.row (i := 1) rfl) rfl rfl rfl) rfl fun fr w M E => ?_
  refine seq_nil' ?_
  refine wp_ret ?_
  refine then_ret ?_
  refine retC E rfl rfl T.agg25 (M.row (i := 1) rfl) (rfl) ?_
  exact ⟨_, rfl, M.fin (.cons _ (.cons _ (.refl _))) trivial⟩

set_option maxRecDepth 100000 in
theorem take_ref_ok {g : Nat} {rv : Value} {l : List UInt8} {bad : Bool} {w0 : World} (H : Has w0 (rdr g rv l bad)) (hz : l.length ≤ 35184372088832) (hbad : bad = false) (hn : 40 ≤ l.length) : Does Try.prog 83 [.pointer (some ⟨g, 0, none⟩), .int .i64 40, .func (.func 84) #[] #[]] w0 (rdr g rv l bad) (fun _ : Value => Value.agg (Value.int .i64 (num64 ((l.take 40).take 8)) :: bc ((l.take 40).drop 8)).toArray) (fun x => rdr g x (l.drop 40) false) (fun _ => True) := by
  refine enter (n := 44) Try.func83 rfl rfl rfl ?_
  intro fr E
  obtain ⟨rb, rc, rfl⟩ := Reads.slice (H.ents _ (List.mem_cons_of_mem _ (List.mem_singleton.2 rfl)) : Reads 1 w0 rv _ _)
  have M : Mem w0 (feet (rdr g _ l bad)) (rdr g _ l bad) (fun _ => True) w0 := Mem.begin H (fun _ _ => trivial)
  subst hbad
  refine code_region ?_
  refine snew (ob := .cells _ 25) (fun g => .pointer (some ⟨g, 0, none⟩)) E M rfl rfl rfl rfl rfl (run_allocN rfl T.zero25) fun g0 fr w M E => ?_
  refine seq_nil' ?_
  refine wp_seq ?_
  refine code_region ?_
  refine sv (v := _) E rfl rfl rfl rfl rfl (run_move rfl rfl) fun fr E => ?_
  refine sv (v := _) E rfl rfl rfl rfl rfl (run_nilCheck rfl rfl) fun fr E => ?_
  refine sv (v := .pointer (some ⟨_, 1, none⟩)) E rfl rfl rfl rfl rfl (run_fieldAddr rfl rfl T.fld110_1) fun fr E => ?_
  refine sv (v := .bool _) E rfl rfl rfl rfl rfl (run_loadB rfl rfl T.one4 (M.row (i := 1) rfl) rfl) fun fr E => ?_
  refine sv (v := _) E rfl rfl rfl rfl rfl (run_move rfl rfl) fun fr E => ?_
  refine sv (v := _) E rfl rfl rfl rfl rfl (run_move rfl rfl) fun fr E => ?_
  refine sv (v := _) E rfl rfl rfl rfl rfl (run_nilCheck rfl rfl) fun fr E => ?_
  refine sv (v := .pointer (some ⟨_, 0, none⟩)) E rfl rfl rfl rfl rfl (run_fieldAddr rfl rfl T.fld110_0) fun fr E => ?_
  refine sv (v := _) E rfl rfl rfl rfl rfl (run_loadB rfl rfl T.one30 (M.row (i := 1) rfl) rfl) fun fr E => ?_
  refine sv (v := .int .i64 _) E rfl rfl rfl rfl rfl (run_lenR rfl rfl rfl rfl T.slice30 (M.subs 2 rfl)) fun fr E => ?_
  refine sv (v := _) E rfl rfl rfl rfl rfl (run_move rfl rfl) fun fr E => ?_
  refine sv (v := .bool false) E rfl rfl rfl rfl rfl (tst rfl (by simp <;> omega)) fun fr E => ?_
  refine sv (v := .bool false) E rfl rfl rfl rfl rfl (tst rfl (rfl)) fun fr E => ?_
  refine seq_nil' ?_
  refine cond_false E rfl (rfl) ?_
  refine wp_skip ?_
  refine then_normal ?_
  refine code_region ?_
  refine sv (v := _) E rfl rfl rfl rfl rfl (run_move rfl rfl) fun fr E => ?_
  refine sv (v := _) E rfl rfl rfl rfl rfl (run_nilCheck rfl rfl) fun fr E => ?_
  refine sv (v := .pointer (some ⟨_, 0, none⟩)) E rfl rfl rfl rfl rfl (run_fieldAddr rfl rfl T.fld110_0) fun fr E => ?_
  refine sv (v := _) E rfl rfl rfl rfl rfl (run_loadB rfl rfl T.one30 (M.row (i := 1) rfl) rfl) fun fr E => ?_
  refine sv (v := _) E rfl rfl rfl rfl rfl (run_move rfl rfl) fun fr E => ?_
  refine sv (v := _) E rfl rfl rfl rfl rfl (run_sliceR (lo := 0) (hi := 40) rfl (M.subs 2 rfl) rfl T.slice30 T.size5 (rfl) (⟨_, _, rfl, rfl⟩) (by omega) (hn)) fun fr E => ?_
  refine sv (v := _) E rfl rfl rfl rfl rfl (run_assign rfl rfl) fun fr E => ?_
  refine seq_nil' ?_
  refine code_region ?_
  refine sv (v := _) E rfl rfl rfl rfl rfl (run_move rfl rfl) fun fr E => ?_
  refine sv (v := _) E rfl rfl rfl rfl rfl (run_move rfl rfl) fun fr E => ?_
  refine sv (v := _) E rfl rfl rfl rfl rfl (run_nilCheck rfl rfl) fun fr E => ?_
  refine sv (v := .pointer (some ⟨_, 0, none⟩)) E rfl rfl rfl rfl rfl (run_fieldAddr rfl rfl T.fld110_0) fun fr E => ?_
  refine sv (v := _) E rfl rfl rfl rfl rfl (run_loadB rfl rfl T.one30 (M.row (i := 1) rfl) rfl) fun fr E => ?_
  refine sv (v := _) E rfl rfl rfl rfl rfl (run_move rfl rfl) fun fr E => ?_
  refine sv (v := _) E rfl rfl rfl rfl rfl (run_sliceR (lo := 40) (hi := l.length) rfl (M.subs 2 rfl) rfl T.slice30 T.size5 (⟨_, _, rfl, rfl⟩) (rfl) (hn) (Nat.le_refl _)) fun fr E => ?_
  refine sv (v := _) E rfl rfl rfl rfl rfl (run_nilCheck rfl rfl) fun fr E => ?_
  refine sv (v := .pointer (some ⟨_, 0, none⟩)) E rfl rfl rfl rfl rfl (run_fieldAddr rfl rfl T.fld110_0) fun fr E => ?_
  refine sset (i := 1) (cs' := #[_, _]) E M rfl rfl rfl rfl rfl (run_store1' (v := _) rfl rfl rfl T.size30 (M.row (i := 1) rfl) (rfl) (rfl) (rfl)) rfl fun fr w M E => ?_
  refine seq_nil' ?_
  refine code_region ?_
  refine sv (v := _) E rfl rfl rfl rfl rfl (run_move rfl rfl) fun fr E => ?_
  refine sv (v := _) E rfl rfl rfl rfl rfl (run_move rfl rfl) fun fr E => ?_
  refine sgive E M rfl rfl rfl rfl rfl (run_callV rfl rfl T.fn84) (ref_x (l := l.take 40) (Bytes.pre (M.subs 2 rfl) hn) (by simp <;> omega)) fun fr w M E => ?_
  refine sset (i := 0) (cs' := (Value.int .i64 (num64 ((l.take 40).take 8)) :: bc ((l.take 40).drop 8)).toArray) E M rfl rfl rfl rfl rfl (run_storeAll (vs := (Value.int .i64 (num64 ((l.take 40).take 8)) :: bc ((l.take 40).drop 8)).toArray) rfl rfl rfl T.size25 (by simp <;> omega) (M.row (i := 0) rfl) rfl (by intro v hv; simp only [List.mem_cons] at hv; rcases hv with rfl | hv; rfl; exact bc_one _ v hv)) rfl fun fr w M E => ?_
  refine seq_nil' ?_
  refine wp_ret ?_
  refine retC E rfl rfl T.agg25 (M.row (i := 0) rfl) (by simp <;> omega) ?_
  have M := M.rest 2 40 rfl hn
  exact ⟨_, rfl, M.fin (.cons _ (.refl _)) trivial⟩

theorem take_number {g : Nat} {rv : Value} {l : List UInt8} {bad : Bool} {w0 : World} (H : Has w0 (rdr g rv l bad)) (hz : l.length ≤ 35184372088832) : Does Try.prog 79 [.pointer (some ⟨g, 0, none⟩), .int .i64 8, .func (.func 80) #[] #[]] w0 (rdr g rv l bad) (fun _ : Value => Value.int .i64 (rInt (l, bad))) (fun x => rdr g x (rNext 8 (l, bad)).1 (rNext 8 (l, bad)).2) (fun _ => True) := by
  cases bad with
  | true => simp only [rNext, rInt, rSum, rRef, eq_self, true_or, if_true]; exact take_number_bad H hz rfl
  | false =>
    by_cases hn : l.length < 8
    · simp only [rNext, rInt, rSum, rRef, hn, or_true, if_true]; exact take_number_short H hz rfl hn
    · have hc : ¬ (false = true ∨ l.length < 8) := by simp; omega
      simp only [rNext, rInt, rSum, rRef, hc, if_false]; exact take_number_ok H hz rfl (by omega)

theorem take_digest {g : Nat} {rv : Value} {l : List UInt8} {bad : Bool} {w0 : World} (H : Has w0 (rdr g rv l bad)) (hz : l.length ≤ 35184372088832) : Does Try.prog 81 [.pointer (some ⟨g, 0, none⟩), .int .i64 32, .func (.func 82) #[] #[]] w0 (rdr g rv l bad) (fun _ : Value => Value.agg (bc (rSum (l, bad))).toArray) (fun x => rdr g x (rNext 32 (l, bad)).1 (rNext 32 (l, bad)).2) (fun _ => True) := by
  cases bad with
  | true => simp only [rNext, rInt, rSum, rRef, eq_self, true_or, if_true]; exact take_digest_bad H hz rfl
  | false =>
    by_cases hn : l.length < 32
    · simp only [rNext, rInt, rSum, rRef, hn, or_true, if_true]; exact take_digest_short H hz rfl hn
    · have hc : ¬ (false = true ∨ l.length < 32) := by simp; omega
      simp only [rNext, rInt, rSum, rRef, hc, if_false]; exact take_digest_ok H hz rfl (by omega)

theorem take_ref {g : Nat} {rv : Value} {l : List UInt8} {bad : Bool} {w0 : World} (H : Has w0 (rdr g rv l bad)) (hz : l.length ≤ 35184372088832) : Does Try.prog 83 [.pointer (some ⟨g, 0, none⟩), .int .i64 40, .func (.func 84) #[] #[]] w0 (rdr g rv l bad) (fun _ : Value => Value.agg (Value.int .i64 (rRef (l, bad)).1 :: bc (rRef (l, bad)).2).toArray) (fun x => rdr g x (rNext 40 (l, bad)).1 (rNext 40 (l, bad)).2) (fun _ => True) := by
  cases bad with
  | true => simp only [rNext, rInt, rSum, rRef, eq_self, true_or, if_true]; exact take_ref_bad H hz rfl
  | false =>
    by_cases hn : l.length < 40
    · simp only [rNext, rInt, rSum, rRef, hn, or_true, if_true]; exact take_ref_short H hz rfl hn
    · have hc : ¬ (false = true ∨ l.length < 40) := by simp; omega
      simp only [rNext, rInt, rSum, rRef, hc, if_false]; exact take_ref_ok H hz rfl (by omega)

set_option maxRecDepth 100000 in
theorem Reader_Int_x {g : Nat} {rv : Value} {l : List UInt8} {bad : Bool} {w0 : World} (H : Has w0 (rdr g rv l bad)) (hz : l.length ≤ 35184372088832) : Does Try.prog 48 [.pointer (some ⟨g, 0, none⟩)] w0 (rdr g rv l bad) (fun _ : Value => Value.int .i64 (rInt (l, bad))) (fun x => rdr g x (rNext 8 (l, bad)).1 (rNext 8 (l, bad)).2) (fun _ => True) := by
  refine enter (n := 5) Try.func48 rfl rfl rfl ?_
  intro fr E
  have M : Mem w0 (feet (rdr g rv l bad)) (rdr g rv l bad) (fun _ => True) w0 := Mem.begin H (fun _ _ => trivial)
  refine code_region ?_
  refine sv (v := _) E rfl rfl rfl rfl rfl (run_assignC rfl) fun fr E => ?_
  refine seq_nil' ?_
  refine code_region ?_
  refine sv (v := _) E rfl rfl rfl rfl rfl (run_move rfl rfl) fun fr E => ?_
  refine scallI (rdr g rv l bad) E M rfl rfl rfl rfl rfl (run_call rfl rfl T.fn79) rfl (fun H => take_number H hz) ?_
  rintro rv2 fr w - M E
  refine sv (v := _) E rfl rfl rfl rfl rfl (run_assign rfl rfl) fun fr E => ?_
  refine seq_nil' ?_
  refine wp_ret ?_
  refine ret1 E rfl rfl ?_
  exact ⟨_, rfl, M.fin (List.Sublist.refl _) trivial⟩

set_option maxRecDepth 100000 in
theorem Reader_Sum_x {g : Nat} {rv : Value} {l : List UInt8} {bad : Bool} {w0 : World} (H : Has w0 (rdr g rv l bad)) (hz : l.length ≤ 35184372088832) : Does Try.prog 49 [.pointer (some ⟨g, 0, none⟩)] w0 (rdr g rv l bad) (fun _ : Value => Value.agg (bc (rSum (l, bad))).toArray) (fun x => rdr g x (rNext 32 (l, bad)).1 (rNext 32 (l, bad)).2) (fun _ => True) := by
  refine enter (n := 5) Try.func49 rfl rfl rfl ?_
  intro fr E
  have M : Mem w0 (feet (rdr g rv l bad)) (rdr g rv l bad) (fun _ => True) w0 := Mem.begin H (fun _ _ => trivial)
  refine code_region ?_
  refine snew (ob := .cells _ 23) (fun g => .pointer (some ⟨g, 0, none⟩)) E M rfl rfl rfl rfl rfl (run_allocN rfl T.zero23) fun g0 fr w M E => ?_
  refine seq_nil' ?_
  refine code_region ?_
  refine sv (v := _) E rfl rfl rfl rfl rfl (run_move rfl rfl) fun fr E => ?_
  have M := M.pull 2 rfl
  have M := M.pull 2 rfl
  refine scallI (rdr g rv l bad) E M rfl rfl rfl rfl rfl (run_call rfl rfl T.fn81) rfl (fun H => take_digest H hz) ?_
  rintro rv2 fr w - M E
  refine sset (i := 2) (cs' := (bc (rSum (l, bad))).toArray) E M rfl rfl rfl rfl rfl (run_storeAll (vs := (bc (rSum (l, bad))).toArray) rfl rfl rfl T.size23 (by simp [rSum_len, rRef_len]) (M.row (i := 2) rfl) rfl (by simpa using bc_one _)) rfl fun fr w M E => ?_
  refine seq_nil' ?_
  refine wp_ret ?_
  refine retC E rfl rfl T.agg23 (M.row (i := 2) rfl) (by simp [rSum_len, rRef_len]) ?_
  exact ⟨_, rfl, M.fin (by first | exact List.Sublist.refl _ | exact .cons _ (.refl _) | exact .cons_cons _ (.cons_cons _ (.cons _ .slnil))) trivial⟩

set_option maxRecDepth 100000 in
theorem Reader_Ref_x {g : Nat} {rv : Value} {l : List UInt8} {bad : Bool} {w0 : World} (H : Has w0 (rdr g rv l bad)) (hz : l.length ≤ 35184372088832) : Does Try.prog 50 [.pointer (some ⟨g, 0, none⟩)] w0 (rdr g rv l bad) (fun _ : Value => Value.agg (Value.int .i64 (rRef (l, bad)).1 :: bc (rRef (l, bad)).2).toArray) (fun x => rdr g x (rNext 40 (l, bad)).1 (rNext 40 (l, bad)).2) (fun _ => True) := by
  refine enter (n := 5) Try.func50 rfl rfl rfl ?_
  intro fr E
  have M : Mem w0 (feet (rdr g rv l bad)) (rdr g rv l bad) (fun _ => True) w0 := Mem.begin H (fun _ _ => trivial)
  refine code_region ?_
  refine snew (ob := .cells _ 25) (fun g => .pointer (some ⟨g, 0, none⟩)) E M rfl rfl rfl rfl rfl (run_allocN rfl T.zero25) fun g0 fr w M E => ?_
  refine seq_nil' ?_
  refine code_region ?_
  refine sv (v := _) E rfl rfl rfl rfl rfl (run_move rfl rfl) fun fr E => ?_
  have M := M.pull 2 rfl
  have M := M.pull 2 rfl
  refine scallI (rdr g rv l bad) E M rfl rfl rfl rfl rfl (run_call rfl rfl T.fn83) rfl (fun H => take_ref H hz) ?_
  rintro rv2 fr w - M E
  refine sset (i := 2) (cs' := (Value.int .i64 (rRef (l, bad)).1 :: bc (rRef (l, bad)).2).toArray) E M rfl rfl rfl rfl rfl (run_storeAll (vs := (Value.int .i64 (rRef (l, bad)).1 :: bc (rRef (l, bad)).2).toArray) rfl rfl rfl T.size25 (by simp [rSum_len, rRef_len]) (M.row (i := 2) rfl) rfl (by intro v hv; simp only [List.mem_cons] at hv; rcases hv with rfl | hv; rfl; exact bc_one _ v hv)) rfl fun fr w M E => ?_
  refine seq_nil' ?_
  refine wp_ret ?_
  refine retC E rfl rfl T.agg25 (M.row (i := 2) rfl) (by simp [rSum_len, rRef_len]) ?_
  exact ⟨_, rfl, M.fin (by first | exact List.Sublist.refl _ | exact .cons _ (.refl _) | exact .cons_cons _ (.cons_cons _ (.cons _ .slnil))) trivial⟩

set_option maxRecDepth 100000 in
theorem End_bad {g : Nat} {rv : Value} {l : List UInt8} {bad : Bool} {w0 : World} (H : Has w0 (rdr g rv l bad)) (hz : l.length ≤ 35184372088832) (hb : bad = true) : Does Try.prog 51 [.pointer (some ⟨g, 0, none⟩)] w0 (rdr g rv l bad) (fun _ : Unit => .int .i64 4) (fun _ => rdr g rv l bad) (fun _ => True) := by
  refine enter (n := 15) Try.func51 rfl rfl rfl ?_
  intro fr E
  have M : Mem w0 (feet (rdr g rv l bad)) (rdr g rv l bad) (fun _ => True) w0 := Mem.begin H (fun _ _ => trivial)
  subst hb
  refine code_region ?_
  refine sv (v := _) E rfl rfl rfl rfl rfl (run_assignC rfl) fun fr E => ?_
  refine seq_nil' ?_
  refine wp_seq ?_
  refine wp_block ?_
  refine code_region ?_
  refine sv (v := _) E rfl rfl rfl rfl rfl (run_move rfl rfl) fun fr E => ?_
  refine sv (v := _) E rfl rfl rfl rfl rfl (run_nilCheck rfl rfl) fun fr E => ?_
  refine sv (v := .pointer (some ⟨_, 1, none⟩)) E rfl rfl rfl rfl rfl (run_fieldAddr rfl rfl T.fld110_1) fun fr E => ?_
  refine sv (v := .bool _) E rfl rfl rfl rfl rfl (run_loadB rfl rfl T.one4 (M.row (i := 0) rfl) rfl) fun fr E => ?_
  refine sv (v := _) E rfl rfl rfl rfl rfl (run_assign rfl rfl) fun fr E => ?_
  refine seq_nil' ?_
  refine cond_true E rfl (rfl) ?_
  refine code_region ?_
  refine sv (v := _) E rfl rfl rfl rfl rfl (run_assignC rfl) fun fr E => ?_
  refine seq_nil' ?_
  refine wp_ret ?_
  refine block_ret ?_
  refine then_ret ?_
  refine ret1 E rfl rfl ?_
  exact ⟨(), rfl, M.fin (List.Sublist.refl _) trivial⟩

set_option maxRecDepth 100000 in
theorem End_long {g : Nat} {rv : Value} {l : List UInt8} {bad : Bool} {w0 : World} (H : Has w0 (rdr g rv l bad)) (hz : l.length ≤ 35184372088832) (hb : bad = false) (hl : 0 < l.length) : Does Try.prog 51 [.pointer (some ⟨g, 0, none⟩)] w0 (rdr g rv l bad) (fun _ : Unit => .int .i64 3) (fun _ => rdr g rv l bad) (fun _ => True) := by
  refine enter (n := 15) Try.func51 rfl rfl rfl ?_
  intro fr E
  have M : Mem w0 (feet (rdr g rv l bad)) (rdr g rv l bad) (fun _ => True) w0 := Mem.begin H (fun _ _ => trivial)
  subst hb
  refine code_region ?_
  refine sv (v := _) E rfl rfl rfl rfl rfl (run_assignC rfl) fun fr E => ?_
  refine seq_nil' ?_
  refine wp_seq ?_
  refine wp_block ?_
  refine code_region ?_
  refine sv (v := _) E rfl rfl rfl rfl rfl (run_move rfl rfl) fun fr E => ?_
  refine sv (v := _) E rfl rfl rfl rfl rfl (run_nilCheck rfl rfl) fun fr E => ?_
  refine sv (v := .pointer (some ⟨_, 1, none⟩)) E rfl rfl rfl rfl rfl (run_fieldAddr rfl rfl T.fld110_1) fun fr E => ?_
  refine sv (v := .bool _) E rfl rfl rfl rfl rfl (run_loadB rfl rfl T.one4 (M.row (i := 0) rfl) rfl) fun fr E => ?_
  refine sv (v := _) E rfl rfl rfl rfl rfl (run_assign rfl rfl) fun fr E => ?_
  refine seq_nil' ?_
  refine cond_false E rfl (rfl) ?_
  refine code_region ?_
  refine sv (v := _) E rfl rfl rfl rfl rfl (run_move rfl rfl) fun fr E => ?_
  refine sv (v := _) E rfl rfl rfl rfl rfl (run_nilCheck rfl rfl) fun fr E => ?_
  refine sv (v := .pointer (some ⟨_, 0, none⟩)) E rfl rfl rfl rfl rfl (run_fieldAddr rfl rfl T.fld110_0) fun fr E => ?_
  refine sv (v := _) E rfl rfl rfl rfl rfl (run_loadB rfl rfl T.one30 (M.row (i := 0) rfl) rfl) fun fr E => ?_
  refine sv (v := .int .i64 _) E rfl rfl rfl rfl rfl (run_lenR rfl rfl rfl rfl T.slice30 (M.subs 1 rfl)) fun fr E => ?_
  refine sv (v := .bool true) E rfl rfl rfl rfl rfl (tst rfl (decide_eq_true (by omega))) fun fr E => ?_
  refine sv (v := _) E rfl rfl rfl rfl rfl (run_assign rfl rfl) fun fr E => ?_
  refine seq_nil' ?_
  refine cond_true E rfl (rfl) ?_
  refine code_region ?_
  refine sv (v := _) E rfl rfl rfl rfl rfl (run_assignC rfl) fun fr E => ?_
  refine seq_nil' ?_
  refine wp_ret ?_
  refine block_ret ?_
  refine then_ret ?_
  refine ret1 E rfl rfl ?_
  exact ⟨(), rfl, M.fin (List.Sublist.refl _) trivial⟩

set_option maxRecDepth 100000 in
theorem End_ok {g : Nat} {rv : Value} {l : List UInt8} {bad : Bool} {w0 : World} (H : Has w0 (rdr g rv l bad)) (hz : l.length ≤ 35184372088832) (hb : bad = false) (hl : l.length = 0) : Does Try.prog 51 [.pointer (some ⟨g, 0, none⟩)] w0 (rdr g rv l bad) (fun _ : Unit => .int .i64 0) (fun _ => rdr g rv l bad) (fun _ => True) := by
  refine enter (n := 15) Try.func51 rfl rfl rfl ?_
  intro fr E
  have M : Mem w0 (feet (rdr g rv l bad)) (rdr g rv l bad) (fun _ => True) w0 := Mem.begin H (fun _ _ => trivial)
  subst hb
  refine code_region ?_
  refine sv (v := _) E rfl rfl rfl rfl rfl (run_assignC rfl) fun fr E => ?_
  refine seq_nil' ?_
  refine wp_seq ?_
  refine wp_block ?_
  refine code_region ?_
  refine sv (v := _) E rfl rfl rfl rfl rfl (run_move rfl rfl) fun fr E => ?_
  refine sv (v := _) E rfl rfl rfl rfl rfl (run_nilCheck rfl rfl) fun fr E => ?_
  refine sv (v := .pointer (some ⟨_, 1, none⟩)) E rfl rfl rfl rfl rfl (run_fieldAddr rfl rfl T.fld110_1) fun fr E => ?_
  refine sv (v := .bool _) E rfl rfl rfl rfl rfl (run_loadB rfl rfl T.one4 (M.row (i := 0) rfl) rfl) fun fr E => ?_
  refine sv (v := _) E rfl rfl rfl rfl rfl (run_assign rfl rfl) fun fr E => ?_
  refine seq_nil' ?_
  refine cond_false E rfl (rfl) ?_
  refine code_region ?_
  refine sv (v := _) E rfl rfl rfl rfl rfl (run_move rfl rfl) fun fr E => ?_
  refine sv (v := _) E rfl rfl rfl rfl rfl (run_nilCheck rfl rfl) fun fr E => ?_
  refine sv (v := .pointer (some ⟨_, 0, none⟩)) E rfl rfl rfl rfl rfl (run_fieldAddr rfl rfl T.fld110_0) fun fr E => ?_
  refine sv (v := _) E rfl rfl rfl rfl rfl (run_loadB rfl rfl T.one30 (M.row (i := 0) rfl) rfl) fun fr E => ?_
  refine sv (v := .int .i64 _) E rfl rfl rfl rfl rfl (run_lenR rfl rfl rfl rfl T.slice30 (M.subs 1 rfl)) fun fr E => ?_
  refine sv (v := .bool false) E rfl rfl rfl rfl rfl (tst rfl (decide_eq_false (by omega))) fun fr E => ?_
  refine sv (v := _) E rfl rfl rfl rfl rfl (run_assign rfl rfl) fun fr E => ?_
  refine seq_nil' ?_
  refine cond_false E rfl (rfl) ?_
  refine wp_skip ?_
  refine block_normal ?_
  refine then_normal ?_
  refine code_region ?_
  refine sv (v := _) E rfl rfl rfl rfl rfl (run_assignC rfl) fun fr E => ?_
  refine seq_nil' ?_
  refine wp_ret ?_
  refine ret1 E rfl rfl ?_
  exact ⟨(), rfl, M.fin (List.Sublist.refl _) trivial⟩

theorem End_x {g : Nat} {rv : Value} {l : List UInt8} {bad : Bool} {w0 : World} (H : Has w0 (rdr g rv l bad)) (hz : l.length ≤ 35184372088832) : Does Try.prog 51 [.pointer (some ⟨g, 0, none⟩)] w0 (rdr g rv l bad) (fun _ : Unit => .int .i64 (rEnd (l, bad))) (fun _ => rdr g rv l bad) (fun _ => True) := by
  cases bad with
  | true => exact End_bad H hz rfl
  | false =>
    by_cases hl : 0 < l.length
    · simp only [rEnd, hl, if_true, Bool.false_eq_true, if_false]; exact End_long H hz rfl hl
    · simp only [rEnd, hl, Bool.false_eq_true, if_false]; exact End_ok H hz rfl (by omega)

set_option maxRecDepth 100000 in
theorem Read_x {b : Value} {l : List UInt8} {w0 : World} (hb : Bytes w0 b l) (hz : l.length ≤ 35184372088832) : Does Try.prog 47 [b] w0 [] (fun x : Nat × Value => .pointer (some ⟨x.1, 0, none⟩)) (fun x => rdr x.1 x.2 l false) (fun _ => True) := by
  refine enter (n := 7) Try.func47 rfl rfl rfl ?_
  intro fr E
  have M : Mem w0 (feet []) [] (fun w' => Bytes w' b l) w0 := Mem.begin (Has.nil w0) (fun w' h => hb.held0 h)
  refine code_region ?_
  refine sv (v := _) E rfl rfl rfl rfl rfl (run_assignC rfl) fun fr E => ?_
  refine seq_nil' ?_
  refine code_region ?_
  refine sv (v := _) E rfl rfl rfl rfl rfl (run_move rfl rfl) fun fr E => ?_
  refine scall E M rfl rfl rfl rfl rfl (run_call rfl rfl T.fn75) (behind_x (k := []) M.fact (Bytes.nil _) (by simp; omega)) rfl ?_
  rintro s fr w - M E
  have M := M.as (L' := [.bytes 5 s l]) (by simp)
  obtain ⟨sb, sc, hs⟩ := Reads.slice (M.bytes 0 rfl); subst hs
  refine sv (v := .agg ([Value.slice sb l.length sc, .bool false]).toArray) E rfl rfl rfl rfl rfl (run_buildP (vs := [.slice sb l.length sc]) (us := [Value.slice sb l.length sc, .bool false]) rfl rfl T.ts110 T.zeroL110 (rfl) rfl rfl (rfl)) fun fr E => ?_
  refine snew (ob := .cells (#[.slice sb l.length sc, .bool false]) 110) (fun g => .pointer (some ⟨g, 0, none⟩)) E M rfl rfl rfl rfl rfl (run_boxN (cs := (#[.slice sb l.length sc, .bool false])) rfl rfl) fun g0 fr w M E => ?_
  refine sv (v := _) E rfl rfl rfl rfl rfl (run_assign rfl rfl) fun fr E => ?_
  refine seq_nil' ?_
  refine wp_ret ?_
  refine ret1 E rfl rfl ?_
  have M := M.asSub 1 rfl
  exact ⟨(_, _), rfl, M.fin (List.Sublist.refl _) trivial⟩
end Go.Proofs.Ytnojooafgehhaaa.K
end
section
namespace Go.Proofs.Ytnojooafgehhaaa.K
open Go.RowKit Go.Rill Go.Proofs
set_option linter.unusedVariables false
set_option linter.unusedSimpArgs false
def idxOf (q : Int → Bool) (l : List Int) : Int := match l.findIdx? q with | some i => i | none => -1
theorem idxOf_none {q : Int → Bool} {l : List Int} (h : ∀ j, ∀ hj : j < l.length, q l[j] = false) : idxOf q l = -1 := by
  have : l.findIdx? q = none := by
    rw [List.findIdx?_eq_none_iff]
    intro x hx
    obtain ⟨j, hj, rfl⟩ := List.getElem_of_mem hx
    exact h j hj
  simp [idxOf, this]
theorem idxOf_some {q : Int → Bool} {l : List Int} {i : Nat} (hi : i < l.length) (h : q l[i] = true) (hno : ∀ j, j < i → ∀ hj : j < l.length, q l[j] = false) : idxOf q l = (i : Int) := by
  have : l.findIdx? q = some i := by
    rw [List.findIdx?_eq_some_iff_getElem]
    exact ⟨hi, h, fun j hj => by simpa using hno j hj (by omega)⟩
  simp [idxOf, this]
theorem idxOf_any {q : Int → Bool} {l : List Int} : decide (idxOf q l ≥ 0) = l.any q := by
  unfold idxOf
  cases h : l.findIdx? q with
  | none =>
    rw [List.findIdx?_eq_none_iff] at h
    have : l.any q = false := by simpa using h
    simp [this]
  | some i =>
    rw [List.findIdx?_eq_some_iff_getElem] at h
    obtain ⟨h1, h2, _⟩ := h
    have : l.any q = true := List.any_eq_true.2 ⟨_, List.getElem_mem h1, h2⟩
    rw [this]
    exact decide_eq_true (show (i : Int) ≥ 0 by omega)
set_option maxRecDepth 100000 in
theorem within_1 {n lo hi : Int} {w0 : World} (h : lo ≤ n) : Gives Try.prog 72 [.int .i64 n, .int .i64 lo, .int .i64 hi] w0 (.bool (decide (n ≤ hi))) := by
  refine enter (n := 15) Try.func72 rfl rfl rfl ?_
  intro fr E
  have M : Mem w0 (feet []) [] (fun _ => True) w0 := Mem.begin (Has.nil w0) (fun _ _ => trivial)
  refine code_region ?_
  refine sv (v := _) E rfl rfl rfl rfl rfl (run_assignC rfl) fun fr E => ?_
  refine seq_nil' ?_
  refine code_region ?_
  refine sv (v := _) E rfl rfl rfl rfl rfl (run_move rfl rfl) fun fr E => ?_
  refine sv (v := _) E rfl rfl rfl rfl rfl (run_move rfl rfl) fun fr E => ?_
  refine sv (v := .bool true) E rfl rfl rfl rfl rfl (tst rfl (decide_eq_true h)) fun fr E => ?_
  refine sv (v := _) E rfl rfl rfl rfl rfl (run_move rfl rfl) fun fr E => ?_
  refine sv (v := _) E rfl rfl rfl rfl rfl (run_move rfl rfl) fun fr E => ?_
  refine sv (v := _) E rfl rfl rfl rfl rfl (run_move rfl rfl) fun fr E => ?_
  refine sv (v := .bool _) E rfl rfl rfl rfl rfl (rfl) fun fr E => ?_
  refine sv (v := .bool _) E rfl rfl rfl rfl rfl (rfl) fun fr E => ?_
  refine sv (v := _) E rfl rfl rfl rfl rfl (run_assign rfl rfl) fun fr E => ?_
  refine seq_nil' ?_
  refine wp_ret ?_
  refine ret1 E rfl rfl ?_
  exact given M

set_option maxRecDepth 100000 in
theorem within_2 {n lo hi : Int} {w0 : World} (h : ¬ lo ≤ n) : Gives Try.prog 72 [.int .i64 n, .int .i64 lo, .int .i64 hi] w0 (.bool false) := by
  refine enter (n := 15) Try.func72 rfl rfl rfl ?_
  intro fr E
  have M : Mem w0 (feet []) [] (fun _ => True) w0 := Mem.begin (Has.nil w0) (fun _ _ => trivial)
  refine code_region ?_
  refine sv (v := _) E rfl rfl rfl rfl rfl (run_assignC rfl) fun fr E => ?_
  refine seq_nil' ?_
  refine code_region ?_
  refine sv (v := _) E rfl rfl rfl rfl rfl (run_move rfl rfl) fun fr E => ?_
  refine sv (v := _) E rfl rfl rfl rfl rfl (run_move rfl rfl) fun fr E => ?_
  refine sv (v := .bool false) E rfl rfl rfl rfl rfl (tst rfl (decide_eq_false h)) fun fr E => ?_
  refine sv (v := _) E rfl rfl rfl rfl rfl (run_move rfl rfl) fun fr E => ?_
  refine sno E rfl rfl rfl rfl fun fr E => ?_
  refine sno E rfl rfl rfl rfl fun fr E => ?_
  refine sno E rfl rfl rfl rfl fun fr E => ?_
  refine sv (v := .bool _) E rfl rfl rfl rfl rfl (rfl) fun fr E => ?_
  refine sv (v := _) E rfl rfl rfl rfl rfl (run_assign rfl rfl) fun fr E => ?_
  refine seq_nil' ?_
  refine wp_ret ?_
  refine ret1 E rfl rfl ?_
  exact given M

theorem within_x (n lo hi : Int) (w0 : World) : Gives Try.prog 72 [.int .i64 n, .int .i64 lo, .int .i64 hi] w0 (.bool (decide (lo ≤ n ∧ n ≤ hi))) := by
  by_cases h : lo ≤ n
  · have e : decide (lo ≤ n ∧ n ≤ hi) = decide (n ≤ hi) := by simp [h]
    rw [e]; exact within_1 h
  · have e : decide (lo ≤ n ∧ n ≤ hi) = false := by simp [h]
    rw [e]; exact within_2 h

set_option maxRecDepth 100000 in
theorem placed_1 {s q : Int} {w0 : World} (h : 0 ≤ s ∧ s ≤ 31) : Gives Try.prog 74 [.agg #[.int .i64 s, .int .i64 q]] w0 (.bool (decide (0 ≤ q ∧ q ≤ 63))) := by
  refine enter (n := 11) Try.func74 rfl rfl rfl ?_
  intro fr E
  have M : Mem w0 (feet []) [] (fun _ => True) w0 := Mem.begin (Has.nil w0) (fun _ _ => trivial)
  refine code_region ?_
  refine snew (ob := .cells #[_, _] 27) (fun g => .pointer (some ⟨g, 0, none⟩)) E M rfl rfl rfl rfl rfl (run_boxN (cs := #[_, _]) rfl rfl) fun g0 fr w M E => ?_
  refine sv (v := _) E rfl rfl rfl rfl rfl (run_assignC rfl) fun fr E => ?_
  refine seq_nil' ?_
  refine code_region ?_
  refine sv (v := .pointer (some ⟨_, 0, none⟩)) E rfl rfl rfl rfl rfl (run_fieldAddr rfl rfl T.fld27_0) fun fr E => ?_
  refine sv (v := .int .i64 _) E rfl rfl rfl rfl rfl (run_loadB rfl rfl T.one3 (M.row (i := 0) rfl) rfl) fun fr E => ?_
  refine sgive E M rfl rfl rfl rfl rfl (run_call rfl rfl T.fn72) (within_x _ _ _ _) fun fr w M E => ?_
  rw [decide_eq_true h] at E
  refine sv (v := _) E rfl rfl rfl rfl rfl (run_move rfl rfl) fun fr E => ?_
  refine sv (v := .pointer (some ⟨_, 1, none⟩)) E rfl rfl rfl rfl rfl (run_fieldAddr rfl rfl T.fld27_1) fun fr E => ?_
  refine sv (v := .int .i64 _) E rfl rfl rfl rfl rfl (run_loadB rfl rfl T.one3 (M.row (i := 0) rfl) rfl) fun fr E => ?_
  refine sgive E M rfl rfl rfl rfl rfl (run_call rfl rfl T.fn72) (within_x _ _ _ _) fun fr w M E => ?_
  refine sv (v := .bool _) E rfl rfl rfl rfl rfl (rfl) fun fr E => ?_
  refine sv (v := _) E rfl rfl rfl rfl rfl (run_assign rfl rfl) fun fr E => ?_
  refine seq_nil' ?_
  refine wp_ret ?_
  refine ret1 E rfl rfl ?_
  exact given M

set_option maxRecDepth 100000 in
theorem placed_2 {s q : Int} {w0 : World} (h : ¬ (0 ≤ s ∧ s ≤ 31)) : Gives Try.prog 74 [.agg #[.int .i64 s, .int .i64 q]] w0 (.bool false) := by
  refine enter (n := 11) Try.func74 rfl rfl rfl ?_
  intro fr E
  have M : Mem w0 (feet []) [] (fun _ => True) w0 := Mem.begin (Has.nil w0) (fun _ _ => trivial)
  refine code_region ?_
  refine snew (ob := .cells #[_, _] 27) (fun g => .pointer (some ⟨g, 0, none⟩)) E M rfl rfl rfl rfl rfl (run_boxN (cs := #[_, _]) rfl rfl) fun g0 fr w M E => ?_
  refine sv (v := _) E rfl rfl rfl rfl rfl (run_assignC rfl) fun fr E => ?_
  refine seq_nil' ?_
  refine code_region ?_
  refine sv (v := .pointer (some ⟨_, 0, none⟩)) E rfl rfl rfl rfl rfl (run_fieldAddr rfl rfl T.fld27_0) fun fr E => ?_
  refine sv (v := .int .i64 _) E rfl rfl rfl rfl rfl (run_loadB rfl rfl T.one3 (M.row (i := 0) rfl) rfl) fun fr E => ?_
  refine sgive E M rfl rfl rfl rfl rfl (run_call rfl rfl T.fn72) (within_x _ _ _ _) fun fr w M E => ?_
  rw [decide_eq_false h] at E
  refine sv (v := _) E rfl rfl rfl rfl rfl (run_move rfl rfl) fun fr E => ?_
  refine sno E rfl rfl rfl rfl fun fr E => ?_
  refine sno E rfl rfl rfl rfl fun fr E => ?_
  refine sno E rfl rfl rfl rfl fun fr E => ?_
  refine sv (v := .bool _) E rfl rfl rfl rfl rfl (rfl) fun fr E => ?_
  refine sv (v := _) E rfl rfl rfl rfl rfl (run_assign rfl rfl) fun fr E => ?_
  refine seq_nil' ?_
  refine wp_ret ?_
  refine ret1 E rfl rfl ?_
  exact given M

theorem placed_x (s q : Int) (w0 : World) : Gives Try.prog 74 [.agg #[.int .i64 s, .int .i64 q]] w0 (.bool (decide (RPl s q))) := by
  by_cases h : 0 ≤ s ∧ s ≤ 31
  · have e : decide (RPl s q) = decide (0 ≤ q ∧ q ≤ 63) := by simp [RPl, h]
    rw [e]; exact placed_1 h
  · have e : decide (RPl s q) = false := by simp [RPl, h]
    rw [e]; exact placed_2 h

set_option maxRecDepth 100000 in
theorem IndexFunc_int {b : Value} {l : List Int} {w0 : World} {f : FuncId} {q : Int → Bool} (hf : goFn Try.prog f = true) (hq : ∀ n w, Gives Try.prog f [.int .i64 n] w (.bool (q n))) (hb : Ints w0 b l) (hz : l.length ≤ 35184372088832) : Gives Try.prog 93 [b, .func (.func f) #[] #[]] w0 (.int .i64 (idxOf q l)) := by
  refine enter (n := 19) Try.func93 rfl rfl rfl ?_
  intro fr E
  have M : Mem w0 (feet []) [] (fun w' => Ints w' b l) w0 := Mem.begin (Has.nil w0) (fun w' h => hb.held0 h)
  refine code_region ?_
  refine sv (v := _) E rfl rfl rfl rfl rfl (run_assignC rfl) fun fr E => ?_
  refine seq_nil' ?_
  refine wp_seq ?_
  refine code_region ?_
  refine sv (v := _) E rfl rfl rfl rfl rfl (run_move rfl rfl) fun fr E => ?_
  refine sv (v := .int .i64 _) E rfl rfl rfl rfl rfl (run_lenR rfl rfl rfl rfl T.slice58 M.fact) fun fr E => ?_
  refine sv (v := _) E rfl rfl rfl rfl rfl (run_moveC rfl) fun fr E => ?_
  refine seq_nil' ?_
  refine wp_block ?_
  refine loop_dec (fun d fr w => ∃ i : Nat, d = l.length - i ∧ i ≤ l.length ∧ (∀ j, j < i → ∀ hj : j < l.length, q l[j] = false) ∧ Env [(8, .int .i64 i), (7, .int .i64 l.length), (6, b), (1, .func (.func f) #[] #[]), (0, b)] 19 fr ∧ Mem w0 (feet []) [] (fun w' => Ints w' b l) w) (l.length) ?_ ?_
  · refine ⟨0, rfl, Nat.zero_le _, fun j hj => absurd hj (by omega), (((((Env.nil E).add E (t := 0) rfl).add E (t := 1) rfl).add E (t := 6) rfl).add E (t := 7) rfl).add E (t := 8) rfl, M⟩
  · clear E M
    rintro d fr w ⟨i, rfl, hle, hno, E, M⟩
    by_cases hi : i < l.length
    · cases hq' : q l[i] with
      | false =>
        refine code_region ?_
        refine sv (v := .bool true) E rfl rfl rfl rfl rfl (tst rfl (decide_eq_true (by omega))) fun fr E => ?_
        refine seq_nil' ?_
        refine wp_seq ?_
        refine cond_true E rfl (rfl) ?_
        refine wp_skip ?_
        refine then_normal ?_
        refine wp_seq ?_
        refine wp_block ?_
        refine code_region ?_
        refine sv (v := _) E rfl rfl rfl rfl rfl (run_move rfl rfl) fun fr E => ?_
        refine sv (v := _) E rfl rfl rfl rfl rfl (run_assign rfl rfl) fun fr E => ?_
        refine seq_nil' ?_
        refine code_region ?_
        refine sv (v := _) E rfl rfl rfl rfl rfl (run_move rfl rfl) fun fr E => ?_
        refine sv (v := _) E rfl rfl rfl rfl rfl (run_move rfl rfl) fun fr E => ?_
        refine sv (v := _) E rfl rfl rfl rfl rfl (run_move rfl rfl) fun fr E => ?_
        refine sv (v := _) E rfl rfl rfl rfl rfl (run_indexR (i := i) rfl M.fact rfl rfl (rfl) (hi) T.slice58 T.size3) fun fr E => ?_
        refine sv (v := .int .i64 l[i]) E rfl rfl rfl rfl rfl (run_loadR rfl M.fact rfl T.one3 (by rw [Nat.mul_one]; exact ic_get hi)) fun fr E => ?_
        refine sgive E M rfl rfl rfl rfl rfl (run_callV rfl rfl hf) (hq l[i] _) fun fr w M E => ?_
        rw [hq'] at E
        refine seq_nil' ?_
        refine cond_false E rfl (rfl) ?_
        refine wp_skip ?_
        refine block_normal ?_
        refine then_normal ?_
        refine code_last ?_
        refine sv (v := .int _ (((i + 1 : Nat) : Int))) E rfl rfl rfl rfl rfl (num rfl ((i64_id (by omega) (by omega)).trans (by omega))) fun fr E => ?_
        refine sv (v := _) E rfl rfl rfl rfl rfl (run_move rfl rfl) fun fr E => ?_
        refine seq_nil ?_
        refine then_any ?_
        refine ⟨l.length - (i + 1), by omega, i + 1, rfl, by omega, fun j hj hj2 => ?_, (((((Env.nil E).add E (t := 0) rfl).add E (t := 1) rfl).add E (t := 6) rfl).add E (t := 7) rfl).add E (t := 8) rfl, M⟩
        rcases Nat.lt_or_eq_of_le (Nat.le_of_lt_succ hj) with h | rfl
        · exact hno j h hj2
        · exact hq'
      | true =>
        refine code_region ?_
        refine sv (v := .bool true) E rfl rfl rfl rfl rfl (tst rfl (decide_eq_true (by omega))) fun fr E => ?_
        refine seq_nil' ?_
        refine wp_seq ?_
        refine cond_true E rfl (rfl) ?_
        refine wp_skip ?_
        refine then_normal ?_
        refine wp_seq ?_
        refine wp_block ?_
        refine code_region ?_
        refine sv (v := _) E rfl rfl rfl rfl rfl (run_move rfl rfl) fun fr E => ?_
        refine sv (v := _) E rfl rfl rfl rfl rfl (run_assign rfl rfl) fun fr E => ?_
        refine seq_nil' ?_
        refine code_region ?_
        refine sv (v := _) E rfl rfl rfl rfl rfl (run_move rfl rfl) fun fr E => ?_
        refine sv (v := _) E rfl rfl rfl rfl rfl (run_move rfl rfl) fun fr E => ?_
        refine sv (v := _) E rfl rfl rfl rfl rfl (run_move rfl rfl) fun fr E => ?_
        refine sv (v := _) E rfl rfl rfl rfl rfl (run_indexR (i := i) rfl M.fact rfl rfl (rfl) (hi) T.slice58 T.size3) fun fr E => ?_
        refine sv (v := .int .i64 l[i]) E rfl rfl rfl rfl rfl (run_loadR rfl M.fact rfl T.one3 (by rw [Nat.mul_one]; exact ic_get hi)) fun fr E => ?_
        refine sgive E M rfl rfl rfl rfl rfl (run_callV rfl rfl hf) (hq l[i] _) fun fr w M E => ?_
        rw [hq'] at E
        refine seq_nil' ?_
        refine cond_true E rfl (rfl) ?_
        refine code_region ?_
        refine sv (v := _) E rfl rfl rfl rfl rfl (run_move rfl rfl) fun fr E => ?_
        refine sv (v := _) E rfl rfl rfl rfl rfl (run_assign rfl rfl) fun fr E => ?_
        refine seq_nil' ?_
        refine wp_ret ?_
        refine block_ret ?_
        refine then_ret ?_
        refine then_ret ?_
        refine block_ret ?_
        refine then_ret ?_
        refine ret1 E rfl rfl ?_
        have e : idxOf q l = (i : Int) := idxOf_some hi hq' hno
        rw [e]
        exact given M
    · refine code_region ?_
      refine sv (v := .bool false) E rfl rfl rfl rfl rfl (tst rfl (decide_eq_false (by omega))) fun fr E => ?_
      refine seq_nil' ?_
      refine wp_seq ?_
      refine cond_false E rfl (rfl) ?_
      refine wp_exit ?_
      refine then_exit ?_
      refine then_exit ?_
      refine block_exit ?_
      refine then_normal ?_
      refine code_region ?_
      refine sv (v := _) E rfl rfl rfl rfl rfl (run_assignC rfl) fun fr E => ?_
      refine seq_nil' ?_
      refine wp_ret ?_
      refine ret1 E rfl rfl ?_
      have e : idxOf q l = -1 := idxOf_none fun j hj => hno j (by omega) hj
      rw [e]
      exact given M

set_option maxRecDepth 100000 in
theorem ContainsFunc_int {b : Value} {l : List Int} {w0 : World} {f : FuncId} {q : Int → Bool} (hf : goFn Try.prog f = true) (hq : ∀ n w, Gives Try.prog f [.int .i64 n] w (.bool (q n))) (hb : Ints w0 b l) (hz : l.length ≤ 35184372088832) : Gives Try.prog 73 [b, .func (.func f) #[] #[]] w0 (.bool (l.any q)) := by
  refine enter (n := 9) Try.func73 rfl rfl rfl ?_
  intro fr E
  have M : Mem w0 (feet []) [] (fun w' => Ints w' b l) w0 := Mem.begin (Has.nil w0) (fun w' h => hb.held0 h)
  refine code_region ?_
  refine sv (v := _) E rfl rfl rfl rfl rfl (run_assignC rfl) fun fr E => ?_
  refine seq_nil' ?_
  refine code_region ?_
  refine sv (v := _) E rfl rfl rfl rfl rfl (run_move rfl rfl) fun fr E => ?_
  refine sv (v := _) E rfl rfl rfl rfl rfl (run_move rfl rfl) fun fr E => ?_
  refine sgive E M rfl rfl rfl rfl rfl (run_call rfl rfl T.fn93) (IndexFunc_int hf hq M.fact hz) fun fr w M E => ?_
  refine sv (v := .bool _) E rfl rfl rfl rfl rfl (rfl) fun fr E => ?_
  refine sv (v := _) E rfl rfl rfl rfl rfl (run_assign rfl rfl) fun fr E => ?_
  refine seq_nil' ?_
  refine wp_ret ?_
  refine ret1 E rfl rfl ?_
  rw [← idxOf_any]
  exact given M

set_option maxRecDepth 100000 in
theorem may1_x (n : Int) (w0 : World) : Gives Try.prog 71 [.int .i64 n] w0 (.bool (!decide (1 ≤ n ∧ n ≤ 1099511627776))) := by
  refine enter (n := 6) Try.func71 rfl rfl rfl ?_
  intro fr E
  have M : Mem w0 (feet []) [] (fun _ => True) w0 := Mem.begin (Has.nil w0) (fun _ _ => trivial)
  refine code_region ?_
  refine sv (v := _) E rfl rfl rfl rfl rfl (run_assignC rfl) fun fr E => ?_
  refine seq_nil' ?_
  refine code_region ?_
  refine sv (v := _) E rfl rfl rfl rfl rfl (run_move rfl rfl) fun fr E => ?_
  refine sgive E M rfl rfl rfl rfl rfl (run_call rfl rfl T.fn72) (within_x _ _ _ _) fun fr w M E => ?_
  refine sv (v := .bool _) E rfl rfl rfl rfl rfl (rfl) fun fr E => ?_
  refine sv (v := _) E rfl rfl rfl rfl rfl (run_assign rfl rfl) fun fr E => ?_
  refine seq_nil' ?_
  refine wp_ret ?_
  refine ret1 E rfl rfl ?_
  exact given M

set_option maxRecDepth 100000 in
theorem may_eq_any {r : Rec} {w0 : World} (hr : r.Ok) (he : (r.rat = 0 ∧ r.rsum = List.replicate 32 0)) (ha : ([r.gen, r.stamp, r.epoch].any fun n => !decide (1 ≤ n ∧ n ≤ 1099511627776)) = true) : Gives Try.prog 38 [r.val] w0 (.bool false) := by
  refine enter (n := 40) Try.func38 rfl rfl rfl ?_
  intro fr E
  have M : Mem w0 (feet []) [] (fun _ => True) w0 := Mem.begin (Has.nil w0) (fun _ _ => trivial)
  refine code_region ?_
  refine snew (ob := .cells (r.cells.toArray) 29) (fun g => .pointer (some ⟨g, 0, none⟩)) E M rfl rfl rfl rfl rfl (run_boxN (cs := (r.cells.toArray)) rfl rfl) fun g0 fr w M E => ?_
  refine sv (v := _) E rfl rfl rfl rfl rfl (run_assignC rfl) fun fr E => ?_
  refine seq_nil' ?_
  refine code_region ?_
  refine sv (v := .pointer (some ⟨_, 0, none⟩)) E rfl rfl rfl rfl rfl (run_fieldAddr rfl rfl T.fld29_0) fun fr E => ?_
  refine sv (v := .int .i64 _) E rfl rfl rfl rfl rfl (run_loadB rfl rfl T.one3 (M.row (i := 0) rfl) Rec.c_gen) fun fr E => ?_
  refine sv (v := .pointer (some ⟨_, 1, none⟩)) E rfl rfl rfl rfl rfl (run_fieldAddr rfl rfl T.fld29_1) fun fr E => ?_
  refine sv (v := .int .i64 _) E rfl rfl rfl rfl rfl (run_loadB rfl rfl T.one3 (M.row (i := 0) rfl) Rec.c_stamp) fun fr E => ?_
  refine sv (v := .pointer (some ⟨_, 2, none⟩)) E rfl rfl rfl rfl rfl (run_fieldAddr rfl rfl T.fld29_2) fun fr E => ?_
  refine sv (v := .int .i64 _) E rfl rfl rfl rfl rfl (run_loadB rfl rfl T.one3 (M.row (i := 0) rfl) Rec.c_epoch) fun fr E => ?_
  refine srow (sz := 1) (xs := _) E M rfl rfl rfl rfl rfl (run_buildSliceA (us := [_, _, _]) (vs := [_, _, _]) rfl rfl rfl T.slice58 T.size3 T.zl3 rfl rfl rfl rfl rfl) (rfl) (Nat.le_refl _) (by decide) (rfl) fun s fr w M E => ?_
  refine sv (v := _) E rfl rfl rfl rfl rfl (run_assign rfl rfl) fun fr E => ?_
  refine seq_nil' ?_
  refine code_region ?_
  refine sv (v := .func (.func 71) #[] #[]) E rfl rfl rfl rfl rfl (rfl) fun fr E => ?_
  refine seq_nil' ?_
  refine code_region ?_
  refine sv (v := .pointer (some ⟨_, 35, none⟩)) E rfl rfl rfl rfl rfl (run_fieldAddr rfl rfl T.fld29_4) fun fr E => ?_
  refine sv (v := .agg (iv r.rat :: bc r.rsum).toArray) E rfl rfl rfl rfl rfl (run_loadN' (vs := (iv r.rat :: bc r.rsum).toArray) rfl rfl T.agg25 (M.row (i := 1) rfl) (by simp [Rec.len hr]) (congrArg List.toArray (Rec.m_root hr))) fun fr E => ?_
  refine sv (v := .agg (iv 0 :: bc (List.replicate 32 0)).toArray) E rfl rfl rfl rfl rfl (run_buildP (vs := []) (us := iv 0 :: bc (List.replicate 32 0)) rfl rfl T.ts25 T.zeroL25 (rfl) rfl rfl (rfl)) fun fr E => ?_
  refine sv (v := .bool true) E rfl rfl rfl rfl rfl (run_eqF (b := true) rfl rfl rfl T.flat25 (fit_ref hr.rsum) (fit_ref (by simp)) (by rw [ref_eq]; simp [he])) fun fr E => ?_
  refine sv (v := _) E rfl rfl rfl rfl rfl (run_move rfl rfl) fun fr E => ?_
  refine sno E rfl rfl rfl rfl fun fr E => ?_
  refine sno E rfl rfl rfl rfl fun fr E => ?_
  refine sno E rfl rfl rfl rfl fun fr E => ?_
  refine sno E rfl rfl rfl rfl fun fr E => ?_
  refine sv (v := .bool _) E rfl rfl rfl rfl rfl (rfl) fun fr E => ?_
  refine sv (v := _) E rfl rfl rfl rfl rfl (run_assign rfl rfl) fun fr E => ?_
  refine seq_nil' ?_
  refine code_region ?_
  refine sv (v := _) E rfl rfl rfl rfl rfl (run_move rfl rfl) fun fr E => ?_
  refine sv (v := _) E rfl rfl rfl rfl rfl (run_move rfl rfl) fun fr E => ?_
  refine sgive E M rfl rfl rfl rfl rfl (run_call rfl rfl T.fn73) (ContainsFunc_int (l := [r.gen, r.stamp, r.epoch]) T.fn71 (fun n w => may1_x n w) (M.reads 0 rfl) (by simp)) fun fr w M E => ?_
  rw [ha] at E
  refine sv (v := .bool _) E rfl rfl rfl rfl rfl (rfl) fun fr E => ?_
  refine sv (v := _) E rfl rfl rfl rfl rfl (run_move rfl rfl) fun fr E => ?_
  refine sno E rfl rfl rfl rfl fun fr E => ?_
  refine sv (v := .bool _) E rfl rfl rfl rfl rfl (rfl) fun fr E => ?_
  refine sv (v := _) E rfl rfl rfl rfl rfl (run_move rfl rfl) fun fr E => ?_
  refine sno E rfl rfl rfl rfl fun fr E => ?_
  refine sno E rfl rfl rfl rfl fun fr E => ?_
  refine sno E rfl rfl rfl rfl fun fr E => ?_
  refine sv (v := .bool _) E rfl rfl rfl rfl rfl (rfl) fun fr E => ?_
  refine sv (v := _) E rfl rfl rfl rfl rfl (run_move rfl rfl) fun fr E => ?_
  refine sno E rfl rfl rfl rfl fun fr E => ?_
  refine sno E rfl rfl rfl rfl fun fr E => ?_
  refine sno E rfl rfl rfl rfl fun fr E => ?_
  refine sv (v := .bool _) E rfl rfl rfl rfl rfl (rfl) fun fr E => ?_
  refine sv (v := _) E rfl rfl rfl rfl rfl (run_assign rfl rfl) fun fr E => ?_
  refine seq_nil' ?_
  refine wp_ret ?_
  refine ret1 E rfl rfl ?_
  exact given M

set_option maxRecDepth 100000 in
theorem may_eq_nb {r : Rec} {w0 : World} (hr : r.Ok) (he : (r.rat = 0 ∧ r.rsum = List.replicate 32 0)) (ha : ([r.gen, r.stamp, r.epoch].any fun n => !decide (1 ≤ n ∧ n ≤ 1099511627776)) = false) (hb : ¬ RPl r.bseg r.bslot) : Gives Try.prog 38 [r.val] w0 (.bool false) := by
  refine enter (n := 40) Try.func38 rfl rfl rfl ?_
  intro fr E
  have M : Mem w0 (feet []) [] (fun _ => True) w0 := Mem.begin (Has.nil w0) (fun _ _ => trivial)
  refine code_region ?_
  refine snew (ob := .cells (r.cells.toArray) 29) (fun g => .pointer (some ⟨g, 0, none⟩)) E M rfl rfl rfl rfl rfl (run_boxN (cs := (r.cells.toArray)) rfl rfl) fun g0 fr w M E => ?_
  refine sv (v := _) E rfl rfl rfl rfl rfl (run_assignC rfl) fun fr E => ?_
  refine seq_nil' ?_
  refine code_region ?_
  refine sv (v := .pointer (some ⟨_, 0, none⟩)) E rfl rfl rfl rfl rfl (run_fieldAddr rfl rfl T.fld29_0) fun fr E => ?_
  refine sv (v := .int .i64 _) E rfl rfl rfl rfl rfl (run_loadB rfl rfl T.one3 (M.row (i := 0) rfl) Rec.c_gen) fun fr E => ?_
  refine sv (v := .pointer (some ⟨_, 1, none⟩)) E rfl rfl rfl rfl rfl (run_fieldAddr rfl rfl T.fld29_1) fun fr E => ?_
  refine sv (v := .int .i64 _) E rfl rfl rfl rfl rfl (run_loadB rfl rfl T.one3 (M.row (i := 0) rfl) Rec.c_stamp) fun fr E => ?_
  refine sv (v := .pointer (some ⟨_, 2, none⟩)) E rfl rfl rfl rfl rfl (run_fieldAddr rfl rfl T.fld29_2) fun fr E => ?_
  refine sv (v := .int .i64 _) E rfl rfl rfl rfl rfl (run_loadB rfl rfl T.one3 (M.row (i := 0) rfl) Rec.c_epoch) fun fr E => ?_
  refine srow (sz := 1) (xs := _) E M rfl rfl rfl rfl rfl (run_buildSliceA (us := [_, _, _]) (vs := [_, _, _]) rfl rfl rfl T.slice58 T.size3 T.zl3 rfl rfl rfl rfl rfl) (rfl) (Nat.le_refl _) (by decide) (rfl) fun s fr w M E => ?_
  refine sv (v := _) E rfl rfl rfl rfl rfl (run_assign rfl rfl) fun fr E => ?_
  refine seq_nil' ?_
  refine code_region ?_
  refine sv (v := .func (.func 71) #[] #[]) E rfl rfl rfl rfl rfl (rfl) fun fr E => ?_
  refine seq_nil' ?_
  refine code_region ?_
  refine sv (v := .pointer (some ⟨_, 35, none⟩)) E rfl rfl rfl rfl rfl (run_fieldAddr rfl rfl T.fld29_4) fun fr E => ?_
  refine sv (v := .agg (iv r.rat :: bc r.rsum).toArray) E rfl rfl rfl rfl rfl (run_loadN' (vs := (iv r.rat :: bc r.rsum).toArray) rfl rfl T.agg25 (M.row (i := 1) rfl) (by simp [Rec.len hr]) (congrArg List.toArray (Rec.m_root hr))) fun fr E => ?_
  refine sv (v := .agg (iv 0 :: bc (List.replicate 32 0)).toArray) E rfl rfl rfl rfl rfl (run_buildP (vs := []) (us := iv 0 :: bc (List.replicate 32 0)) rfl rfl T.ts25 T.zeroL25 (rfl) rfl rfl (rfl)) fun fr E => ?_
  refine sv (v := .bool true) E rfl rfl rfl rfl rfl (run_eqF (b := true) rfl rfl rfl T.flat25 (fit_ref hr.rsum) (fit_ref (by simp)) (by rw [ref_eq]; simp [he])) fun fr E => ?_
  refine sv (v := _) E rfl rfl rfl rfl rfl (run_move rfl rfl) fun fr E => ?_
  refine sno E rfl rfl rfl rfl fun fr E => ?_
  refine sno E rfl rfl rfl rfl fun fr E => ?_
  refine sno E rfl rfl rfl rfl fun fr E => ?_
  refine sno E rfl rfl rfl rfl fun fr E => ?_
  refine sv (v := .bool _) E rfl rfl rfl rfl rfl (rfl) fun fr E => ?_
  refine sv (v := _) E rfl rfl rfl rfl rfl (run_assign rfl rfl) fun fr E => ?_
  refine seq_nil' ?_
  refine code_region ?_
  refine sv (v := _) E rfl rfl rfl rfl rfl (run_move rfl rfl) fun fr E => ?_
  refine sv (v := _) E rfl rfl rfl rfl rfl (run_move rfl rfl) fun fr E => ?_
  refine sgive E M rfl rfl rfl rfl rfl (run_call rfl rfl T.fn73) (ContainsFunc_int (l := [r.gen, r.stamp, r.epoch]) T.fn71 (fun n w => may1_x n w) (M.reads 0 rfl) (by simp)) fun fr w M E => ?_
  rw [ha] at E
  refine sv (v := .bool _) E rfl rfl rfl rfl rfl (rfl) fun fr E => ?_
  refine sv (v := _) E rfl rfl rfl rfl rfl (run_move rfl rfl) fun fr E => ?_
  refine sv (v := _) E rfl rfl rfl rfl rfl (run_move rfl rfl) fun fr E => ?_
  refine sv (v := .bool _) E rfl rfl rfl rfl rfl (rfl) fun fr E => ?_
  refine sv (v := _) E rfl rfl rfl rfl rfl (run_move rfl rfl) fun fr E => ?_
  refine sv (v := .pointer (some ⟨_, 68, none⟩)) E rfl rfl rfl rfl rfl (run_fieldAddr rfl rfl T.fld29_5) fun fr E => ?_
  refine sv (v := .agg ([iv r.bseg, iv r.bslot]).toArray) E rfl rfl rfl rfl rfl (run_loadN' (vs := ([iv r.bseg, iv r.bslot]).toArray) rfl rfl T.agg27 (M.row (i := 1) rfl) (by simp [Rec.len hr]) (congrArg List.toArray (Rec.m_base hr))) fun fr E => ?_
  refine sgive E M rfl rfl rfl rfl rfl (run_call rfl rfl T.fn74) (placed_x _ _ _) fun fr w M E => ?_
  rw [decide_eq_false hb] at E
  refine sv (v := .bool _) E rfl rfl rfl rfl rfl (rfl) fun fr E => ?_
  refine sv (v := _) E rfl rfl rfl rfl rfl (run_move rfl rfl) fun fr E => ?_
  refine sno E rfl rfl rfl rfl fun fr E => ?_
  refine sno E rfl rfl rfl rfl fun fr E => ?_
  refine sno E rfl rfl rfl rfl fun fr E => ?_
  refine sv (v := .bool _) E rfl rfl rfl rfl rfl (rfl) fun fr E => ?_
  refine sv (v := _) E rfl rfl rfl rfl rfl (run_assign rfl rfl) fun fr E => ?_
  refine seq_nil' ?_
  refine wp_ret ?_
  refine ret1 E rfl rfl ?_
  exact given M

set_option maxRecDepth 100000 in
theorem may_eq_b {r : Rec} {w0 : World} (hr : r.Ok) (he : (r.rat = 0 ∧ r.rsum = List.replicate 32 0)) (ha : ([r.gen, r.stamp, r.epoch].any fun n => !decide (1 ≤ n ∧ n ≤ 1099511627776)) = false) (hb : RPl r.bseg r.bslot) : Gives Try.prog 38 [r.val] w0 (.bool (decide (RPl r.tseg r.tslot))) := by
  refine enter (n := 40) Try.func38 rfl rfl rfl ?_
  intro fr E
  have M : Mem w0 (feet []) [] (fun _ => True) w0 := Mem.begin (Has.nil w0) (fun _ _ => trivial)
  refine code_region ?_
  refine snew (ob := .cells (r.cells.toArray) 29) (fun g => .pointer (some ⟨g, 0, none⟩)) E M rfl rfl rfl rfl rfl (run_boxN (cs := (r.cells.toArray)) rfl rfl) fun g0 fr w M E => ?_
  refine sv (v := _) E rfl rfl rfl rfl rfl (run_assignC rfl) fun fr E => ?_
  refine seq_nil' ?_
  refine code_region ?_
  refine sv (v := .pointer (some ⟨_, 0, none⟩)) E rfl rfl rfl rfl rfl (run_fieldAddr rfl rfl T.fld29_0) fun fr E => ?_
  refine sv (v := .int .i64 _) E rfl rfl rfl rfl rfl (run_loadB rfl rfl T.one3 (M.row (i := 0) rfl) Rec.c_gen) fun fr E => ?_
  refine sv (v := .pointer (some ⟨_, 1, none⟩)) E rfl rfl rfl rfl rfl (run_fieldAddr rfl rfl T.fld29_1) fun fr E => ?_
  refine sv (v := .int .i64 _) E rfl rfl rfl rfl rfl (run_loadB rfl rfl T.one3 (M.row (i := 0) rfl) Rec.c_stamp) fun fr E => ?_
  refine sv (v := .pointer (some ⟨_, 2, none⟩)) E rfl rfl rfl rfl rfl (run_fieldAddr rfl rfl T.fld29_2) fun fr E => ?_
  refine sv (v := .int .i64 _) E rfl rfl rfl rfl rfl (run_loadB rfl rfl T.one3 (M.row (i := 0) rfl) Rec.c_epoch) fun fr E => ?_
  refine srow (sz := 1) (xs := _) E M rfl rfl rfl rfl rfl (run_buildSliceA (us := [_, _, _]) (vs := [_, _, _]) rfl rfl rfl T.slice58 T.size3 T.zl3 rfl rfl rfl rfl rfl) (rfl) (Nat.le_refl _) (by decide) (rfl) fun s fr w M E => ?_
  refine sv (v := _) E rfl rfl rfl rfl rfl (run_assign rfl rfl) fun fr E => ?_
  refine seq_nil' ?_
  refine code_region ?_
  refine sv (v := .func (.func 71) #[] #[]) E rfl rfl rfl rfl rfl (rfl) fun fr E => ?_
  refine seq_nil' ?_
  refine code_region ?_
  refine sv (v := .pointer (some ⟨_, 35, none⟩)) E rfl rfl rfl rfl rfl (run_fieldAddr rfl rfl T.fld29_4) fun fr E => ?_
  refine sv (v := .agg (iv r.rat :: bc r.rsum).toArray) E rfl rfl rfl rfl rfl (run_loadN' (vs := (iv r.rat :: bc r.rsum).toArray) rfl rfl T.agg25 (M.row (i := 1) rfl) (by simp [Rec.len hr]) (congrArg List.toArray (Rec.m_root hr))) fun fr E => ?_
  refine sv (v := .agg (iv 0 :: bc (List.replicate 32 0)).toArray) E rfl rfl rfl rfl rfl (run_buildP (vs := []) (us := iv 0 :: bc (List.replicate 32 0)) rfl rfl T.ts25 T.zeroL25 (rfl) rfl rfl (rfl)) fun fr E => ?_
  refine sv (v := .bool true) E rfl rfl rfl rfl rfl (run_eqF (b := true) rfl rfl rfl T.flat25 (fit_ref hr.rsum) (fit_ref (by simp)) (by rw [ref_eq]; simp [he])) fun fr E => ?_
  refine sv (v := _) E rfl rfl rfl rfl rfl (run_move rfl rfl) fun fr E => ?_
  refine sno E rfl rfl rfl rfl fun fr E => ?_
  refine sno E rfl rfl rfl rfl fun fr E => ?_
  refine sno E rfl rfl rfl rfl fun fr E => ?_
  refine sno E rfl rfl rfl rfl fun fr E => ?_
  refine sv (v := .bool _) E rfl rfl rfl rfl rfl (rfl) fun fr E => ?_
  refine sv (v := _) E rfl rfl rfl rfl rfl (run_assign rfl rfl) fun fr E => ?_
  refine seq_nil' ?_
  refine code_region ?_
  refine sv (v := _) E rfl rfl rfl rfl rfl (run_move rfl rfl) fun fr E => ?_
  refine sv (v := _) E rfl rfl rfl rfl rfl (run_move rfl rfl) fun fr E => ?_
  refine sgive E M rfl rfl rfl rfl rfl (run_call rfl rfl T.fn73) (ContainsFunc_int (l := [r.gen, r.stamp, r.epoch]) T.fn71 (fun n w => may1_x n w) (M.reads 0 rfl) (by simp)) fun fr w M E => ?_
  rw [ha] at E
  refine sv (v := .bool _) E rfl rfl rfl rfl rfl (rfl) fun fr E => ?_
  refine sv (v := _) E rfl rfl rfl rfl rfl (run_move rfl rfl) fun fr E => ?_
  refine sv (v := _) E rfl rfl rfl rfl rfl (run_move rfl rfl) fun fr E => ?_
  refine sv (v := .bool _) E rfl rfl rfl rfl rfl (rfl) fun fr E => ?_
  refine sv (v := _) E rfl rfl rfl rfl rfl (run_move rfl rfl) fun fr E => ?_
  refine sv (v := .pointer (some ⟨_, 68, none⟩)) E rfl rfl rfl rfl rfl (run_fieldAddr rfl rfl T.fld29_5) fun fr E => ?_
  refine sv (v := .agg ([iv r.bseg, iv r.bslot]).toArray) E rfl rfl rfl rfl rfl (run_loadN' (vs := ([iv r.bseg, iv r.bslot]).toArray) rfl rfl T.agg27 (M.row (i := 1) rfl) (by simp [Rec.len hr]) (congrArg List.toArray (Rec.m_base hr))) fun fr E => ?_
  refine sgive E M rfl rfl rfl rfl rfl (run_call rfl rfl T.fn74) (placed_x _ _ _) fun fr w M E => ?_
  rw [decide_eq_true hb] at E
  refine sv (v := .bool _) E rfl rfl rfl rfl rfl (rfl) fun fr E => ?_
  refine sv (v := _) E rfl rfl rfl rfl rfl (run_move rfl rfl) fun fr E => ?_
  refine sv (v := .pointer (some ⟨_, 70, none⟩)) E rfl rfl rfl rfl rfl (run_fieldAddr rfl rfl T.fld29_6) fun fr E => ?_
  refine sv (v := .agg ([iv r.tseg, iv r.tslot]).toArray) E rfl rfl rfl rfl rfl (run_loadN' (vs := ([iv r.tseg, iv r.tslot]).toArray) rfl rfl T.agg27 (M.row (i := 1) rfl) (by simp [Rec.len hr]) (congrArg List.toArray (Rec.m_tail hr))) fun fr E => ?_
  refine sgive E M rfl rfl rfl rfl rfl (run_call rfl rfl T.fn74) (placed_x _ _ _) fun fr w M E => ?_
  refine sv (v := .bool _) E rfl rfl rfl rfl rfl (rfl) fun fr E => ?_
  refine sv (v := _) E rfl rfl rfl rfl rfl (run_assign rfl rfl) fun fr E => ?_
  refine seq_nil' ?_
  refine wp_ret ?_
  refine ret1 E rfl rfl ?_
  exact given M

set_option maxRecDepth 100000 in
theorem may_in_any {r : Rec} {w0 : World} (hr : r.Ok) (he : ¬ (r.rat = 0 ∧ r.rsum = List.replicate 32 0)) (hi : (3 ≤ r.rat ∧ r.rat ≤ 4095)) (ha : ([r.gen, r.stamp, r.epoch].any fun n => !decide (1 ≤ n ∧ n ≤ 1099511627776)) = true) : Gives Try.prog 38 [r.val] w0 (.bool false) := by
  refine enter (n := 40) Try.func38 rfl rfl rfl ?_
  intro fr E
  have M : Mem w0 (feet []) [] (fun _ => True) w0 := Mem.begin (Has.nil w0) (fun _ _ => trivial)
  refine code_region ?_
  refine snew (ob := .cells (r.cells.toArray) 29) (fun g => .pointer (some ⟨g, 0, none⟩)) E M rfl rfl rfl rfl rfl (run_boxN (cs := (r.cells.toArray)) rfl rfl) fun g0 fr w M E => ?_
  refine sv (v := _) E rfl rfl rfl rfl rfl (run_assignC rfl) fun fr E => ?_
  refine seq_nil' ?_
  refine code_region ?_
  refine sv (v := .pointer (some ⟨_, 0, none⟩)) E rfl rfl rfl rfl rfl (run_fieldAddr rfl rfl T.fld29_0) fun fr E => ?_
  refine sv (v := .int .i64 _) E rfl rfl rfl rfl rfl (run_loadB rfl rfl T.one3 (M.row (i := 0) rfl) Rec.c_gen) fun fr E => ?_
  refine sv (v := .pointer (some ⟨_, 1, none⟩)) E rfl rfl rfl rfl rfl (run_fieldAddr rfl rfl T.fld29_1) fun fr E => ?_
  refine sv (v := .int .i64 _) E rfl rfl rfl rfl rfl (run_loadB rfl rfl T.one3 (M.row (i := 0) rfl) Rec.c_stamp) fun fr E => ?_
  refine sv (v := .pointer (some ⟨_, 2, none⟩)) E rfl rfl rfl rfl rfl (run_fieldAddr rfl rfl T.fld29_2) fun fr E => ?_
  refine sv (v := .int .i64 _) E rfl rfl rfl rfl rfl (run_loadB rfl rfl T.one3 (M.row (i := 0) rfl) Rec.c_epoch) fun fr E => ?_
  refine srow (sz := 1) (xs := _) E M rfl rfl rfl rfl rfl (run_buildSliceA (us := [_, _, _]) (vs := [_, _, _]) rfl rfl rfl T.slice58 T.size3 T.zl3 rfl rfl rfl rfl rfl) (rfl) (Nat.le_refl _) (by decide) (rfl) fun s fr w M E => ?_
  refine sv (v := _) E rfl rfl rfl rfl rfl (run_assign rfl rfl) fun fr E => ?_
  refine seq_nil' ?_
  refine code_region ?_
  refine sv (v := .func (.func 71) #[] #[]) E rfl rfl rfl rfl rfl (rfl) fun fr E => ?_
  refine seq_nil' ?_
  refine code_region ?_
  refine sv (v := .pointer (some ⟨_, 35, none⟩)) E rfl rfl rfl rfl rfl (run_fieldAddr rfl rfl T.fld29_4) fun fr E => ?_
  refine sv (v := .agg (iv r.rat :: bc r.rsum).toArray) E rfl rfl rfl rfl rfl (run_loadN' (vs := (iv r.rat :: bc r.rsum).toArray) rfl rfl T.agg25 (M.row (i := 1) rfl) (by simp [Rec.len hr]) (congrArg List.toArray (Rec.m_root hr))) fun fr E => ?_
  refine sv (v := .agg (iv 0 :: bc (List.replicate 32 0)).toArray) E rfl rfl rfl rfl rfl (run_buildP (vs := []) (us := iv 0 :: bc (List.replicate 32 0)) rfl rfl T.ts25 T.zeroL25 (rfl) rfl rfl (rfl)) fun fr E => ?_
  refine sv (v := .bool false) E rfl rfl rfl rfl rfl (run_eqF (b := false) rfl rfl rfl T.flat25 (fit_ref hr.rsum) (fit_ref (by simp)) (by rw [ref_eq]; simp only [Bool.false_eq_true, false_iff]; exact he)) fun fr E => ?_
  refine sv (v := _) E rfl rfl rfl rfl rfl (run_move rfl rfl) fun fr E => ?_
  refine sv (v := .pointer (some ⟨_, 35, none⟩)) E rfl rfl rfl rfl rfl (run_fieldAddr rfl rfl T.fld29_4) fun fr E => ?_
  refine sv (v := .pointer (some ⟨_, 35, none⟩)) E rfl rfl rfl rfl rfl (run_fieldAddr rfl rfl T.fld25_0) fun fr E => ?_
  refine sv (v := .int .i64 _) E rfl rfl rfl rfl rfl (run_loadB rfl rfl T.one3 (M.row (i := 1) rfl) (Rec.c_rat hr)) fun fr E => ?_
  refine sgive E M rfl rfl rfl rfl rfl (run_call rfl rfl T.fn72) (within_x _ _ _ _) fun fr w M E => ?_
  rw [decide_eq_true hi] at E
  refine sv (v := .bool _) E rfl rfl rfl rfl rfl (rfl) fun fr E => ?_
  refine sv (v := _) E rfl rfl rfl rfl rfl (run_assign rfl rfl) fun fr E => ?_
  refine seq_nil' ?_
  refine code_region ?_
  refine sv (v := _) E rfl rfl rfl rfl rfl (run_move rfl rfl) fun fr E => ?_
  refine sv (v := _) E rfl rfl rfl rfl rfl (run_move rfl rfl) fun fr E => ?_
  refine sgive E M rfl rfl rfl rfl rfl (run_call rfl rfl T.fn73) (ContainsFunc_int (l := [r.gen, r.stamp, r.epoch]) T.fn71 (fun n w => may1_x n w) (M.reads 0 rfl) (by simp)) fun fr w M E => ?_
  rw [ha] at E
  refine sv (v := .bool _) E rfl rfl rfl rfl rfl (rfl) fun fr E => ?_
  refine sv (v := _) E rfl rfl rfl rfl rfl (run_move rfl rfl) fun fr E => ?_
  refine sno E rfl rfl rfl rfl fun fr E => ?_
  refine sv (v := .bool _) E rfl rfl rfl rfl rfl (rfl) fun fr E => ?_
  refine sv (v := _) E rfl rfl rfl rfl rfl (run_move rfl rfl) fun fr E => ?_
  refine sno E rfl rfl rfl rfl fun fr E => ?_
  refine sno E rfl rfl rfl rfl fun fr E => ?_
  refine sno E rfl rfl rfl rfl fun fr E => ?_
  refine sv (v := .bool _) E rfl rfl rfl rfl rfl (rfl) fun fr E => ?_
  refine sv (v := _) E rfl rfl rfl rfl rfl (run_move rfl rfl) fun fr E => ?_
  refine sno E rfl rfl rfl rfl fun fr E => ?_
  refine sno E rfl rfl rfl rfl fun fr E => ?_
  refine sno E rfl rfl rfl rfl fun fr E => ?_
  refine sv (v := .bool _) E rfl rfl rfl rfl rfl (rfl) fun fr E => ?_
  refine sv (v := _) E rfl rfl rfl rfl rfl (run_assign rfl rfl) fun fr E => ?_
  refine seq_nil' ?_
  refine wp_ret ?_
  refine ret1 E rfl rfl ?_
  exact given M

set_option maxRecDepth 100000 in
theorem may_in_nb {r : Rec} {w0 : World} (hr : r.Ok) (he : ¬ (r.rat = 0 ∧ r.rsum = List.replicate 32 0)) (hi : (3 ≤ r.rat ∧ r.rat ≤ 4095)) (ha : ([r.gen, r.stamp, r.epoch].any fun n => !decide (1 ≤ n ∧ n ≤ 1099511627776)) = false) (hb : ¬ RPl r.bseg r.bslot) : Gives Try.prog 38 [r.val] w0 (.bool false) := by
  refine enter (n := 40) Try.func38 rfl rfl rfl ?_
  intro fr E
  have M : Mem w0 (feet []) [] (fun _ => True) w0 := Mem.begin (Has.nil w0) (fun _ _ => trivial)
  refine code_region ?_
  refine snew (ob := .cells (r.cells.toArray) 29) (fun g => .pointer (some ⟨g, 0, none⟩)) E M rfl rfl rfl rfl rfl (run_boxN (cs := (r.cells.toArray)) rfl rfl) fun g0 fr w M E => ?_
  refine sv (v := _) E rfl rfl rfl rfl rfl (run_assignC rfl) fun fr E => ?_
  refine seq_nil' ?_
  refine code_region ?_
  refine sv (v := .pointer (some ⟨_, 0, none⟩)) E rfl rfl rfl rfl rfl (run_fieldAddr rfl rfl T.fld29_0) fun fr E => ?_
  refine sv (v := .int .i64 _) E rfl rfl rfl rfl rfl (run_loadB rfl rfl T.one3 (M.row (i := 0) rfl) Rec.c_gen) fun fr E => ?_
  refine sv (v := .pointer (some ⟨_, 1, none⟩)) E rfl rfl rfl rfl rfl (run_fieldAddr rfl rfl T.fld29_1) fun fr E => ?_
  refine sv (v := .int .i64 _) E rfl rfl rfl rfl rfl (run_loadB rfl rfl T.one3 (M.row (i := 0) rfl) Rec.c_stamp) fun fr E => ?_
  refine sv (v := .pointer (some ⟨_, 2, none⟩)) E rfl rfl rfl rfl rfl (run_fieldAddr rfl rfl T.fld29_2) fun fr E => ?_
  refine sv (v := .int .i64 _) E rfl rfl rfl rfl rfl (run_loadB rfl rfl T.one3 (M.row (i := 0) rfl) Rec.c_epoch) fun fr E => ?_
  refine srow (sz := 1) (xs := _) E M rfl rfl rfl rfl rfl (run_buildSliceA (us := [_, _, _]) (vs := [_, _, _]) rfl rfl rfl T.slice58 T.size3 T.zl3 rfl rfl rfl rfl rfl) (rfl) (Nat.le_refl _) (by decide) (rfl) fun s fr w M E => ?_
  refine sv (v := _) E rfl rfl rfl rfl rfl (run_assign rfl rfl) fun fr E => ?_
  refine seq_nil' ?_
  refine code_region ?_
  refine sv (v := .func (.func 71) #[] #[]) E rfl rfl rfl rfl rfl (rfl) fun fr E => ?_
  refine seq_nil' ?_
  refine code_region ?_
  refine sv (v := .pointer (some ⟨_, 35, none⟩)) E rfl rfl rfl rfl rfl (run_fieldAddr rfl rfl T.fld29_4) fun fr E => ?_
  refine sv (v := .agg (iv r.rat :: bc r.rsum).toArray) E rfl rfl rfl rfl rfl (run_loadN' (vs := (iv r.rat :: bc r.rsum).toArray) rfl rfl T.agg25 (M.row (i := 1) rfl) (by simp [Rec.len hr]) (congrArg List.toArray (Rec.m_root hr))) fun fr E => ?_
  refine sv (v := .agg (iv 0 :: bc (List.replicate 32 0)).toArray) E rfl rfl rfl rfl rfl (run_buildP (vs := []) (us := iv 0 :: bc (List.replicate 32 0)) rfl rfl T.ts25 T.zeroL25 (rfl) rfl rfl (rfl)) fun fr E => ?_
  refine sv (v := .bool false) E rfl rfl rfl rfl rfl (run_eqF (b := false) rfl rfl rfl T.flat25 (fit_ref hr.rsum) (fit_ref (by simp)) (by rw [ref_eq]; simp only [Bool.false_eq_true, false_iff]; exact he)) fun fr E => ?_
  refine sv (v := _) E rfl rfl rfl rfl rfl (run_move rfl rfl) fun fr E => ?_
  refine sv (v := .pointer (some ⟨_, 35, none⟩)) E rfl rfl rfl rfl rfl (run_fieldAddr rfl rfl T.fld29_4) fun fr E => ?_
  refine sv (v := .pointer (some ⟨_, 35, none⟩)) E rfl rfl rfl rfl rfl (run_fieldAddr rfl rfl T.fld25_0) fun fr E => ?_
  refine sv (v := .int .i64 _) E rfl rfl rfl rfl rfl (run_loadB rfl rfl T.one3 (M.row (i := 1) rfl) (Rec.c_rat hr)) fun fr E => ?_
  refine sgive E M rfl rfl rfl rfl rfl (run_call rfl rfl T.fn72) (within_x _ _ _ _) fun fr w M E => ?_
  rw [decide_eq_true hi] at E
  refine sv (v := .bool _) E rfl rfl rfl rfl rfl (rfl) fun fr E => ?_
  refine sv (v := _) E rfl rfl rfl rfl rfl (run_assign rfl rfl) fun fr E => ?_
  refine seq_nil' ?_
  refine code_region ?_
  refine sv (v := _) E rfl rfl rfl rfl rfl (run_move rfl rfl) fun fr E => ?_
  refine sv (v := _) E rfl rfl rfl rfl rfl (run_move rfl rfl) fun fr E => ?_
  refine sgive E M rfl rfl rfl rfl rfl (run_call rfl rfl T.fn73) (ContainsFunc_int (l := [r.gen, r.stamp, r.epoch]) T.fn71 (fun n w => may1_x n w) (M.reads 0 rfl) (by simp)) fun fr w M E => ?_
  rw [ha] at E
  refine sv (v := .bool _) E rfl rfl rfl rfl rfl (rfl) fun fr E => ?_
  refine sv (v := _) E rfl rfl rfl rfl rfl (run_move rfl rfl) fun fr E => ?_
  refine sv (v := _) E rfl rfl rfl rfl rfl (run_move rfl rfl) fun fr E => ?_
  refine sv (v := .bool _) E rfl rfl rfl rfl rfl (rfl) fun fr E => ?_
  refine sv (v := _) E rfl rfl rfl rfl rfl (run_move rfl rfl) fun fr E => ?_
  refine sv (v := .pointer (some ⟨_, 68, none⟩)) E rfl rfl rfl rfl rfl (run_fieldAddr rfl rfl T.fld29_5) fun fr E => ?_
  refine sv (v := .agg ([iv r.bseg, iv r.bslot]).toArray) E rfl rfl rfl rfl rfl (run_loadN' (vs := ([iv r.bseg, iv r.bslot]).toArray) rfl rfl T.agg27 (M.row (i := 1) rfl) (by simp [Rec.len hr]) (congrArg List.toArray (Rec.m_base hr))) fun fr E => ?_
  refine sgive E M rfl rfl rfl rfl rfl (run_call rfl rfl T.fn74) (placed_x _ _ _) fun fr w M E => ?_
  rw [decide_eq_false hb] at E
  refine sv (v := .bool _) E rfl rfl rfl rfl rfl (rfl) fun fr E => ?_
  refine sv (v := _) E rfl rfl rfl rfl rfl (run_move rfl rfl) fun fr E => ?_
  refine sno E rfl rfl rfl rfl fun fr E => ?_
  refine sno E rfl rfl rfl rfl fun fr E => ?_
  refine sno E rfl rfl rfl rfl fun fr E => ?_
  refine sv (v := .bool _) E rfl rfl rfl rfl rfl (rfl) fun fr E => ?_
  refine sv (v := _) E rfl rfl rfl rfl rfl (run_assign rfl rfl) fun fr E => ?_
  refine seq_nil' ?_
  refine wp_ret ?_
  refine ret1 E rfl rfl ?_
  exact given M

set_option maxRecDepth 100000 in
theorem may_in_b {r : Rec} {w0 : World} (hr : r.Ok) (he : ¬ (r.rat = 0 ∧ r.rsum = List.replicate 32 0)) (hi : (3 ≤ r.rat ∧ r.rat ≤ 4095)) (ha : ([r.gen, r.stamp, r.epoch].any fun n => !decide (1 ≤ n ∧ n ≤ 1099511627776)) = false) (hb : RPl r.bseg r.bslot) : Gives Try.prog 38 [r.val] w0 (.bool (decide (RPl r.tseg r.tslot))) := by
  refine enter (n := 40) Try.func38 rfl rfl rfl ?_
  intro fr E
  have M : Mem w0 (feet []) [] (fun _ => True) w0 := Mem.begin (Has.nil w0) (fun _ _ => trivial)
  refine code_region ?_
  refine snew (ob := .cells (r.cells.toArray) 29) (fun g => .pointer (some ⟨g, 0, none⟩)) E M rfl rfl rfl rfl rfl (run_boxN (cs := (r.cells.toArray)) rfl rfl) fun g0 fr w M E => ?_
  refine sv (v := _) E rfl rfl rfl rfl rfl (run_assignC rfl) fun fr E => ?_
  refine seq_nil' ?_
  refine code_region ?_
  refine sv (v := .pointer (some ⟨_, 0, none⟩)) E rfl rfl rfl rfl rfl (run_fieldAddr rfl rfl T.fld29_0) fun fr E => ?_
  refine sv (v := .int .i64 _) E rfl rfl rfl rfl rfl (run_loadB rfl rfl T.one3 (M.row (i := 0) rfl) Rec.c_gen) fun fr E => ?_
  refine sv (v := .pointer (some ⟨_, 1, none⟩)) E rfl rfl rfl rfl rfl (run_fieldAddr rfl rfl T.fld29_1) fun fr E => ?_
  refine sv (v := .int .i64 _) E rfl rfl rfl rfl rfl (run_loadB rfl rfl T.one3 (M.row (i := 0) rfl) Rec.c_stamp) fun fr E => ?_
  refine sv (v := .pointer (some ⟨_, 2, none⟩)) E rfl rfl rfl rfl rfl (run_fieldAddr rfl rfl T.fld29_2) fun fr E => ?_
  refine sv (v := .int .i64 _) E rfl rfl rfl rfl rfl (run_loadB rfl rfl T.one3 (M.row (i := 0) rfl) Rec.c_epoch) fun fr E => ?_
  refine srow (sz := 1) (xs := _) E M rfl rfl rfl rfl rfl (run_buildSliceA (us := [_, _, _]) (vs := [_, _, _]) rfl rfl rfl T.slice58 T.size3 T.zl3 rfl rfl rfl rfl rfl) (rfl) (Nat.le_refl _) (by decide) (rfl) fun s fr w M E => ?_
  refine sv (v := _) E rfl rfl rfl rfl rfl (run_assign rfl rfl) fun fr E => ?_
  refine seq_nil' ?_
  refine code_region ?_
  refine sv (v := .func (.func 71) #[] #[]) E rfl rfl rfl rfl rfl (rfl) fun fr E => ?_
  refine seq_nil' ?_
  refine code_region ?_
  refine sv (v := .pointer (some ⟨_, 35, none⟩)) E rfl rfl rfl rfl rfl (run_fieldAddr rfl rfl T.fld29_4) fun fr E => ?_
  refine sv (v := .agg (iv r.rat :: bc r.rsum).toArray) E rfl rfl rfl rfl rfl (run_loadN' (vs := (iv r.rat :: bc r.rsum).toArray) rfl rfl T.agg25 (M.row (i := 1) rfl) (by simp [Rec.len hr]) (congrArg List.toArray (Rec.m_root hr))) fun fr E => ?_
  refine sv (v := .agg (iv 0 :: bc (List.replicate 32 0)).toArray) E rfl rfl rfl rfl rfl (run_buildP (vs := []) (us := iv 0 :: bc (List.replicate 32 0)) rfl rfl T.ts25 T.zeroL25 (rfl) rfl rfl (rfl)) fun fr E => ?_
  refine sv (v := .bool false) E rfl rfl rfl rfl rfl (run_eqF (b := false) rfl rfl rfl T.flat25 (fit_ref hr.rsum) (fit_ref (by simp)) (by rw [ref_eq]; simp only [Bool.false_eq_true, false_iff]; exact he)) fun fr E => ?_
  refine sv (v := _) E rfl rfl rfl rfl rfl (run_move rfl rfl) fun fr E => ?_
  refine sv (v := .pointer (some ⟨_, 35, none⟩)) E rfl rfl rfl rfl rfl (run_fieldAddr rfl rfl T.fld29_4) fun fr E => ?_
  refine sv (v := .pointer (some ⟨_, 35, none⟩)) E rfl rfl rfl rfl rfl (run_fieldAddr rfl rfl T.fld25_0) fun fr E => ?_
  refine sv (v := .int .i64 _) E rfl rfl rfl rfl rfl (run_loadB rfl rfl T.one3 (M.row (i := 1) rfl) (Rec.c_rat hr)) fun fr E => ?_
  refine sgive E M rfl rfl rfl rfl rfl (run_call rfl rfl T.fn72) (within_x _ _ _ _) fun fr w M E => ?_
  rw [decide_eq_true hi] at E
  refine sv (v := .bool _) E rfl rfl rfl rfl rfl (rfl) fun fr E => ?_
  refine sv (v := _) E rfl rfl rfl rfl rfl (run_assign rfl rfl) fun fr E => ?_
  refine seq_nil' ?_
  refine code_region ?_
  refine sv (v := _) E rfl rfl rfl rfl rfl (run_move rfl rfl) fun fr E => ?_
  refine sv (v := _) E rfl rfl rfl rfl rfl (run_move rfl rfl) fun fr E => ?_
  refine sgive E M rfl rfl rfl rfl rfl (run_call rfl rfl T.fn73) (ContainsFunc_int (l := [r.gen, r.stamp, r.epoch]) T.fn71 (fun n w => may1_x n w) (M.reads 0 rfl) (by simp)) fun fr w M E => ?_
  rw [ha] at E
  refine sv (v := .bool _) E rfl rfl rfl rfl rfl (rfl) fun fr E => ?_
  refine sv (v := _) E rfl rfl rfl rfl rfl (run_move rfl rfl) fun fr E => ?_
  refine sv (v := _) E rfl rfl rfl rfl rfl (run_move rfl rfl) fun fr E => ?_
  refine sv (v := .bool _) E rfl rfl rfl rfl rfl (rfl) fun fr E => ?_
  refine sv (v := _) E rfl rfl rfl rfl rfl (run_move rfl rfl) fun fr E => ?_
  refine sv (v := .pointer (some ⟨_, 68, none⟩)) E rfl rfl rfl rfl rfl (run_fieldAddr rfl rfl T.fld29_5) fun fr E => ?_
  refine sv (v := .agg ([iv r.bseg, iv r.bslot]).toArray) E rfl rfl rfl rfl rfl (run_loadN' (vs := ([iv r.bseg, iv r.bslot]).toArray) rfl rfl T.agg27 (M.row (i := 1) rfl) (by simp [Rec.len hr]) (congrArg List.toArray (Rec.m_base hr))) fun fr E => ?_
  refine sgive E M rfl rfl rfl rfl rfl (run_call rfl rfl T.fn74) (placed_x _ _ _) fun fr w M E => ?_
  rw [decide_eq_true hb] at E
  refine sv (v := .bool _) E rfl rfl rfl rfl rfl (rfl) fun fr E => ?_
  refine sv (v := _) E rfl rfl rfl rfl rfl (run_move rfl rfl) fun fr E => ?_
  refine sv (v := .pointer (some ⟨_, 70, none⟩)) E rfl rfl rfl rfl rfl (run_fieldAddr rfl rfl T.fld29_6) fun fr E => ?_
  refine sv (v := .agg ([iv r.tseg, iv r.tslot]).toArray) E rfl rfl rfl rfl rfl (run_loadN' (vs := ([iv r.tseg, iv r.tslot]).toArray) rfl rfl T.agg27 (M.row (i := 1) rfl) (by simp [Rec.len hr]) (congrArg List.toArray (Rec.m_tail hr))) fun fr E => ?_
  refine sgive E M rfl rfl rfl rfl rfl (run_call rfl rfl T.fn74) (placed_x _ _ _) fun fr w M E => ?_
  refine sv (v := .bool _) E rfl rfl rfl rfl rfl (rfl) fun fr E => ?_
  refine sv (v := _) E rfl rfl rfl rfl rfl (run_assign rfl rfl) fun fr E => ?_
  refine seq_nil' ?_
  refine wp_ret ?_
  refine ret1 E rfl rfl ?_
  exact given M

set_option maxRecDepth 100000 in
theorem may_out_any {r : Rec} {w0 : World} (hr : r.Ok) (he : ¬ (r.rat = 0 ∧ r.rsum = List.replicate 32 0)) (hi : ¬ (3 ≤ r.rat ∧ r.rat ≤ 4095)) (ha : ([r.gen, r.stamp, r.epoch].any fun n => !decide (1 ≤ n ∧ n ≤ 1099511627776)) = true) : Gives Try.prog 38 [r.val] w0 (.bool false) := by
  refine enter (n := 40) Try.func38 rfl rfl rfl ?_
  intro fr E
  have M : Mem w0 (feet []) [] (fun _ => True) w0 := Mem.begin (Has.nil w0) (fun _ _ => trivial)
  refine code_region ?_
  refine snew (ob := .cells (r.cells.toArray) 29) (fun g => .pointer (some ⟨g, 0, none⟩)) E M rfl rfl rfl rfl rfl (run_boxN (cs := (r.cells.toArray)) rfl rfl) fun g0 fr w M E => ?_
  refine sv (v := _) E rfl rfl rfl rfl rfl (run_assignC rfl) fun fr E => ?_
  refine seq_nil' ?_
  refine code_region ?_
  refine sv (v := .pointer (some ⟨_, 0, none⟩)) E rfl rfl rfl rfl rfl (run_fieldAddr rfl rfl T.fld29_0) fun fr E => ?_
  refine sv (v := .int .i64 _) E rfl rfl rfl rfl rfl (run_loadB rfl rfl T.one3 (M.row (i := 0) rfl) Rec.c_gen) fun fr E => ?_
  refine sv (v := .pointer (some ⟨_, 1, none⟩)) E rfl rfl rfl rfl rfl (run_fieldAddr rfl rfl T.fld29_1) fun fr E => ?_
  refine sv (v := .int .i64 _) E rfl rfl rfl rfl rfl (run_loadB rfl rfl T.one3 (M.row (i := 0) rfl) Rec.c_stamp) fun fr E => ?_
  refine sv (v := .pointer (some ⟨_, 2, none⟩)) E rfl rfl rfl rfl rfl (run_fieldAddr rfl rfl T.fld29_2) fun fr E => ?_
  refine sv (v := .int .i64 _) E rfl rfl rfl rfl rfl (run_loadB rfl rfl T.one3 (M.row (i := 0) rfl) Rec.c_epoch) fun fr E => ?_
  refine srow (sz := 1) (xs := _) E M rfl rfl rfl rfl rfl (run_buildSliceA (us := [_, _, _]) (vs := [_, _, _]) rfl rfl rfl T.slice58 T.size3 T.zl3 rfl rfl rfl rfl rfl) (rfl) (Nat.le_refl _) (by decide) (rfl) fun s fr w M E => ?_
  refine sv (v := _) E rfl rfl rfl rfl rfl (run_assign rfl rfl) fun fr E => ?_
  refine seq_nil' ?_
  refine code_region ?_
  refine sv (v := .func (.func 71) #[] #[]) E rfl rfl rfl rfl rfl (rfl) fun fr E => ?_
  refine seq_nil' ?_
  refine code_region ?_
  refine sv (v := .pointer (some ⟨_, 35, none⟩)) E rfl rfl rfl rfl rfl (run_fieldAddr rfl rfl T.fld29_4) fun fr E => ?_
  refine sv (v := .agg (iv r.rat :: bc r.rsum).toArray) E rfl rfl rfl rfl rfl (run_loadN' (vs := (iv r.rat :: bc r.rsum).toArray) rfl rfl T.agg25 (M.row (i := 1) rfl) (by simp [Rec.len hr]) (congrArg List.toArray (Rec.m_root hr))) fun fr E => ?_
  refine sv (v := .agg (iv 0 :: bc (List.replicate 32 0)).toArray) E rfl rfl rfl rfl rfl (run_buildP (vs := []) (us := iv 0 :: bc (List.replicate 32 0)) rfl rfl T.ts25 T.zeroL25 (rfl) rfl rfl (rfl)) fun fr E => ?_
  refine sv (v := .bool false) E rfl rfl rfl rfl rfl (run_eqF (b := false) rfl rfl rfl T.flat25 (fit_ref hr.rsum) (fit_ref (by simp)) (by rw [ref_eq]; simp only [Bool.false_eq_true, false_iff]; exact he)) fun fr E => ?_
  refine sv (v := _) E rfl rfl rfl rfl rfl (run_move rfl rfl) fun fr E => ?_
  refine sv (v := .pointer (some ⟨_, 35, none⟩)) E rfl rfl rfl rfl rfl (run_fieldAddr rfl rfl T.fld29_4) fun fr E => ?_
  refine sv (v := .pointer (some ⟨_, 35, none⟩)) E rfl rfl rfl rfl rfl (run_fieldAddr rfl rfl T.fld25_0) fun fr E => ?_
  refine sv (v := .int .i64 _) E rfl rfl rfl rfl rfl (run_loadB rfl rfl T.one3 (M.row (i := 1) rfl) (Rec.c_rat hr)) fun fr E => ?_
  refine sgive E M rfl rfl rfl rfl rfl (run_call rfl rfl T.fn72) (within_x _ _ _ _) fun fr w M E => ?_
  rw [decide_eq_false hi] at E
  refine sv (v := .bool _) E rfl rfl rfl rfl rfl (rfl) fun fr E => ?_
  refine sv (v := _) E rfl rfl rfl rfl rfl (run_assign rfl rfl) fun fr E => ?_
  refine seq_nil' ?_
  refine code_region ?_
  refine sv (v := _) E rfl rfl rfl rfl rfl (run_move rfl rfl) fun fr E => ?_
  refine sv (v := _) E rfl rfl rfl rfl rfl (run_move rfl rfl) fun fr E => ?_
  refine sgive E M rfl rfl rfl rfl rfl (run_call rfl rfl T.fn73) (ContainsFunc_int (l := [r.gen, r.stamp, r.epoch]) T.fn71 (fun n w => may1_x n w) (M.reads 0 rfl) (by simp)) fun fr w M E => ?_
  rw [ha] at E
  refine sv (v := .bool _) E rfl rfl rfl rfl rfl (rfl) fun fr E => ?_
  refine sv (v := _) E rfl rfl rfl rfl rfl (run_move rfl rfl) fun fr E => ?_
  refine sno E rfl rfl rfl rfl fun fr E => ?_
  refine sv (v := .bool _) E rfl rfl rfl rfl rfl (rfl) fun fr E => ?_
  refine sv (v := _) E rfl rfl rfl rfl rfl (run_move rfl rfl) fun fr E => ?_
  refine sno E rfl rfl rfl rfl fun fr E => ?_
  refine sno E rfl rfl rfl rfl fun fr E => ?_
  refine sno E rfl rfl rfl rfl fun fr E => ?_
  refine sv (v := .bool _) E rfl rfl rfl rfl rfl (rfl) fun fr E => ?_
  refine sv (v := _) E rfl rfl rfl rfl rfl (run_move rfl rfl) fun fr E => ?_
  refine sno E rfl rfl rfl rfl fun fr E => ?_
  refine sno E rfl rfl rfl rfl fun fr E => ?_
  refine sno E rfl rfl rfl rfl fun fr E => ?_
  refine sv (v := .bool _) E rfl rfl rfl rfl rfl (rfl) fun fr E => ?_
  refine sv (v := _) E rfl rfl rfl rfl rfl (run_assign rfl rfl) fun fr E => ?_
  refine seq_nil' ?_
  refine wp_ret ?_
  refine ret1 E rfl rfl ?_
  exact given M

set_option maxRecDepth 100000 in
theorem may_out {r : Rec} {w0 : World} (hr : r.Ok) (he : ¬ (r.rat = 0 ∧ r.rsum = List.replicate 32 0)) (hi : ¬ (3 ≤ r.rat ∧ r.rat ≤ 4095)) (ha : ([r.gen, r.stamp, r.epoch].any fun n => !decide (1 ≤ n ∧ n ≤ 1099511627776)) = false) : Gives Try.prog 38 [r.val] w0 (.bool false) := by
  refine enter (n := 40) Try.func38 rfl rfl rfl ?_
  intro fr E
  have M : Mem w0 (feet []) [] (fun _ => True) w0 := Mem.begin (Has.nil w0) (fun _ _ => trivial)
  refine code_region ?_
  refine snew (ob := .cells (r.cells.toArray) 29) (fun g => .pointer (some ⟨g, 0, none⟩)) E M rfl rfl rfl rfl rfl (run_boxN (cs := (r.cells.toArray)) rfl rfl) fun g0 fr w M E => ?_
  refine sv (v := _) E rfl rfl rfl rfl rfl (run_assignC rfl) fun fr E => ?_
  refine seq_nil' ?_
  refine code_region ?_
  refine sv (v := .pointer (some ⟨_, 0, none⟩)) E rfl rfl rfl rfl rfl (run_fieldAddr rfl rfl T.fld29_0) fun fr E => ?_
  refine sv (v := .int .i64 _) E rfl rfl rfl rfl rfl (run_loadB rfl rfl T.one3 (M.row (i := 0) rfl) Rec.c_gen) fun fr E => ?_
  refine sv (v := .pointer (some ⟨_, 1, none⟩)) E rfl rfl rfl rfl rfl (run_fieldAddr rfl rfl T.fld29_1) fun fr E => ?_
  refine sv (v := .int .i64 _) E rfl rfl rfl rfl rfl (run_loadB rfl rfl T.one3 (M.row (i := 0) rfl) Rec.c_stamp) fun fr E => ?_
  refine sv (v := .pointer (some ⟨_, 2, none⟩)) E rfl rfl rfl rfl rfl (run_fieldAddr rfl rfl T.fld29_2) fun fr E => ?_
  refine sv (v := .int .i64 _) E rfl rfl rfl rfl rfl (run_loadB rfl rfl T.one3 (M.row (i := 0) rfl) Rec.c_epoch) fun fr E => ?_
  refine srow (sz := 1) (xs := _) E M rfl rfl rfl rfl rfl (run_buildSliceA (us := [_, _, _]) (vs := [_, _, _]) rfl rfl rfl T.slice58 T.size3 T.zl3 rfl rfl rfl rfl rfl) (rfl) (Nat.le_refl _) (by decide) (rfl) fun s fr w M E => ?_
  refine sv (v := _) E rfl rfl rfl rfl rfl (run_assign rfl rfl) fun fr E => ?_
  refine seq_nil' ?_
  refine code_region ?_
  refine sv (v := .func (.func 71) #[] #[]) E rfl rfl rfl rfl rfl (rfl) fun fr E => ?_
  refine seq_nil' ?_
  refine code_region ?_
  refine sv (v := .pointer (some ⟨_, 35, none⟩)) E rfl rfl rfl rfl rfl (run_fieldAddr rfl rfl T.fld29_4) fun fr E => ?_
  refine sv (v := .agg (iv r.rat :: bc r.rsum).toArray) E rfl rfl rfl rfl rfl (run_loadN' (vs := (iv r.rat :: bc r.rsum).toArray) rfl rfl T.agg25 (M.row (i := 1) rfl) (by simp [Rec.len hr]) (congrArg List.toArray (Rec.m_root hr))) fun fr E => ?_
  refine sv (v := .agg (iv 0 :: bc (List.replicate 32 0)).toArray) E rfl rfl rfl rfl rfl (run_buildP (vs := []) (us := iv 0 :: bc (List.replicate 32 0)) rfl rfl T.ts25 T.zeroL25 (rfl) rfl rfl (rfl)) fun fr E => ?_
  refine sv (v := .bool false) E rfl rfl rfl rfl rfl (run_eqF (b := false) rfl rfl rfl T.flat25 (fit_ref hr.rsum) (fit_ref (by simp)) (by rw [ref_eq]; simp only [Bool.false_eq_true, false_iff]; exact he)) fun fr E => ?_
  refine sv (v := _) E rfl rfl rfl rfl rfl (run_move rfl rfl) fun fr E => ?_
  refine sv (v := .pointer (some ⟨_, 35, none⟩)) E rfl rfl rfl rfl rfl (run_fieldAddr rfl rfl T.fld29_4) fun fr E => ?_
  refine sv (v := .pointer (some ⟨_, 35, none⟩)) E rfl rfl rfl rfl rfl (run_fieldAddr rfl rfl T.fld25_0) fun fr E => ?_
  refine sv (v := .int .i64 _) E rfl rfl rfl rfl rfl (run_loadB rfl rfl T.one3 (M.row (i := 1) rfl) (Rec.c_rat hr)) fun fr E => ?_
  refine sgive E M rfl rfl rfl rfl rfl (run_call rfl rfl T.fn72) (within_x _ _ _ _) fun fr w M E => ?_
  rw [decide_eq_false hi] at E
  refine sv (v := .bool _) E rfl rfl rfl rfl rfl (rfl) fun fr E => ?_
  refine sv (v := _) E rfl rfl rfl rfl rfl (run_assign rfl rfl) fun fr E => ?_
  refine seq_nil' ?_
  refine code_region ?_
  refine sv (v := _) E rfl rfl rfl rfl rfl (run_move rfl rfl) fun fr E => ?_
  refine sv (v := _) E rfl rfl rfl rfl rfl (run_move rfl rfl) fun fr E => ?_
  refine sgive E M rfl rfl rfl rfl rfl (run_call rfl rfl T.fn73) (ContainsFunc_int (l := [r.gen, r.stamp, r.epoch]) T.fn71 (fun n w => may1_x n w) (M.reads 0 rfl) (by simp)) fun fr w M E => ?_
  rw [ha] at E
  refine sv (v := .bool _) E rfl rfl rfl rfl rfl (rfl) fun fr E => ?_
  refine sv (v := _) E rfl rfl rfl rfl rfl (run_move rfl rfl) fun fr E => ?_
  refine sv (v := _) E rfl rfl rfl rfl rfl (run_move rfl rfl) fun fr E => ?_
  refine sv (v := .bool _) E rfl rfl rfl rfl rfl (rfl) fun fr E => ?_
  refine sv (v := _) E rfl rfl rfl rfl rfl (run_move rfl rfl) fun fr E => ?_
  refine sno E rfl rfl rfl rfl fun fr E => ?_
  refine sno E rfl rfl rfl rfl fun fr E => ?_
  refine sno E rfl rfl rfl rfl fun fr E => ?_
  refine sv (v := .bool _) E rfl rfl rfl rfl rfl (rfl) fun fr E => ?_
  refine sv (v := _) E rfl rfl rfl rfl rfl (run_move rfl rfl) fun fr E => ?_
  refine sno E rfl rfl rfl rfl fun fr E => ?_
  refine sno E rfl rfl rfl rfl fun fr E => ?_
  refine sno E rfl rfl rfl rfl fun fr E => ?_
  refine sv (v := .bool _) E rfl rfl rfl rfl rfl (rfl) fun fr E => ?_
  refine sv (v := _) E rfl rfl rfl rfl rfl (run_assign rfl rfl) fun fr E => ?_
  refine seq_nil' ?_
  refine wp_ret ?_
  refine ret1 E rfl rfl ?_
  exact given M

theorem any_not {r : Rec} : ([r.gen, r.stamp, r.epoch].any fun n => !decide (1 ≤ n ∧ n ≤ 1099511627776)) = !decide (RNum r.gen ∧ RNum r.stamp ∧ RNum r.epoch) := by
  simp only [RNum]
  by_cases h1 : 1 ≤ r.gen ∧ r.gen ≤ 1099511627776 <;> by_cases h2 : 1 ≤ r.stamp ∧ r.stamp ≤ 1099511627776 <;> by_cases h3 : 1 ≤ r.epoch ∧ r.epoch ≤ 1099511627776 <;> simp [h1, h2, h3] <;> omega
theorem may_x {r : Rec} (hr : r.Ok) (w0 : World) : Gives Try.prog 38 [r.val] w0 (.bool (decide r.May)) := by
  by_cases hn : RNum r.gen ∧ RNum r.stamp ∧ RNum r.epoch
  · have ha : ([r.gen, r.stamp, r.epoch].any fun n => !decide (1 ≤ n ∧ n ≤ 1099511627776)) = false := by rw [any_not, decide_eq_true hn]; rfl
    by_cases he : (r.rat = 0 ∧ r.rsum = List.replicate 32 0)
    · have h1 : r.Root := .inl he
      by_cases hb : RPl r.bseg r.bslot
      · have e : decide r.May = decide (RPl r.tseg r.tslot) := decide_eq_decide.2 ⟨fun h => h.2.2.2, fun h => ⟨hn, h1, hb, h⟩⟩
        rw [e]; exact may_eq_b hr he ha hb
      · rw [decide_eq_false (fun h => hb h.2.2.1)]; exact may_eq_nb hr he ha hb
    · by_cases hi : (3 ≤ r.rat ∧ r.rat ≤ 4095)
      · have h1 : r.Root := .inr hi
        by_cases hb : RPl r.bseg r.bslot
        · have e : decide r.May = decide (RPl r.tseg r.tslot) := decide_eq_decide.2 ⟨fun h => h.2.2.2, fun h => ⟨hn, h1, hb, h⟩⟩
          rw [e]; exact may_in_b hr he hi ha hb
        · rw [decide_eq_false (fun h => hb h.2.2.1)]; exact may_in_nb hr he hi ha hb
      · rw [decide_eq_false (fun h => h.2.1.elim he hi)]; exact may_out hr he hi ha
  · have ha : ([r.gen, r.stamp, r.epoch].any fun n => !decide (1 ≤ n ∧ n ≤ 1099511627776)) = true := by rw [any_not, decide_eq_false hn]; rfl
    rw [decide_eq_false (fun h => hn h.1)]
    by_cases he : (r.rat = 0 ∧ r.rsum = List.replicate 32 0)
    · exact may_eq_any hr he ha
    · by_cases hi : (3 ≤ r.rat ∧ r.rat ≤ 4095)
      · exact may_in_any hr he hi ha
      · exact may_out_any hr he hi ha
end Go.Proofs.Ytnojooafgehhaaa.K
end
section
namespace Go.Proofs.Ytnojooafgehhaaa.K
open Go.RowKit Go.Rill Go.Proofs
set_option linter.unusedVariables false
set_option linter.unusedSimpArgs false
set_option maxRecDepth 100000 in
theorem place_x {b : Value} {l : List UInt8} {s q : Int} {w0 : World} (hb : Bytes w0 b l) (hz : l.length + 16 ≤ 35184372088832) : Does Try.prog 42 [b, .agg #[.int .i64 s, .int .i64 q]] w0 [] (fun s : Value => s) (fun r => [.bytes 5 r (l ++ be8 s ++ be8 q)]) (fun _ => True) := by
  refine enter (n := 12) Try.func42 rfl rfl rfl ?_
  intro fr E
  have M : Mem w0 (feet []) [] (fun w' => Bytes w' b l) w0 := Mem.begin (Has.nil w0) (fun w' h => hb.held0 h)
  refine code_region ?_
  refine snew (ob := .cells #[_, _] 27) (fun g => .pointer (some ⟨g, 0, none⟩)) E M rfl rfl rfl rfl rfl (run_boxN (cs := #[_, _]) rfl rfl) fun g0 fr w M E => ?_
  refine sv (v := _) E rfl rfl rfl rfl rfl (run_assignC rfl) fun fr E => ?_
  refine seq_nil' ?_
  refine wp_seq (free_reg (B := T.tab42_1_b) (Vs := (.exact _ :: .exact (.pointer (some ⟨_, 0, none⟩)) :: .exact (.int .i64 _) :: CameV w.heap.size (fun v => [.bytes 5 v (l ++ be8 s)]) (fun _ => True) :: .exact (.pointer (some ⟨_, 1, none⟩)) :: .exact (.int .i64 _) :: CameV w.heap.size (fun v => [.bytes 5 v (l ++ be8 s ++ be8 q)]) (fun _ => True) :: CameV w.heap.size (fun v => [.bytes 5 v (l ++ be8 s ++ be8 q)]) (fun _ => True) :: [])) T.tab42_1_i E T.mixed T.tab42_1 rfl (AllS.lasts ⟨trivial, trivial, trivial, LastsS.cameV, trivial, trivial, LastsS.cameV, LastsS.cameV, trivial⟩) ⟨fs_val rfl rfl (fun x w hx hk => ⟨_, _, rfl, rfl, rfl, run_move rfl rfl, Ext.refl _, rfl⟩),
      fs_val rfl rfl (fun x w hx hk => ⟨_, _, rfl, rfl, rfl, run_fieldAddr rfl rfl T.fld27_0, Ext.refl _, rfl⟩),
      fs_val rfl rfl (fun x w hx hk => ⟨_, _, rfl, rfl, rfl, run_loadB rfl rfl T.one3 ((M.ext ((Ext.drew _).trans hx)).row (i := 0) rfl) rfl, Ext.refl _, rfl⟩),
      fs_ext rfl rfl (fun x w hx hk => ⟨_, _, rfl, rfl, rfl, run_call rfl rfl T.fn39, (Int_x s (M.ext ((Ext.drew _).trans hx)).fact (by omega)).extV hx.size⟩),
      fs_val rfl rfl (fun x w hx hk => ⟨_, _, rfl, rfl, rfl, run_fieldAddr rfl rfl T.fld27_1, Ext.refl _, rfl⟩),
      fs_val rfl rfl (fun x w hx hk => ⟨_, _, rfl, rfl, rfl, run_loadB rfl rfl T.one3 ((M.ext ((Ext.drew _).trans hx)).row (i := 0) rfl) rfl, Ext.refl _, rfl⟩),
      fs_ext rfl rfl (fun x w hx hk => ⟨_, _, rfl, rfl, rfl, run_call rfl rfl T.fn39, (Int_x q ((hk 3 rfl).1.reads 0 rfl : Bytes _ _ (l ++ be8 s)) (by simp [be8]; omega)).extV hx.size⟩),
      fs_val rfl rfl (fun x w hx hk => ⟨_, _, rfl, rfl, rfl, run_assign rfl rfl, Ext.refl _, hk 6 rfl⟩), trivial⟩ ?_)
  intro x fr w hx hk E
  have M := M.adopts hx (hk 7 (by decide)).1 (hk 7 (by decide)).2.1
  refine then_normal ?_
  refine wp_ret ?_
  refine ret1 E rfl rfl ?_
  exact ⟨_, rfl, M.fin (sub1 (i := 0) rfl) trivial⟩

set_option maxRecDepth 100000 in
theorem Put_no {r : Rec} {w0 : World} (hr : r.Ok) (hm : ¬ r.May) : Gives Try.prog 11 [r.val] w0 (.tuple #[.slice none 0 0, .int .i64 7]) := by
  refine enter (n := 38) Try.func11 rfl rfl rfl ?_
  intro fr E
  have M : Mem w0 (feet []) [] (fun _ => True) w0 := Mem.begin (Has.nil w0) (fun _ _ => trivial)
  refine code_region ?_
  refine snew (ob := .cells (r.cells.toArray) 29) (fun g => .pointer (some ⟨g, 0, none⟩)) E M rfl rfl rfl rfl rfl (run_boxN (cs := (r.cells.toArray)) rfl rfl) fun g0 fr w M E => ?_
  refine sv (v := _) E rfl rfl rfl rfl rfl (run_assignC rfl) fun fr E => ?_
  refine sv (v := _) E rfl rfl rfl rfl rfl (run_assignC rfl) fun fr E => ?_
  refine seq_nil' ?_
  refine wp_seq ?_
  refine code_region ?_
  refine sv (v := .agg r.cells.toArray) E rfl rfl rfl rfl rfl (run_loadAll rfl rfl T.agg29 (M.row (i := 0) rfl) (Rec.size hr)) fun fr E => ?_
  refine sgive E M rfl rfl rfl rfl rfl (run_call rfl rfl T.fn38) (may_x hr _) fun fr w M E => ?_
  rw [decide_eq_false hm] at E
  refine sv (v := .bool _) E rfl rfl rfl rfl rfl (rfl) fun fr E => ?_
  refine seq_nil' ?_
  refine cond_true E rfl (rfl) ?_
  refine code_region ?_
  refine sv (v := _) E rfl rfl rfl rfl rfl (run_assignC rfl) fun fr E => ?_
  refine sv (v := _) E rfl rfl rfl rfl rfl (run_assignC rfl) fun fr E => ?_
  refine seq_nil' ?_
  refine wp_ret ?_
  refine then_ret ?_
  refine ret2 E rfl rfl rfl ?_
  exact given M

set_option maxRecDepth 100000 in
theorem Put_ok {r : Rec} {w0 : World} (hr : r.Ok) (hm : r.May) : Does Try.prog 11 [r.val] w0 [] (fun s : Value => .tuple #[s, .int .i64 0]) (fun s => [.bytes 5 s r.bytes]) (fun _ => True) := by
  refine enter (n := 38) Try.func11 rfl rfl rfl ?_
  intro fr E
  have M : Mem w0 (feet []) [] (fun _ => True) w0 := Mem.begin (Has.nil w0) (fun _ _ => trivial)
  refine code_region ?_
  refine snew (ob := .cells (r.cells.toArray) 29) (fun g => .pointer (some ⟨g, 0, none⟩)) E M rfl rfl rfl rfl rfl (run_boxN (cs := (r.cells.toArray)) rfl rfl) fun g0 fr w M E => ?_
  refine sv (v := _) E rfl rfl rfl rfl rfl (run_assignC rfl) fun fr E => ?_
  refine sv (v := _) E rfl rfl rfl rfl rfl (run_assignC rfl) fun fr E => ?_
  refine seq_nil' ?_
  refine wp_seq ?_
  refine code_region ?_
  refine sv (v := .agg r.cells.toArray) E rfl rfl rfl rfl rfl (run_loadAll rfl rfl T.agg29 (M.row (i := 0) rfl) (Rec.size hr)) fun fr E => ?_
  refine sgive E M rfl rfl rfl rfl rfl (run_call rfl rfl T.fn38) (may_x hr _) fun fr w M E => ?_
  rw [decide_eq_true hm] at E
  refine sv (v := .bool _) E rfl rfl rfl rfl rfl (rfl) fun fr E => ?_
  refine seq_nil' ?_
  refine cond_false E rfl (rfl) ?_
  refine wp_skip ?_
  refine then_normal ?_
  refine wp_seq (free_reg (B := T.tab11_3_b) (Vs := (.exact (.pointer (some ⟨_, 0, none⟩)) :: .exact (.int .i64 _) :: CameV w.heap.size (fun v => [.bytes 5 v ([] ++ be8 r.gen)]) (fun _ => True) :: .exact (.pointer (some ⟨_, 1, none⟩)) :: .exact (.int .i64 _) :: CameV w.heap.size (fun v => [.bytes 5 v ([] ++ be8 r.gen ++ be8 r.stamp)]) (fun _ => True) :: .exact (.pointer (some ⟨_, 2, none⟩)) :: .exact (.int .i64 _) :: CameV w.heap.size (fun v => [.bytes 5 v ([] ++ be8 r.gen ++ be8 r.stamp ++ be8 r.epoch)]) (fun _ => True) :: CameV w.heap.size (fun v => [.bytes 5 v ([] ++ be8 r.gen ++ be8 r.stamp ++ be8 r.epoch)]) (fun _ => True) :: [])) T.tab11_3_i E T.mixed T.tab11_3 rfl (AllS.lasts ⟨trivial, trivial, LastsS.cameV, trivial, trivial, LastsS.cameV, trivial, trivial, LastsS.cameV, LastsS.cameV, trivial⟩) ⟨fs_val rfl rfl (fun x w hx hk => ⟨_, _, rfl, rfl, rfl, run_fieldAddr rfl rfl T.fld29_0, Ext.refl _, rfl⟩),
      fs_val rfl rfl (fun x w hx hk => ⟨_, _, rfl, rfl, rfl, run_loadB rfl rfl T.one3 ((M.ext ((Ext.drew _).trans hx)).row (i := 0) rfl) Rec.c_gen, Ext.refl _, rfl⟩),
      fs_ext rfl rfl (fun x w hx hk => ⟨_, _, rfl, rfl, rfl, run_call rfl rfl T.fn39, (Int_x r.gen (Bytes.nil _) (by simp)).extV hx.size⟩),
      fs_val rfl rfl (fun x w hx hk => ⟨_, _, rfl, rfl, rfl, run_fieldAddr rfl rfl T.fld29_1, Ext.refl _, rfl⟩),
      fs_val rfl rfl (fun x w hx hk => ⟨_, _, rfl, rfl, rfl, run_loadB rfl rfl T.one3 ((M.ext ((Ext.drew _).trans hx)).row (i := 0) rfl) Rec.c_stamp, Ext.refl _, rfl⟩),
      fs_ext rfl rfl (fun x w hx hk => ⟨_, _, rfl, rfl, rfl, run_call rfl rfl T.fn39, (Int_x r.stamp ((hk 2 rfl).1.reads 0 rfl : Bytes _ _ ([] ++ be8 r.gen)) (by simp [be8, hr.super, hr.rsum, hr.bsum, hr.tsum])).extV hx.size⟩),
      fs_val rfl rfl (fun x w hx hk => ⟨_, _, rfl, rfl, rfl, run_fieldAddr rfl rfl T.fld29_2, Ext.refl _, rfl⟩),
      fs_val rfl rfl (fun x w hx hk => ⟨_, _, rfl, rfl, rfl, run_loadB rfl rfl T.one3 ((M.ext ((Ext.drew _).trans hx)).row (i := 0) rfl) Rec.c_epoch, Ext.refl _, rfl⟩),
      fs_ext rfl rfl (fun x w hx hk => ⟨_, _, rfl, rfl, rfl, run_call rfl rfl T.fn39, (Int_x r.epoch ((hk 5 rfl).1.reads 0 rfl : Bytes _ _ ([] ++ be8 r.gen ++ be8 r.stamp)) (by simp [be8, hr.super, hr.rsum, hr.bsum, hr.tsum])).extV hx.size⟩),
      fs_val rfl rfl (fun x w hx hk => ⟨_, _, rfl, rfl, rfl, run_assign rfl rfl, Ext.refl _, hk 8 rfl⟩), trivial⟩ ?_)
  intro x fr w hx hk E
  have M := M.adopts hx (hk 9 (by decide)).1 (hk 9 (by decide)).2.1
  refine then_normal ?_
  refine wp_seq (free_reg (B := T.tab11_4_b) (Vs := (.exact _ :: .exact (.pointer (some ⟨_, 3, none⟩)) :: .exact (.agg (bc r.super).toArray) :: CameV w.heap.size (fun v => [.bytes 5 v (be8 r.gen ++ be8 r.stamp ++ be8 r.epoch ++ r.super)]) (fun _ => True) :: .exact (.pointer (some ⟨_, 35, none⟩)) :: .exact (.agg (iv r.rat :: bc r.rsum).toArray) :: CameV w.heap.size (fun v => [.bytes 5 v (be8 r.gen ++ be8 r.stamp ++ be8 r.epoch ++ r.super ++ be8 r.rat ++ r.rsum)]) (fun _ => True) :: CameV w.heap.size (fun v => [.bytes 5 v (be8 r.gen ++ be8 r.stamp ++ be8 r.epoch ++ r.super ++ be8 r.rat ++ r.rsum)]) (fun _ => True) :: [])) T.tab11_4_i E T.mixed T.tab11_4 rfl (AllS.lasts ⟨trivial, trivial, trivial, LastsS.cameV, trivial, trivial, LastsS.cameV, LastsS.cameV, trivial⟩) ⟨fs_val rfl rfl (fun x w hx hk => ⟨_, _, rfl, rfl, rfl, run_move rfl rfl, Ext.refl _, rfl⟩),
      fs_val rfl rfl (fun x w hx hk => ⟨_, _, rfl, rfl, rfl, run_fieldAddr rfl rfl T.fld29_3, Ext.refl _, rfl⟩),
      fs_val rfl rfl (fun x w hx hk => ⟨_, _, rfl, rfl, rfl, run_loadN' (vs := (bc r.super).toArray) rfl rfl T.agg23 ((M.ext ((Ext.drew _).trans hx)).row (i := 1) rfl) (by simp [Rec.len hr]) (congrArg List.toArray (Rec.m_super hr)), Ext.refl _, rfl⟩),
      fs_ext rfl rfl (fun x w hx hk => ⟨_, _, rfl, rfl, rfl, run_call rfl rfl T.fn41, (Sum_x (l := be8 r.gen ++ be8 r.stamp ++ be8 r.epoch) (s := r.super) ((M.ext ((Ext.drew _).trans hx)).reads 0 rfl) hr.super (by simp [be8, hr.super, hr.rsum, hr.bsum, hr.tsum])).extV hx.size⟩),
      fs_val rfl rfl (fun x w hx hk => ⟨_, _, rfl, rfl, rfl, run_fieldAddr rfl rfl T.fld29_4, Ext.refl _, rfl⟩),
      fs_val rfl rfl (fun x w hx hk => ⟨_, _, rfl, rfl, rfl, run_loadN' (vs := (iv r.rat :: bc r.rsum).toArray) rfl rfl T.agg25 ((M.ext ((Ext.drew _).trans hx)).row (i := 1) rfl) (by simp [Rec.len hr]) (congrArg List.toArray (Rec.m_root hr)), Ext.refl _, rfl⟩),
      fs_ext rfl rfl (fun x w hx hk => ⟨_, _, rfl, rfl, rfl, run_call rfl rfl T.fn40, (Ref_x (l := be8 r.gen ++ be8 r.stamp ++ be8 r.epoch ++ r.super) (s := r.rsum) (a := r.rat) ((hk 3 rfl).1.reads 0 rfl) hr.rsum (by simp [be8, hr.super, hr.rsum, hr.bsum, hr.tsum])).extV hx.size⟩),
      fs_val rfl rfl (fun x w hx hk => ⟨_, _, rfl, rfl, rfl, run_assign rfl rfl, Ext.refl _, hk 6 rfl⟩), trivial⟩ ?_)
  intro x fr w hx hk E
  have M := M.adopts hx (hk 7 (by decide)).1 (hk 7 (by decide)).2.1
  refine then_normal ?_
  refine wp_seq (free_reg (B := T.tab11_5_b) (Vs := (.exact _ :: .exact (.pointer (some ⟨_, 68, none⟩)) :: .exact (.agg ([iv r.bseg, iv r.bslot]).toArray) :: CameV w.heap.size (fun v => [.bytes 5 v (be8 r.gen ++ be8 r.stamp ++ be8 r.epoch ++ r.super ++ be8 r.rat ++ r.rsum ++ be8 r.bseg ++ be8 r.bslot)]) (fun _ => True) :: .exact (.pointer (some ⟨_, 70, none⟩)) :: .exact (.agg ([iv r.tseg, iv r.tslot]).toArray) :: CameV w.heap.size (fun v => [.bytes 5 v (be8 r.gen ++ be8 r.stamp ++ be8 r.epoch ++ r.super ++ be8 r.rat ++ r.rsum ++ be8 r.bseg ++ be8 r.bslot ++ be8 r.tseg ++ be8 r.tslot)]) (fun _ => True) :: CameV w.heap.size (fun v => [.bytes 5 v (be8 r.gen ++ be8 r.stamp ++ be8 r.epoch ++ r.super ++ be8 r.rat ++ r.rsum ++ be8 r.bseg ++ be8 r.bslot ++ be8 r.tseg ++ be8 r.tslot)]) (fun _ => True) :: [])) T.tab11_5_i E T.mixed T.tab11_5 rfl (AllS.lasts ⟨trivial, trivial, trivial, LastsS.cameV, trivial, trivial, LastsS.cameV, LastsS.cameV, trivial⟩) ⟨fs_val rfl rfl (fun x w hx hk => ⟨_, _, rfl, rfl, rfl, run_move rfl rfl, Ext.refl _, rfl⟩),
      fs_val rfl rfl (fun x w hx hk => ⟨_, _, rfl, rfl, rfl, run_fieldAddr rfl rfl T.fld29_5, Ext.refl _, rfl⟩),
      fs_val rfl rfl (fun x w hx hk => ⟨_, _, rfl, rfl, rfl, run_loadN' (vs := ([iv r.bseg, iv r.bslot]).toArray) rfl rfl T.agg27 ((M.ext ((Ext.drew _).trans hx)).row (i := 2) rfl) (by simp [Rec.len hr]) (congrArg List.toArray (Rec.m_base hr)), Ext.refl _, rfl⟩),
      fs_ext rfl rfl (fun x w hx hk => ⟨_, _, rfl, rfl, rfl, run_call rfl rfl T.fn42, (place_x (l := be8 r.gen ++ be8 r.stamp ++ be8 r.epoch ++ r.super ++ be8 r.rat ++ r.rsum) (s := r.bseg) (q := r.bslot) ((M.ext ((Ext.drew _).trans hx)).reads 0 rfl) (by simp [be8, hr.super, hr.rsum, hr.bsum, hr.tsum])).extV hx.size⟩),
      fs_val rfl rfl (fun x w hx hk => ⟨_, _, rfl, rfl, rfl, run_fieldAddr rfl rfl T.fld29_6, Ext.refl _, rfl⟩),
      fs_val rfl rfl (fun x w hx hk => ⟨_, _, rfl, rfl, rfl, run_loadN' (vs := ([iv r.tseg, iv r.tslot]).toArray) rfl rfl T.agg27 ((M.ext ((Ext.drew _).trans hx)).row (i := 2) rfl) (by simp [Rec.len hr]) (congrArg List.toArray (Rec.m_tail hr)), Ext.refl _, rfl⟩),
      fs_ext rfl rfl (fun x w hx hk => ⟨_, _, rfl, rfl, rfl, run_call rfl rfl T.fn42, (place_x (l := be8 r.gen ++ be8 r.stamp ++ be8 r.epoch ++ r.super ++ be8 r.rat ++ r.rsum ++ be8 r.bseg ++ be8 r.bslot) (s := r.tseg) (q := r.tslot) ((hk 3 rfl).1.reads 0 rfl) (by simp [be8, hr.super, hr.rsum, hr.bsum, hr.tsum])).extV hx.size⟩),
      fs_val rfl rfl (fun x w hx hk => ⟨_, _, rfl, rfl, rfl, run_assign rfl rfl, Ext.refl _, hk 6 rfl⟩), trivial⟩ ?_)
  intro x fr w hx hk E
  have M := M.adopts hx (hk 7 (by decide)).1 (hk 7 (by decide)).2.1
  refine then_normal ?_
  refine wp_seq (free_reg (B := T.tab11_6_b) (Vs := (.exact _ :: .exact (.pointer (some ⟨_, 72, none⟩)) :: .exact (.agg (bc r.bsum).toArray) :: CameV w.heap.size (fun v => [.bytes 5 v (be8 r.gen ++ be8 r.stamp ++ be8 r.epoch ++ r.super ++ be8 r.rat ++ r.rsum ++ be8 r.bseg ++ be8 r.bslot ++ be8 r.tseg ++ be8 r.tslot ++ r.bsum)]) (fun _ => True) :: .exact (.pointer (some ⟨_, 104, none⟩)) :: .exact (.agg (bc r.tsum).toArray) :: CameV w.heap.size (fun v => [.bytes 5 v (be8 r.gen ++ be8 r.stamp ++ be8 r.epoch ++ r.super ++ be8 r.rat ++ r.rsum ++ be8 r.bseg ++ be8 r.bslot ++ be8 r.tseg ++ be8 r.tslot ++ r.bsum ++ r.tsum)]) (fun _ => True) :: CameV w.heap.size (fun v => [.bytes 5 v (be8 r.gen ++ be8 r.stamp ++ be8 r.epoch ++ r.super ++ be8 r.rat ++ r.rsum ++ be8 r.bseg ++ be8 r.bslot ++ be8 r.tseg ++ be8 r.tslot ++ r.bsum ++ r.tsum)]) (fun _ => True) :: .exact _ :: [])) T.tab11_6_i E T.mixed T.tab11_6 rfl (AllS.lasts ⟨trivial, trivial, trivial, LastsS.cameV, trivial, trivial, LastsS.cameV, LastsS.cameV, trivial, trivial⟩) ⟨fs_val rfl rfl (fun x w hx hk => ⟨_, _, rfl, rfl, rfl, run_move rfl rfl, Ext.refl _, rfl⟩),
      fs_val rfl rfl (fun x w hx hk => ⟨_, _, rfl, rfl, rfl, run_fieldAddr rfl rfl T.fld29_7, Ext.refl _, rfl⟩),
      fs_val rfl rfl (fun x w hx hk => ⟨_, _, rfl, rfl, rfl, run_loadN' (vs := (bc r.bsum).toArray) rfl rfl T.agg23 ((M.ext ((Ext.drew _).trans hx)).row (i := 3) rfl) (by simp [Rec.len hr]) (congrArg List.toArray (Rec.m_bsum hr)), Ext.refl _, rfl⟩),
      fs_ext rfl rfl (fun x w hx hk => ⟨_, _, rfl, rfl, rfl, run_call rfl rfl T.fn41, (Sum_x (l := be8 r.gen ++ be8 r.stamp ++ be8 r.epoch ++ r.super ++ be8 r.rat ++ r.rsum ++ be8 r.bseg ++ be8 r.bslot ++ be8 r.tseg ++ be8 r.tslot) (s := r.bsum) ((M.ext ((Ext.drew _).trans hx)).reads 0 rfl) hr.bsum (by simp [be8, hr.super, hr.rsum, hr.bsum, hr.tsum])).extV hx.size⟩),
      fs_val rfl rfl (fun x w hx hk => ⟨_, _, rfl, rfl, rfl, run_fieldAddr rfl rfl T.fld29_8, Ext.refl _, rfl⟩),
      fs_val rfl rfl (fun x w hx hk => ⟨_, _, rfl, rfl, rfl, run_loadN' (vs := (bc r.tsum).toArray) rfl rfl T.agg23 ((M.ext ((Ext.drew _).trans hx)).row (i := 3) rfl) (by simp [Rec.len hr]) (congrArg List.toArray (Rec.m_tsum hr)), Ext.refl _, rfl⟩),
      fs_ext rfl rfl (fun x w hx hk => ⟨_, _, rfl, rfl, rfl, run_call rfl rfl T.fn41, (Sum_x (l := be8 r.gen ++ be8 r.stamp ++ be8 r.epoch ++ r.super ++ be8 r.rat ++ r.rsum ++ be8 r.bseg ++ be8 r.bslot ++ be8 r.tseg ++ be8 r.tslot ++ r.bsum) (s := r.tsum) ((hk 3 rfl).1.reads 0 rfl) hr.tsum (by simp [be8, hr.super, hr.rsum, hr.bsum, hr.tsum])).extV hx.size⟩),
      fs_val rfl rfl (fun x w hx hk => ⟨_, _, rfl, rfl, rfl, run_assign rfl rfl, Ext.refl _, hk 6 rfl⟩),
      fs_val rfl rfl (fun x w hx hk => ⟨_, _, rfl, rfl, rfl, run_assignC rfl, Ext.refl _, rfl⟩), trivial⟩ ?_)
  intro x fr w hx hk E
  have M := M.adopts hx (hk 7 (by decide)).1 (hk 7 (by decide)).2.1
  refine then_normal ?_
  refine wp_ret ?_
  refine ret2 E rfl rfl rfl ?_
  exact ⟨_, rfl, M.fin (sub1 (i := 0) rfl) trivial⟩
end Go.Proofs.Ytnojooafgehhaaa.K
end
section
namespace Go.Proofs.Ytnojooafgehhaaa.K
open Go.RowKit Go.Rill Go.Proofs
set_option linter.unusedVariables false
set_option linter.unusedSimpArgs false
end Go.Proofs.Ytnojooafgehhaaa.K
end
section
namespace Go.Proofs.Ytnojooafgehhaaa.K
open Go.RowKit Go.Rill Go.Proofs
set_option linter.unusedVariables false
set_option linter.unusedSimpArgs false
end Go.Proofs.Ytnojooafgehhaaa.K
end
section
namespace Go.Proofs.Ytnojooafgehhaaa.K
open Go.RowKit Go.Rill Go.Proofs
set_option linter.unusedVariables false
set_option linter.unusedSimpArgs false
/-- What a reader of a record has left behind k things. -/
def rst (l : List UInt8) : Nat → List UInt8 × Bool
  | 0 => (l, false)
  | k + 1 => rNext (match k with | 3 => 32 | 4 => 40 | 9 => 32 | 10 => 32 | _ => 8) (rst l k)
theorem rNext_len (n : Nat) (s : List UInt8 × Bool) : (rNext n s).1.length ≤ s.1.length := by unfold rNext; split <;> simp
theorem rst_len (l : List UInt8) : ∀ k, (rst l k).1.length ≤ l.length
  | 0 => Nat.le_refl _
  | k + 1 => Nat.le_trans (rNext_len _ _) (rst_len l k)
def Rec.r5 (l : List UInt8) : Rec := { Rec.zero with gen := rInt (rst l 0), stamp := rInt (rst l 1), epoch := rInt (rst l 2), super := rSum (rst l 3), rat := (rRef (rst l 4)).1, rsum := (rRef (rst l 4)).2 }
def Rec.r7 (l : List UInt8) : Rec := { Rec.r5 l with bseg := rInt (rst l 5), bslot := rInt (rst l 6) }
def Rec.r9 (l : List UInt8) : Rec := { Rec.r7 l with tseg := rInt (rst l 7), tslot := rInt (rst l 8) }
def Rec.r10 (l : List UInt8) : Rec := { Rec.r9 l with bsum := rSum (rst l 9) }
def Rec.read (l : List UInt8) : Rec := { Rec.r10 l with tsum := rSum (rst l 10) }
theorem Rec.r5_ok (l : List UInt8) : (Rec.r5 l).Ok := ⟨rSum_len _, rRef_len _, Rec.zero_ok.bsum, Rec.zero_ok.tsum⟩
theorem Rec.r7_ok (l : List UInt8) : (Rec.r7 l).Ok := ⟨rSum_len _, rRef_len _, Rec.zero_ok.bsum, Rec.zero_ok.tsum⟩
theorem Rec.r9_ok (l : List UInt8) : (Rec.r9 l).Ok := ⟨rSum_len _, rRef_len _, Rec.zero_ok.bsum, Rec.zero_ok.tsum⟩
theorem Rec.r10_ok (l : List UInt8) : (Rec.r10 l).Ok := ⟨rSum_len _, rRef_len _, rSum_len _, Rec.zero_ok.tsum⟩
theorem Rec.read_ok (l : List UInt8) : (Rec.read l).Ok := ⟨rSum_len _, rRef_len _, rSum_len _, rSum_len _⟩
theorem r5_cells (l : List UInt8) : ([iv (rInt (rst l 0)), iv (rInt (rst l 1)), iv (rInt (rst l 2)), .agg (bc (rSum (rst l 3))).toArray, .agg (iv (rRef (rst l 4)).1 :: bc (rRef (rst l 4)).2).toArray].map (·.cells.toList)).flatten ++ (iv 0 :: iv 0 :: iv 0 :: iv 0 :: (bc (List.replicate 32 0) ++ bc (List.replicate 32 0))) = (Rec.r5 l).cells := by
  simp only [List.map_cons, List.map_nil, List.flatten_cons, List.flatten_nil, iv, Value.cells, Rec.r5, Rec.cells, Rec.zero, List.append_nil, List.append_assoc, List.cons_append, List.nil_append]
set_option maxRecDepth 100000 in
theorem Get_bad {b : Value} {l : List UInt8} {w0 : World} (hb : Bytes w0 b l) (hz : l.length ≤ 35184372088832) (he : rEnd (rst l 11) ≠ 0) : Gives Try.prog 17 [b] w0 (.tuple #[Rec.zero.val, .int .i64 (rEnd (rst l 11))]) := by
  refine enter (n := 52) Try.func17 rfl rfl rfl ?_
  intro fr E
  have M : Mem w0 (feet []) [] (fun w' => Bytes w' b l) w0 := Mem.begin (Has.nil w0) (fun w' h => hb.held0 h)
  refine code_region ?_
  refine snew (ob := .cells _ 29) (fun g => .pointer (some ⟨g, 0, none⟩)) E M rfl rfl rfl rfl rfl (run_allocN rfl T.zero29) fun g0 fr w M E => ?_
  refine sv (v := _) E rfl rfl rfl rfl rfl (run_assignC rfl) fun fr E => ?_
  refine seq_nil' ?_
  refine code_region ?_
  refine sv (v := _) E rfl rfl rfl rfl rfl (run_move rfl rfl) fun fr E => ?_
  refine scall E M rfl rfl rfl rfl rfl (run_call rfl rfl T.fn47) (Read_x M.fact hz) rfl ?_
  rintro ⟨g, rv0⟩ fr w - M E
  refine sv (v := _) E rfl rfl rfl rfl rfl (run_assign rfl rfl) fun fr E => ?_
  refine seq_nil' ?_
  refine code_region ?_
  refine sv (v := _) E rfl rfl rfl rfl rfl (run_move rfl rfl) fun fr E => ?_
  refine scallI (rdr g rv0 (rst l 0).1 (rst l 0).2) E M rfl rfl rfl rfl rfl (run_call rfl rfl T.fn48) rfl (fun H => Reader_Int_x H (Nat.le_trans (rst_len l 0) hz)) ?_
  rintro rv1 fr w - M E
  refine sv (v := _) E rfl rfl rfl rfl rfl (run_move rfl rfl) fun fr E => ?_
  refine scallI (rdr g rv1 (rst l 1).1 (rst l 1).2) E M rfl rfl rfl rfl rfl (run_call rfl rfl T.fn48) rfl (fun H => Reader_Int_x H (Nat.le_trans (rst_len l 1) hz)) ?_
  rintro rv2 fr w - M E
  refine sv (v := _) E rfl rfl rfl rfl rfl (run_move rfl rfl) fun fr E => ?_
  refine scallI (rdr g rv2 (rst l 2).1 (rst l 2).2) E M rfl rfl rfl rfl rfl (run_call rfl rfl T.fn48) rfl (fun H => Reader_Int_x H (Nat.le_trans (rst_len l 2) hz)) ?_
  rintro rv3 fr w - M E
  refine sv (v := _) E rfl rfl rfl rfl rfl (run_move rfl rfl) fun fr E => ?_
  refine scallI (rdr g rv3 (rst l 3).1 (rst l 3).2) E M rfl rfl rfl rfl rfl (run_call rfl rfl T.fn49) rfl (fun H => Reader_Sum_x H (Nat.le_trans (rst_len l 3) hz)) ?_
  rintro rv4 fr w - M E
  refine sv (v := _) E rfl rfl rfl rfl rfl (run_move rfl rfl) fun fr E => ?_
  refine scallI (rdr g rv4 (rst l 4).1 (rst l 4).2) E M rfl rfl rfl rfl rfl (run_call rfl rfl T.fn50) rfl (fun H => Reader_Ref_x H (Nat.le_trans (rst_len l 4) hz)) ?_
  rintro rv5 fr w - M E
  refine sv (v := .agg ((Rec.r5 l).cells).toArray) E rfl rfl rfl rfl rfl (run_buildP (vs := [iv (rInt (rst l 0)), iv (rInt (rst l 1)), iv (rInt (rst l 2)), .agg (bc (rSum (rst l 3))).toArray, .agg (iv (rRef (rst l 4)).1 :: bc (rRef (rst l 4)).2).toArray]) (us := (Rec.r5 l).cells) rfl rfl T.ts29 T.zeroL29 (by simp [iv, Value.cells, rSum_len, rRef_len]) rfl rfl (r5_cells l)) fun fr E => ?_
  refine snew (ob := .cells _ 29) (fun g => .pointer (some ⟨g, 0, none⟩)) E M rfl rfl rfl rfl rfl (run_allocN rfl T.zero29) fun g1 fr w M E => ?_
  refine sset (i := 0) (cs' := (Rec.r5 l).cells.toArray) E M rfl rfl rfl rfl rfl (run_storeAll (vs := (Rec.r5 l).cells.toArray) rfl rfl rfl T.size29 (Rec.size (Rec.r5_ok l)) (M.row (i := 0) rfl) rfl (by simpa using Rec.ones _)) rfl fun fr w M E => ?_
  refine seq_nil' ?_
  refine code_region ?_
  refine sv (v := _) E rfl rfl rfl rfl rfl (run_move rfl rfl) fun fr E => ?_
  have M := M.pull 2 rfl
  have M := M.pull 2 rfl
  refine scallI (rdr g rv5 (rst l 5).1 (rst l 5).2) E M rfl rfl rfl rfl rfl (run_call rfl rfl T.fn48) rfl (fun H => Reader_Int_x H (Nat.le_trans (rst_len l 5) hz)) ?_
  rintro rv6 fr w - M E
  refine sv (v := _) E rfl rfl rfl rfl rfl (run_move rfl rfl) fun fr E => ?_
  refine scallI (rdr g rv6 (rst l 6).1 (rst l 6).2) E M rfl rfl rfl rfl rfl (run_call rfl rfl T.fn48) rfl (fun H => Reader_Int_x H (Nat.le_trans (rst_len l 6) hz)) ?_
  rintro rv7 fr w - M E
  refine sv (v := .agg ([_, _]).toArray) E rfl rfl rfl rfl rfl (run_buildP (vs := [_, _]) (us := [_, _]) rfl rfl T.ts27 T.zeroL27 rfl rfl rfl rfl) fun fr E => ?_
  refine sv (v := .pointer (some ⟨_, 68, none⟩)) E rfl rfl rfl rfl rfl (run_fieldAddr rfl rfl T.fld29_5) fun fr E => ?_
  refine sset (i := 2) (cs' := (Rec.r7 l).cells.toArray) E M rfl rfl rfl rfl rfl (run_storeN' (vs := #[iv (rInt (rst l 5)), iv (rInt (rst l 6))]) rfl rfl rfl T.size27 rfl (M.row (i := 2) rfl) (by simp [Rec.len (Rec.r5_ok l)]) rfl (congrArg List.toArray (Rec.s_base (Rec.r5_ok l) _ _))) rfl fun fr w M E => ?_
  refine seq_nil' ?_
  refine code_region ?_
  refine sv (v := _) E rfl rfl rfl rfl rfl (run_move rfl rfl) fun fr E => ?_
  refine scallI (rdr g rv7 (rst l 7).1 (rst l 7).2) E M rfl rfl rfl rfl rfl (run_call rfl rfl T.fn48) rfl (fun H => Reader_Int_x H (Nat.le_trans (rst_len l 7) hz)) ?_
  rintro rv8 fr w - M E
  refine sv (v := _) E rfl rfl rfl rfl rfl (run_move rfl rfl) fun fr E => ?_
  refine scallI (rdr g rv8 (rst l 8).1 (rst l 8).2) E M rfl rfl rfl rfl rfl (run_call rfl rfl T.fn48) rfl (fun H => Reader_Int_x H (Nat.le_trans (rst_len l 8) hz)) ?_
  rintro rv9 fr w - M E
  refine sv (v := .agg ([_, _]).toArray) E rfl rfl rfl rfl rfl (run_buildP (vs := [_, _]) (us := [_, _]) rfl rfl T.ts27 T.zeroL27 rfl rfl rfl rfl) fun fr E => ?_
  refine sv (v := .pointer (some ⟨_, 70, none⟩)) E rfl rfl rfl rfl rfl (run_fieldAddr rfl rfl T.fld29_6) fun fr E => ?_
  refine sset (i := 2) (cs' := (Rec.r9 l).cells.toArray) E M rfl rfl rfl rfl rfl (run_storeN' (vs := #[iv (rInt (rst l 7)), iv (rInt (rst l 8))]) rfl rfl rfl T.size27 rfl (M.row (i := 2) rfl) (by simp [Rec.len (Rec.r7_ok l)]) rfl (congrArg List.toArray (Rec.s_tail (Rec.r7_ok l) _ _))) rfl fun fr w M E => ?_
  refine seq_nil' ?_
  refine code_region ?_
  refine sv (v := _) E rfl rfl rfl rfl rfl (run_move rfl rfl) fun fr E => ?_
  refine scallI (rdr g rv9 (rst l 9).1 (rst l 9).2) E M rfl rfl rfl rfl rfl (run_call rfl rfl T.fn49) rfl (fun H => Reader_Sum_x H (Nat.le_trans (rst_len l 9) hz)) ?_
  rintro rv10 fr w - M E
  refine sv (v := _) E rfl rfl rfl rfl rfl (run_move rfl rfl) fun fr E => ?_
  refine scallI (rdr g rv10 (rst l 10).1 (rst l 10).2) E M rfl rfl rfl rfl rfl (run_call rfl rfl T.fn49) rfl (fun H => Reader_Sum_x H (Nat.le_trans (rst_len l 10) hz)) ?_
  rintro rv11 fr w - M E
  refine sv (v := .pointer (some ⟨_, 72, none⟩)) E rfl rfl rfl rfl rfl (run_fieldAddr rfl rfl T.fld29_7) fun fr E => ?_
  refine sset (i := 2) (cs' := (Rec.r10 l).cells.toArray) E M rfl rfl rfl rfl rfl (run_storeN' (vs := (bc (rSum (rst l 9))).toArray) rfl rfl rfl T.size23 (by simp [rSum_len]) (M.row (i := 2) rfl) (by simp [Rec.len (Rec.r9_ok l)]) (by simpa using bc_one _) (congrArg List.toArray (Rec.s_bsum (Rec.r9_ok l) _))) rfl fun fr w M E => ?_
  refine sv (v := .pointer (some ⟨_, 104, none⟩)) E rfl rfl rfl rfl rfl (run_fieldAddr rfl rfl T.fld29_8) fun fr E => ?_
  refine sset (i := 2) (cs' := (Rec.read l).cells.toArray) E M rfl rfl rfl rfl rfl (run_storeN' (vs := (bc (rSum (rst l 10))).toArray) rfl rfl rfl T.size23 (by simp [rSum_len]) (M.row (i := 2) rfl) (by simp [Rec.len (Rec.r10_ok l)]) (by simpa using bc_one _) (congrArg List.toArray (Rec.s_tsum (Rec.r10_ok l) _))) rfl fun fr w M E => ?_
  refine seq_nil' ?_
  refine code_region ?_
  refine sv (v := _) E rfl rfl rfl rfl rfl (run_move rfl rfl) fun fr E => ?_
  refine scallI (rdr g rv11 (rst l 11).1 (rst l 11).2) E M rfl rfl rfl rfl rfl (run_call rfl rfl T.fn51) rfl (fun H => End_x H (Nat.le_trans (rst_len l 11) hz)) ?_
  rintro _ fr w - M E
  refine sv (v := _) E rfl rfl rfl rfl rfl (run_assign rfl rfl) fun fr E => ?_
  refine seq_nil' ?_
  refine wp_seq ?_
  refine code_region ?_
  refine sv (v := _) E rfl rfl rfl rfl rfl (run_move rfl rfl) fun fr E => ?_
  refine sv (v := .bool false) E rfl rfl rfl rfl rfl (tst rfl (decide_eq_false he)) fun fr E => ?_
  refine sv (v := _) E rfl rfl rfl rfl rfl (run_move rfl rfl) fun fr E => ?_
  refine sno E rfl rfl rfl rfl fun fr E => ?_
  refine sno E rfl rfl rfl rfl fun fr E => ?_
  refine sno E rfl rfl rfl rfl fun fr E => ?_
  refine sv (v := .bool _) E rfl rfl rfl rfl rfl (rfl) fun fr E => ?_
  refine seq_nil' ?_
  refine cond_false E rfl (rfl) ?_
  refine wp_skip ?_
  refine then_normal ?_
  refine wp_seq ?_
  refine code_region ?_
  refine sv (v := _) E rfl rfl rfl rfl rfl (run_move rfl rfl) fun fr E => ?_
  refine sv (v := .bool true) E rfl rfl rfl rfl rfl (tst rfl (by simp; exact he)) fun fr E => ?_
  refine seq_nil' ?_
  refine cond_true E rfl (rfl) ?_
  refine code_region ?_
  refine sv (v := .agg (Rec.zero.cells).toArray) E rfl rfl rfl rfl rfl (run_buildP (vs := []) (us := Rec.zero.cells) rfl rfl T.ts29 T.zeroL29 (rfl) rfl rfl (rfl)) fun fr E => ?_
  refine sv (v := _) E rfl rfl rfl rfl rfl (run_move rfl rfl) fun fr E => ?_
  refine sset (i := 3) (cs' := Rec.zero.cells.toArray) E M rfl rfl rfl rfl rfl (run_storeAll (vs := Rec.zero.cells.toArray) rfl rfl rfl T.size29 (Rec.size Rec.zero_ok) (M.row (i := 3) rfl) rfl (by simpa using Rec.ones _)) rfl fun fr w M E => ?_
  refine sv (v := _) E rfl rfl rfl rfl rfl (run_assign rfl rfl) fun fr E => ?_
  refine seq_nil' ?_
  refine wp_ret ?_
  refine then_ret ?_
  refine retC2 E rfl rfl rfl T.agg29 (M.row (i := 3) rfl) (Rec.size (Rec.zero_ok)) ?_
  exact given M

set_option maxRecDepth 100000 in
theorem Get_ok {b : Value} {l : List UInt8} {w0 : World} (hb : Bytes w0 b l) (hz : l.length ≤ 35184372088832) (he : rEnd (rst l 11) = 0) (hm : (Rec.read l).May) : Gives Try.prog 17 [b] w0 (.tuple #[(Rec.read l).val, .int .i64 0]) := by
  refine enter (n := 52) Try.func17 rfl rfl rfl ?_
  intro fr E
  have M : Mem w0 (feet []) [] (fun w' => Bytes w' b l) w0 := Mem.begin (Has.nil w0) (fun w' h => hb.held0 h)
  refine code_region ?_
  refine snew (ob := .cells _ 29) (fun g => .pointer (some ⟨g, 0, none⟩)) E M rfl rfl rfl rfl rfl (run_allocN rfl T.zero29) fun g0 fr w M E => ?_
  refine sv (v := _) E rfl rfl rfl rfl rfl (run_assignC rfl) fun fr E => ?_
  refine seq_nil' ?_
  refine code_region ?_
  refine sv (v := _) E rfl rfl rfl rfl rfl (run_move rfl rfl) fun fr E => ?_
  refine scall E M rfl rfl rfl rfl rfl (run_call rfl rfl T.fn47) (Read_x M.fact hz) rfl ?_
  rintro ⟨g, rv0⟩ fr w - M E
  refine sv (v := _) E rfl rfl rfl rfl rfl (run_assign rfl rfl) fun fr E => ?_
  refine seq_nil' ?_
  refine code_region ?_
  refine sv (v := _) E rfl rfl rfl rfl rfl (run_move rfl rfl) fun fr E => ?_
  refine scallI (rdr g rv0 (rst l 0).1 (rst l 0).2) E M rfl rfl rfl rfl rfl (run_call rfl rfl T.fn48) rfl (fun H => Reader_Int_x H (Nat.le_trans (rst_len l 0) hz)) ?_
  rintro rv1 fr w - M E
  refine sv (v := _) E rfl rfl rfl rfl rfl (run_move rfl rfl) fun fr E => ?_
  refine scallI (rdr g rv1 (rst l 1).1 (rst l 1).2) E M rfl rfl rfl rfl rfl (run_call rfl rfl T.fn48) rfl (fun H => Reader_Int_x H (Nat.le_trans (rst_len l 1) hz)) ?_
  rintro rv2 fr w - M E
  refine sv (v := _) E rfl rfl rfl rfl rfl (run_move rfl rfl) fun fr E => ?_
  refine scallI (rdr g rv2 (rst l 2).1 (rst l 2).2) E M rfl rfl rfl rfl rfl (run_call rfl rfl T.fn48) rfl (fun H => Reader_Int_x H (Nat.le_trans (rst_len l 2) hz)) ?_
  rintro rv3 fr w - M E
  refine sv (v := _) E rfl rfl rfl rfl rfl (run_move rfl rfl) fun fr E => ?_
  refine scallI (rdr g rv3 (rst l 3).1 (rst l 3).2) E M rfl rfl rfl rfl rfl (run_call rfl rfl T.fn49) rfl (fun H => Reader_Sum_x H (Nat.le_trans (rst_len l 3) hz)) ?_
  rintro rv4 fr w - M E
  refine sv (v := _) E rfl rfl rfl rfl rfl (run_move rfl rfl) fun fr E => ?_
  refine scallI (rdr g rv4 (rst l 4).1 (rst l 4).2) E M rfl rfl rfl rfl rfl (run_call rfl rfl T.fn50) rfl (fun H => Reader_Ref_x H (Nat.le_trans (rst_len l 4) hz)) ?_
  rintro rv5 fr w - M E
  refine sv (v := .agg ((Rec.r5 l).cells).toArray) E rfl rfl rfl rfl rfl (run_buildP (vs := [iv (rInt (rst l 0)), iv (rInt (rst l 1)), iv (rInt (rst l 2)), .agg (bc (rSum (rst l 3))).toArray, .agg (iv (rRef (rst l 4)).1 :: bc (rRef (rst l 4)).2).toArray]) (us := (Rec.r5 l).cells) rfl rfl T.ts29 T.zeroL29 (by simp [iv, Value.cells, rSum_len, rRef_len]) rfl rfl (r5_cells l)) fun fr E => ?_
  refine snew (ob := .cells _ 29) (fun g => .pointer (some ⟨g, 0, none⟩)) E M rfl rfl rfl rfl rfl (run_allocN rfl T.zero29) fun g1 fr w M E => ?_
  refine sset (i := 0) (cs' := (Rec.r5 l).cells.toArray) E M rfl rfl rfl rfl rfl (run_storeAll (vs := (Rec.r5 l).cells.toArray) rfl rfl rfl T.size29 (Rec.size (Rec.r5_ok l)) (M.row (i := 0) rfl) rfl (by simpa using Rec.ones _)) rfl fun fr w M E => ?_
  refine seq_nil' ?_
  refine code_region ?_
  refine sv (v := _) E rfl rfl rfl rfl rfl (run_move rfl rfl) fun fr E => ?_
  have M := M.pull 2 rfl
  have M := M.pull 2 rfl
  refine scallI (rdr g rv5 (rst l 5).1 (rst l 5).2) E M rfl rfl rfl rfl rfl (run_call rfl rfl T.fn48) rfl (fun H => Reader_Int_x H (Nat.le_trans (rst_len l 5) hz)) ?_
  rintro rv6 fr w - M E
  refine sv (v := _) E rfl rfl rfl rfl rfl (run_move rfl rfl) fun fr E => ?_
  refine scallI (rdr g rv6 (rst l 6).1 (rst l 6).2) E M rfl rfl rfl rfl rfl (run_call rfl rfl T.fn48) rfl (fun H => Reader_Int_x H (Nat.le_trans (rst_len l 6) hz)) ?_
  rintro rv7 fr w - M E
  refine sv (v := .agg ([_, _]).toArray) E rfl rfl rfl rfl rfl (run_buildP (vs := [_, _]) (us := [_, _]) rfl rfl T.ts27 T.zeroL27 rfl rfl rfl rfl) fun fr E => ?_
  refine sv (v := .pointer (some ⟨_, 68, none⟩)) E rfl rfl rfl rfl rfl (run_fieldAddr rfl rfl T.fld29_5) fun fr E => ?_
  refine sset (i := 2) (cs' := (Rec.r7 l).cells.toArray) E M rfl rfl rfl rfl rfl (run_storeN' (vs := #[iv (rInt (rst l 5)), iv (rInt (rst l 6))]) rfl rfl rfl T.size27 rfl (M.row (i := 2) rfl) (by simp [Rec.len (Rec.r5_ok l)]) rfl (congrArg List.toArray (Rec.s_base (Rec.r5_ok l) _ _))) rfl fun fr w M E => ?_
  refine seq_nil' ?_
  refine code_region ?_
  refine sv (v := _) E rfl rfl rfl rfl rfl (run_move rfl rfl) fun fr E => ?_
  refine scallI (rdr g rv7 (rst l 7).1 (rst l 7).2) E M rfl rfl rfl rfl rfl (run_call rfl rfl T.fn48) rfl (fun H => Reader_Int_x H (Nat.le_trans (rst_len l 7) hz)) ?_
  rintro rv8 fr w - M E
  refine sv (v := _) E rfl rfl rfl rfl rfl (run_move rfl rfl) fun fr E => ?_
  refine scallI (rdr g rv8 (rst l 8).1 (rst l 8).2) E M rfl rfl rfl rfl rfl (run_call rfl rfl T.fn48) rfl (fun H => Reader_Int_x H (Nat.le_trans (rst_len l 8) hz)) ?_
  rintro rv9 fr w - M E
  refine sv (v := .agg ([_, _]).toArray) E rfl rfl rfl rfl rfl (run_buildP (vs := [_, _]) (us := [_, _]) rfl rfl T.ts27 T.zeroL27 rfl rfl rfl rfl) fun fr E => ?_
  refine sv (v := .pointer (some ⟨_, 70, none⟩)) E rfl rfl rfl rfl rfl (run_fieldAddr rfl rfl T.fld29_6) fun fr E => ?_
  refine sset (i := 2) (cs' := (Rec.r9 l).cells.toArray) E M rfl rfl rfl rfl rfl (run_storeN' (vs := #[iv (rInt (rst l 7)), iv (rInt (rst l 8))]) rfl rfl rfl T.size27 rfl (M.row (i := 2) rfl) (by simp [Rec.len (Rec.r7_ok l)]) rfl (congrArg List.toArray (Rec.s_tail (Rec.r7_ok l) _ _))) rfl fun fr w M E => ?_
  refine seq_nil' ?_
  refine code_region ?_
  refine sv (v := _) E rfl rfl rfl rfl rfl (run_move rfl rfl) fun fr E => ?_
  refine scallI (rdr g rv9 (rst l 9).1 (rst l 9).2) E M rfl rfl rfl rfl rfl (run_call rfl rfl T.fn49) rfl (fun H => Reader_Sum_x H (Nat.le_trans (rst_len l 9) hz)) ?_
  rintro rv10 fr w - M E
  refine sv (v := _) E rfl rfl rfl rfl rfl (run_move rfl rfl) fun fr E => ?_
  refine scallI (rdr g rv10 (rst l 10).1 (rst l 10).2) E M rfl rfl rfl rfl rfl (run_call rfl rfl T.fn49) rfl (fun H => Reader_Sum_x H (Nat.le_trans (rst_len l 10) hz)) ?_
  rintro rv11 fr w - M E
  refine sv (v := .pointer (some ⟨_, 72, none⟩)) E rfl rfl rfl rfl rfl (run_fieldAddr rfl rfl T.fld29_7) fun fr E => ?_
  refine sset (i := 2) (cs' := (Rec.r10 l).cells.toArray) E M rfl rfl rfl rfl rfl (run_storeN' (vs := (bc (rSum (rst l 9))).toArray) rfl rfl rfl T.size23 (by simp [rSum_len]) (M.row (i := 2) rfl) (by simp [Rec.len (Rec.r9_ok l)]) (by simpa using bc_one _) (congrArg List.toArray (Rec.s_bsum (Rec.r9_ok l) _))) rfl fun fr w M E => ?_
  refine sv (v := .pointer (some ⟨_, 104, none⟩)) E rfl rfl rfl rfl rfl (run_fieldAddr rfl rfl T.fld29_8) fun fr E => ?_
  refine sset (i := 2) (cs' := (Rec.read l).cells.toArray) E M rfl rfl rfl rfl rfl (run_storeN' (vs := (bc (rSum (rst l 10))).toArray) rfl rfl rfl T.size23 (by simp [rSum_len]) (M.row (i := 2) rfl) (by simp [Rec.len (Rec.r10_ok l)]) (by simpa using bc_one _) (congrArg List.toArray (Rec.s_tsum (Rec.r10_ok l) _))) rfl fun fr w M E => ?_
  refine seq_nil' ?_
  refine code_region ?_
  refine sv (v := _) E rfl rfl rfl rfl rfl (run_move rfl rfl) fun fr E => ?_
  refine scallI (rdr g rv11 (rst l 11).1 (rst l 11).2) E M rfl rfl rfl rfl rfl (run_call rfl rfl T.fn51) rfl (fun H => End_x H (Nat.le_trans (rst_len l 11) hz)) ?_
  rintro _ fr w - M E
  refine sv (v := _) E rfl rfl rfl rfl rfl (run_assign rfl rfl) fun fr E => ?_
  refine seq_nil' ?_
  refine wp_seq ?_
  refine code_region ?_
  refine sv (v := _) E rfl rfl rfl rfl rfl (run_move rfl rfl) fun fr E => ?_
  refine sv (v := .bool true) E rfl rfl rfl rfl rfl (tst rfl (decide_eq_true he)) fun fr E => ?_
  refine sv (v := _) E rfl rfl rfl rfl rfl (run_move rfl rfl) fun fr E => ?_
  refine sv (v := .agg (Rec.read l).cells.toArray) E rfl rfl rfl rfl rfl (run_loadAll rfl rfl T.agg29 (M.row (i := 2) rfl) (Rec.size (Rec.read_ok l))) fun fr E => ?_
  refine sgive E M rfl rfl rfl rfl rfl (run_call rfl rfl T.fn38) (may_x (Rec.read_ok l) _) fun fr w M E => ?_
  rw [decide_eq_true hm] at E
  refine sv (v := .bool _) E rfl rfl rfl rfl rfl (rfl) fun fr E => ?_
  refine sv (v := .bool _) E rfl rfl rfl rfl rfl (rfl) fun fr E => ?_
  refine seq_nil' ?_
  refine cond_false E rfl (rfl) ?_
  refine wp_skip ?_
  refine then_normal ?_
  refine wp_seq ?_
  refine code_region ?_
  refine sv (v := _) E rfl rfl rfl rfl rfl (run_move rfl rfl) fun fr E => ?_
  refine sv (v := .bool false) E rfl rfl rfl rfl rfl (tst rfl (by simp; exact he)) fun fr E => ?_
  refine seq_nil' ?_
  refine cond_false E rfl (rfl) ?_
  refine wp_skip ?_
  refine then_normal ?_
  refine code_region ?_
  refine sv (v := .agg (Rec.read l).cells.toArray) E rfl rfl rfl rfl rfl (run_loadAll rfl rfl T.agg29 (M.row (i := 2) rfl) (Rec.size (Rec.read_ok l))) fun fr E => ?_
  refine sset (i := 3) (cs' := (Rec.read l).cells.toArray) E M rfl rfl rfl rfl rfl (run_storeAll (vs := (Rec.read l).cells.toArray) rfl rfl rfl T.size29 (Rec.size (Rec.read_ok l)) (M.row (i := 3) rfl) rfl (by simpa using Rec.ones _)) rfl fun fr w M E => ?_
  refine sv (v := _) E rfl rfl rfl rfl rfl (run_assignC rfl) fun fr E => ?_
  refine seq_nil' ?_
  refine wp_ret ?_
  refine retC2 E rfl rfl rfl T.agg29 (M.row (i := 3) rfl) (Rec.size (Rec.read_ok l)) ?_
  exact given M

set_option maxRecDepth 100000 in
theorem Get_no {b : Value} {l : List UInt8} {w0 : World} (hb : Bytes w0 b l) (hz : l.length ≤ 35184372088832) (he : rEnd (rst l 11) = 0) (hm : ¬ (Rec.read l).May) : Gives Try.prog 17 [b] w0 (.tuple #[Rec.zero.val, .int .i64 7]) := by
  refine enter (n := 52) Try.func17 rfl rfl rfl ?_
  intro fr E
  have M : Mem w0 (feet []) [] (fun w' => Bytes w' b l) w0 := Mem.begin (Has.nil w0) (fun w' h => hb.held0 h)
  refine code_region ?_
  refine snew (ob := .cells _ 29) (fun g => .pointer (some ⟨g, 0, none⟩)) E M rfl rfl rfl rfl rfl (run_allocN rfl T.zero29) fun g0 fr w M E => ?_
  refine sv (v := _) E rfl rfl rfl rfl rfl (run_assignC rfl) fun fr E => ?_
  refine seq_nil' ?_
  refine code_region ?_
  refine sv (v := _) E rfl rfl rfl rfl rfl (run_move rfl rfl) fun fr E => ?_
  refine scall E M rfl rfl rfl rfl rfl (run_call rfl rfl T.fn47) (Read_x M.fact hz) rfl ?_
  rintro ⟨g, rv0⟩ fr w - M E
  refine sv (v := _) E rfl rfl rfl rfl rfl (run_assign rfl rfl) fun fr E => ?_
  refine seq_nil' ?_
  refine code_region ?_
  refine sv (v := _) E rfl rfl rfl rfl rfl (run_move rfl rfl) fun fr E => ?_
  refine scallI (rdr g rv0 (rst l 0).1 (rst l 0).2) E M rfl rfl rfl rfl rfl (run_call rfl rfl T.fn48) rfl (fun H => Reader_Int_x H (Nat.le_trans (rst_len l 0) hz)) ?_
  rintro rv1 fr w - M E
  refine sv (v := _) E rfl rfl rfl rfl rfl (run_move rfl rfl) fun fr E => ?_
  refine scallI (rdr g rv1 (rst l 1).1 (rst l 1).2) E M rfl rfl rfl rfl rfl (run_call rfl rfl T.fn48) rfl (fun H => Reader_Int_x H (Nat.le_trans (rst_len l 1) hz)) ?_
  rintro rv2 fr w - M E
  refine sv (v := _) E rfl rfl rfl rfl rfl (run_move rfl rfl) fun fr E => ?_
  refine scallI (rdr g rv2 (rst l 2).1 (rst l 2).2) E M rfl rfl rfl rfl rfl (run_call rfl rfl T.fn48) rfl (fun H => Reader_Int_x H (Nat.le_trans (rst_len l 2) hz)) ?_
  rintro rv3 fr w - M E
  refine sv (v := _) E rfl rfl rfl rfl rfl (run_move rfl rfl) fun fr E => ?_
  refine scallI (rdr g rv3 (rst l 3).1 (rst l 3).2) E M rfl rfl rfl rfl rfl (run_call rfl rfl T.fn49) rfl (fun H => Reader_Sum_x H (Nat.le_trans (rst_len l 3) hz)) ?_
  rintro rv4 fr w - M E
  refine sv (v := _) E rfl rfl rfl rfl rfl (run_move rfl rfl) fun fr E => ?_
  refine scallI (rdr g rv4 (rst l 4).1 (rst l 4).2) E M rfl rfl rfl rfl rfl (run_call rfl rfl T.fn50) rfl (fun H => Reader_Ref_x H (Nat.le_trans (rst_len l 4) hz)) ?_
  rintro rv5 fr w - M E
  refine sv (v := .agg ((Rec.r5 l).cells).toArray) E rfl rfl rfl rfl rfl (run_buildP (vs := [iv (rInt (rst l 0)), iv (rInt (rst l 1)), iv (rInt (rst l 2)), .agg (bc (rSum (rst l 3))).toArray, .agg (iv (rRef (rst l 4)).1 :: bc (rRef (rst l 4)).2).toArray]) (us := (Rec.r5 l).cells) rfl rfl T.ts29 T.zeroL29 (by simp [iv, Value.cells, rSum_len, rRef_len]) rfl rfl (r5_cells l)) fun fr E => ?_
  refine snew (ob := .cells _ 29) (fun g => .pointer (some ⟨g, 0, none⟩)) E M rfl rfl rfl rfl rfl (run_allocN rfl T.zero29) fun g1 fr w M E => ?_
  refine sset (i := 0) (cs' := (Rec.r5 l).cells.toArray) E M rfl rfl rfl rfl rfl (run_storeAll (vs := (Rec.r5 l).cells.toArray) rfl rfl rfl T.size29 (Rec.size (Rec.r5_ok l)) (M.row (i := 0) rfl) rfl (by simpa using Rec.ones _)) rfl fun fr w M E => ?_
  refine seq_nil' ?_
  refine code_region ?_
  refine sv (v := _) E rfl rfl rfl rfl rfl (run_move rfl rfl) fun fr E => ?_
  have M := M.pull 2 rfl
  have M := M.pull 2 rfl
  refine scallI (rdr g rv5 (rst l 5).1 (rst l 5).2) E M rfl rfl rfl rfl rfl (run_call rfl rfl T.fn48) rfl (fun H => Reader_Int_x H (Nat.le_trans (rst_len l 5) hz)) ?_
  rintro rv6 fr w - M E
  refine sv (v := _) E rfl rfl rfl rfl rfl (run_move rfl rfl) fun fr E => ?_
  refine scallI (rdr g rv6 (rst l 6).1 (rst l 6).2) E M rfl rfl rfl rfl rfl (run_call rfl rfl T.fn48) rfl (fun H => Reader_Int_x H (Nat.le_trans (rst_len l 6) hz)) ?_
  rintro rv7 fr w - M E
  refine sv (v := .agg ([_, _]).toArray) E rfl rfl rfl rfl rfl (run_buildP (vs := [_, _]) (us := [_, _]) rfl rfl T.ts27 T.zeroL27 rfl rfl rfl rfl) fun fr E => ?_
  refine sv (v := .pointer (some ⟨_, 68, none⟩)) E rfl rfl rfl rfl rfl (run_fieldAddr rfl rfl T.fld29_5) fun fr E => ?_
  refine sset (i := 2) (cs' := (Rec.r7 l).cells.toArray) E M rfl rfl rfl rfl rfl (run_storeN' (vs := #[iv (rInt (rst l 5)), iv (rInt (rst l 6))]) rfl rfl rfl T.size27 rfl (M.row (i := 2) rfl) (by simp [Rec.len (Rec.r5_ok l)]) rfl (congrArg List.toArray (Rec.s_base (Rec.r5_ok l) _ _))) rfl fun fr w M E => ?_
  refine seq_nil' ?_
  refine code_region ?_
  refine sv (v := _) E rfl rfl rfl rfl rfl (run_move rfl rfl) fun fr E => ?_
  refine scallI (rdr g rv7 (rst l 7).1 (rst l 7).2) E M rfl rfl rfl rfl rfl (run_call rfl rfl T.fn48) rfl (fun H => Reader_Int_x H (Nat.le_trans (rst_len l 7) hz)) ?_
  rintro rv8 fr w - M E
  refine sv (v := _) E rfl rfl rfl rfl rfl (run_move rfl rfl) fun fr E => ?_
  refine scallI (rdr g rv8 (rst l 8).1 (rst l 8).2) E M rfl rfl rfl rfl rfl (run_call rfl rfl T.fn48) rfl (fun H => Reader_Int_x H (Nat.le_trans (rst_len l 8) hz)) ?_
  rintro rv9 fr w - M E
  refine sv (v := .agg ([_, _]).toArray) E rfl rfl rfl rfl rfl (run_buildP (vs := [_, _]) (us := [_, _]) rfl rfl T.ts27 T.zeroL27 rfl rfl rfl rfl) fun fr E => ?_
  refine sv (v := .pointer (some ⟨_, 70, none⟩)) E rfl rfl rfl rfl rfl (run_fieldAddr rfl rfl T.fld29_6) fun fr E => ?_
  refine sset (i := 2) (cs' := (Rec.r9 l).cells.toArray) E M rfl rfl rfl rfl rfl (run_storeN' (vs := #[iv (rInt (rst l 7)), iv (rInt (rst l 8))]) rfl rfl rfl T.size27 rfl (M.row (i := 2) rfl) (by simp [Rec.len (Rec.r7_ok l)]) rfl (congrArg List.toArray (Rec.s_tail (Rec.r7_ok l) _ _))) rfl fun fr w M E => ?_
  refine seq_nil' ?_
  refine code_region ?_
  refine sv (v := _) E rfl rfl rfl rfl rfl (run_move rfl rfl) fun fr E => ?_
  refine scallI (rdr g rv9 (rst l 9).1 (rst l 9).2) E M rfl rfl rfl rfl rfl (run_call rfl rfl T.fn49) rfl (fun H => Reader_Sum_x H (Nat.le_trans (rst_len l 9) hz)) ?_
  rintro rv10 fr w - M E
  refine sv (v := _) E rfl rfl rfl rfl rfl (run_move rfl rfl) fun fr E => ?_
  refine scallI (rdr g rv10 (rst l 10).1 (rst l 10).2) E M rfl rfl rfl rfl rfl (run_call rfl rfl T.fn49) rfl (fun H => Reader_Sum_x H (Nat.le_trans (rst_len l 10) hz)) ?_
  rintro rv11 fr w - M E
  refine sv (v := .pointer (some ⟨_, 72, none⟩)) E rfl rfl rfl rfl rfl (run_fieldAddr rfl rfl T.fld29_7) fun fr E => ?_
  refine sset (i := 2) (cs' := (Rec.r10 l).cells.toArray) E M rfl rfl rfl rfl rfl (run_storeN' (vs := (bc (rSum (rst l 9))).toArray) rfl rfl rfl T.size23 (by simp [rSum_len]) (M.row (i := 2) rfl) (by simp [Rec.len (Rec.r9_ok l)]) (by simpa using bc_one _) (congrArg List.toArray (Rec.s_bsum (Rec.r9_ok l) _))) rfl fun fr w M E => ?_
  refine sv (v := .pointer (some ⟨_, 104, none⟩)) E rfl rfl rfl rfl rfl (run_fieldAddr rfl rfl T.fld29_8) fun fr E => ?_
  refine sset (i := 2) (cs' := (Rec.read l).cells.toArray) E M rfl rfl rfl rfl rfl (run_storeN' (vs := (bc (rSum (rst l 10))).toArray) rfl rfl rfl T.size23 (by simp [rSum_len]) (M.row (i := 2) rfl) (by simp [Rec.len (Rec.r10_ok l)]) (by simpa using bc_one _) (congrArg List.toArray (Rec.s_tsum (Rec.r10_ok l) _))) rfl fun fr w M E => ?_
  refine seq_nil' ?_
  refine code_region ?_
  refine sv (v := _) E rfl rfl rfl rfl rfl (run_move rfl rfl) fun fr E => ?_
  refine scallI (rdr g rv11 (rst l 11).1 (rst l 11).2) E M rfl rfl rfl rfl rfl (run_call rfl rfl T.fn51) rfl (fun H => End_x H (Nat.le_trans (rst_len l 11) hz)) ?_
  rintro _ fr w - M E
  refine sv (v := _) E rfl rfl rfl rfl rfl (run_assign rfl rfl) fun fr E => ?_
  refine seq_nil' ?_
  refine wp_seq ?_
  refine code_region ?_
  refine sv (v := _) E rfl rfl rfl rfl rfl (run_move rfl rfl) fun fr E => ?_
  refine sv (v := .bool true) E rfl rfl rfl rfl rfl (tst rfl (decide_eq_true he)) fun fr E => ?_
  refine sv (v := _) E rfl rfl rfl rfl rfl (run_move rfl rfl) fun fr E => ?_
  refine sv (v := .agg (Rec.read l).cells.toArray) E rfl rfl rfl rfl rfl (run_loadAll rfl rfl T.agg29 (M.row (i := 2) rfl) (Rec.size (Rec.read_ok l))) fun fr E => ?_
  refine sgive E M rfl rfl rfl rfl rfl (run_call rfl rfl T.fn38) (may_x (Rec.read_ok l) _) fun fr w M E => ?_
  rw [decide_eq_false hm] at E
  refine sv (v := .bool _) E rfl rfl rfl rfl rfl (rfl) fun fr E => ?_
  refine sv (v := .bool _) E rfl rfl rfl rfl rfl (rfl) fun fr E => ?_
  refine seq_nil' ?_
  refine cond_true E rfl (rfl) ?_
  refine code_last ?_
  refine sv (v := _) E rfl rfl rfl rfl rfl (run_assignC rfl) fun fr E => ?_
  refine seq_nil ?_
  refine then_normal ?_
  refine wp_seq ?_
  refine code_region ?_
  refine sv (v := _) E rfl rfl rfl rfl rfl (run_move rfl rfl) fun fr E => ?_
  refine sv (v := .bool _) E rfl rfl rfl rfl rfl (rfl) fun fr E => ?_
  refine seq_nil' ?_
  refine cond_true E rfl (rfl) ?_
  refine code_region ?_
  refine sv (v := .agg (Rec.zero.cells).toArray) E rfl rfl rfl rfl rfl (run_buildP (vs := []) (us := Rec.zero.cells) rfl rfl T.ts29 T.zeroL29 (rfl) rfl rfl (rfl)) fun fr E => ?_
  refine sv (v := _) E rfl rfl rfl rfl rfl (run_move rfl rfl) fun fr E => ?_
  refine sset (i := 3) (cs' := Rec.zero.cells.toArray) E M rfl rfl rfl rfl rfl (run_storeAll (vs := Rec.zero.cells.toArray) rfl rfl rfl T.size29 (Rec.size Rec.zero_ok) (M.row (i := 3) rfl) rfl (by simpa using Rec.ones _)) rfl fun fr w M E => ?_
  refine sv (v := _) E rfl rfl rfl rfl rfl (run_assign rfl rfl) fun fr E => ?_
  refine seq_nil' ?_
  refine wp_ret ?_
  refine then_ret ?_
  refine retC2 E rfl rfl rfl T.agg29 (M.row (i := 3) rfl) (Rec.size (Rec.zero_ok)) ?_
  exact given M
end Go.Proofs.Ytnojooafgehhaaa.K
end
section
namespace Go.Proofs.Ytnojooafgehhaaa.K
open Go.RowKit Go.Rill Go.Proofs
set_option linter.unusedVariables false
set_option linter.unusedSimpArgs false
end Go.Proofs.Ytnojooafgehhaaa.K
end
section
namespace Go.Proofs.Ytnojooafgehhaaa.K
open Go.RowKit Go.Rill Go.Proofs
set_option linter.unusedVariables false
set_option linter.unusedSimpArgs false
def n9 (n : Nat) (l : List UInt8) (a : Nat) (b : Bool) : Nat × Bool := if b = true ∨ l.length - a < n then (a, true) else (a + n, false)
/-- The record as it is filled, field by field. -/
def Rec.q (l : List UInt8) : Nat → Rec
  | 0 => Rec.zero
  | 1 => { Rec.zero with gen := rInt (rst l 0) }
  | 2 => { Rec.zero with gen := rInt (rst l 0), stamp := rInt (rst l 1) }
  | 3 => { Rec.zero with gen := rInt (rst l 0), stamp := rInt (rst l 1), epoch := rInt (rst l 2) }
  | 4 => { Rec.zero with gen := rInt (rst l 0), stamp := rInt (rst l 1), epoch := rInt (rst l 2), super := rSum (rst l 3) }
  | 5 => Rec.r5 l
  | 6 => { Rec.r5 l with bseg := rInt (rst l 5) }
  | 7 => Rec.r7 l
  | 8 => { Rec.r7 l with tseg := rInt (rst l 7) }
  | 9 => Rec.r9 l
  | 10 => Rec.r10 l
  | _ => Rec.read l
end Go.Proofs.Ytnojooafgehhaaa.K
end
section
namespace Go.Proofs.Ytnojooafgehhaaa.K
open Go.RowKit Go.Rill Go.Proofs
set_option linter.unusedVariables false
set_option linter.unusedSimpArgs false
theorem fill_step {F : List UInt8} {i n : Nat} {c : UInt8} (hi : i < n) (hF : F.length = n) (hc : F[i]'(by omega) = c) : (F.take i ++ List.replicate (n - i) 0).set i c = F.take (i + 1) ++ List.replicate (n - (i + 1)) 0 := by
  subst hc
  have e : n - i = (n - (i + 1)) + 1 := by omega
  rw [List.take_succ_eq_append_getElem (by omega), e, List.replicate_succ, List.set_append_right _ _ (by simp; omega)]
  have e2 : i - (F.take i).length = 0 := by simp; omega
  rw [e2, List.set_cons_zero]
  simp only [List.append_assoc, List.singleton_append]
end Go.Proofs.Ytnojooafgehhaaa.K
end
section
namespace Go.Proofs.Ytnojooafgehhaaa.K
open Go.RowKit Go.Rill Go.Proofs
set_option linter.unusedVariables false
set_option linter.unusedSimpArgs false
def Rec.mk3 (a b : Int) : Rec := { Rec.zero with gen := a, stamp := b, epoch := 2 }
theorem Rec.mk3_ok (a b : Int) : (Rec.mk3 a b).Ok := ⟨Rec.zero_ok.super, Rec.zero_ok.rsum, Rec.zero_ok.bsum, Rec.zero_ok.tsum⟩
theorem tmod_gt (x : Int) : -2 < x.tmod 2 := by
  have := Int.tmod_lt_of_pos (-x) (show (0 : Int) < 2 by decide)
  rw [Int.neg_tmod] at this
  omega
set_option maxRecDepth 100000 in
theorem nwithin_1 {n : Int} {w0 : World} (h : 0 ≤ n) : Gives Try.prog 140 [.int .i64 n] w0 (.bool (decide (n ≤ 1099511627776))) := by
  refine enter (n := 9) Try.func140 rfl rfl rfl ?_
  intro fr E
  have M : Mem w0 (feet []) [] (fun _ => True) w0 := Mem.begin (Has.nil w0) (fun _ _ => trivial)
  refine code_region ?_
  refine sv (v := _) E rfl rfl rfl rfl rfl (run_assignC rfl) fun fr E => ?_
  refine seq_nil' ?_
  refine code_region ?_
  refine sv (v := _) E rfl rfl rfl rfl rfl (run_move rfl rfl) fun fr E => ?_
  refine sv (v := .bool true) E rfl rfl rfl rfl rfl (tst rfl (decide_eq_true h)) fun fr E => ?_
  refine sv (v := _) E rfl rfl rfl rfl rfl (run_move rfl rfl) fun fr E => ?_
  refine sv (v := _) E rfl rfl rfl rfl rfl (run_move rfl rfl) fun fr E => ?_
  refine sv (v := .bool _) E rfl rfl rfl rfl rfl (rfl) fun fr E => ?_
  refine sv (v := .bool _) E rfl rfl rfl rfl rfl (rfl) fun fr E => ?_
  refine sv (v := _) E rfl rfl rfl rfl rfl (run_assign rfl rfl) fun fr E => ?_
  refine seq_nil' ?_
  refine wp_ret ?_
  refine ret1 E rfl rfl ?_
  exact given M

set_option maxRecDepth 100000 in
theorem nwithin_2 {n : Int} {w0 : World} (h : ¬ 0 ≤ n) : Gives Try.prog 140 [.int .i64 n] w0 (.bool false) := by
  refine enter (n := 9) Try.func140 rfl rfl rfl ?_
  intro fr E
  have M : Mem w0 (feet []) [] (fun _ => True) w0 := Mem.begin (Has.nil w0) (fun _ _ => trivial)
  refine code_region ?_
  refine sv (v := _) E rfl rfl rfl rfl rfl (run_assignC rfl) fun fr E => ?_
  refine seq_nil' ?_
  refine code_region ?_
  refine sv (v := _) E rfl rfl rfl rfl rfl (run_move rfl rfl) fun fr E => ?_
  refine sv (v := .bool false) E rfl rfl rfl rfl rfl (tst rfl (decide_eq_false h)) fun fr E => ?_
  refine sv (v := _) E rfl rfl rfl rfl rfl (run_move rfl rfl) fun fr E => ?_
  refine sno E rfl rfl rfl rfl fun fr E => ?_
  refine sno E rfl rfl rfl rfl fun fr E => ?_
  refine sv (v := .bool _) E rfl rfl rfl rfl rfl (rfl) fun fr E => ?_
  refine sv (v := _) E rfl rfl rfl rfl rfl (run_assign rfl rfl) fun fr E => ?_
  refine seq_nil' ?_
  refine wp_ret ?_
  refine ret1 E rfl rfl ?_
  exact given M

theorem nwithin_x (n : Int) (w0 : World) : Gives Try.prog 140 [.int .i64 n] w0 (.bool (decide (0 ≤ n ∧ n ≤ 1099511627776))) := by
  by_cases h : 0 ≤ n
  · have e : decide (0 ≤ n ∧ n ≤ 1099511627776) = decide (n ≤ 1099511627776) := by simp [h]
    rw [e]; exact nwithin_1 h
  · have e : decide (0 ≤ n ∧ n ≤ 1099511627776) = false := by simp [h]
    rw [e]; exact nwithin_2 h

set_option maxRecDepth 100000 in
theorem rec_x (a b : Int) (w0 : World) : Gives Try.prog 31 [.int .i64 a, .int .i64 b] w0 (Rec.mk3 a b).val := by
  refine enter (n := 8) Try.func31 rfl rfl rfl ?_
  intro fr E
  have M : Mem w0 (feet []) [] (fun _ => True) w0 := Mem.begin (Has.nil w0) (fun _ _ => trivial)
  refine code_region ?_
  refine snew (ob := .cells _ 29) (fun g => .pointer (some ⟨g, 0, none⟩)) E M rfl rfl rfl rfl rfl (run_allocN rfl T.zero29) fun g0 fr w M E => ?_
  refine seq_nil' ?_
  refine code_region ?_
  refine sv (v := _) E rfl rfl rfl rfl rfl (run_move rfl rfl) fun fr E => ?_
  refine sv (v := _) E rfl rfl rfl rfl rfl (run_move rfl rfl) fun fr E => ?_
  refine sv (v := .agg ((Rec.mk3 a b).cells).toArray) E rfl rfl rfl rfl rfl (run_buildP (vs := [iv a, iv b, iv 2]) (us := (Rec.mk3 a b).cells) rfl rfl T.ts29 T.zeroL29 (rfl) rfl rfl (rfl)) fun fr E => ?_
  refine sset (i := 0) (cs' := (Rec.mk3 a b).cells.toArray) E M rfl rfl rfl rfl rfl (run_storeAll (vs := (Rec.mk3 a b).cells.toArray) rfl rfl rfl T.size29 (Rec.size (Rec.mk3_ok a b)) (M.row (i := 0) rfl) rfl (fun v hv => Rec.ones _ v hv)) rfl fun fr w M E => ?_
  refine seq_nil' ?_
  refine wp_ret ?_
  refine retC E rfl rfl T.agg29 (M.row (i := 0) rfl) (Rec.size (Rec.mk3_ok a b)) ?_
  exact given M

set_option maxRecDepth 100000 in
theorem at_x {r : Rec} (hr : r.Ok) (w0 : World) : Gives Try.prog 62 [r.val] w0 (.int .i64 (1 + r.gen.tmod 2)) := by
  refine enter (n := 7) Try.func62 rfl rfl rfl ?_
  intro fr E
  have M : Mem w0 (feet []) [] (fun _ => True) w0 := Mem.begin (Has.nil w0) (fun _ _ => trivial)
  refine code_region ?_
  refine snew (ob := .cells (r.cells.toArray) 29) (fun g => .pointer (some ⟨g, 0, none⟩)) E M rfl rfl rfl rfl rfl (run_boxN (cs := (r.cells.toArray)) rfl rfl) fun g0 fr w M E => ?_
  refine sv (v := _) E rfl rfl rfl rfl rfl (run_assignC rfl) fun fr E => ?_
  refine seq_nil' ?_
  refine code_region ?_
  refine sv (v := .pointer (some ⟨_, 0, none⟩)) E rfl rfl rfl rfl rfl (run_fieldAddr rfl rfl T.fld29_0) fun fr E => ?_
  refine sv (v := .int .i64 _) E rfl rfl rfl rfl rfl (run_loadB rfl rfl T.one3 (M.row (i := 0) rfl) Rec.c_gen) fun fr E => ?_
  refine sv (v := .int _ (r.gen.tmod 2)) E rfl rfl rfl rfl rfl (num rfl (rfl)) fun fr E => ?_
  refine sv (v := .int _ (1 + r.gen.tmod 2)) E rfl rfl rfl rfl rfl (num rfl (i64_id (by have := Int.tmod_lt_of_pos r.gen (show (0 : Int) < 2 by decide); have := tmod_gt r.gen; omega) (by have := Int.tmod_lt_of_pos r.gen (show (0 : Int) < 2 by decide); omega))) fun fr E => ?_
  refine sv (v := _) E rfl rfl rfl rfl rfl (run_assign rfl rfl) fun fr E => ?_
  refine seq_nil' ?_
  refine wp_ret ?_
  refine ret1 E rfl rfl ?_
  exact given M

set_option maxRecDepth 100000 in
theorem nnumber_x (v : Int) (w0 : World) : Does Try.prog 139 [.int .i64 v] w0 [] (fun s : Value => s) (fun s => [.bytes 5 s (be8 v)]) (fun _ => True) := by
  refine enter (n := 23) Try.func139 rfl rfl rfl ?_
  intro fr E
  have M : Mem w0 (feet []) [] (fun _ => True) w0 := Mem.begin (Has.nil w0) (fun _ _ => trivial)
  refine code_region ?_
  refine sv (v := _) E rfl rfl rfl rfl rfl (run_assignC rfl) fun fr E => ?_
  refine seq_nil' ?_
  refine code_region ?_
  refine smakeB (k := 8) (c := 8) E M rfl rfl rfl rfl rfl rfl rfl rfl (rfl) (rfl) T.slice30 T.zt5 T.zc5 T.by5 (Nat.le_refl _) (by decide) fun o fr w M E => ?_
  refine sv (v := _) E rfl rfl rfl rfl rfl (run_assign rfl rfl) fun fr E => ?_
  refine seq_nil' ?_
  refine wp_seq ?_
  refine code_region ?_
  refine sv (v := _) E rfl rfl rfl rfl rfl (run_move rfl rfl) fun fr E => ?_
  refine sv (v := .int .i64 _) E rfl rfl rfl rfl rfl (run_lenR rfl rfl rfl rfl T.slice30 (M.reads 0 rfl)) fun fr E => ?_
  refine sv (v := _) E rfl rfl rfl rfl rfl (run_moveC rfl) fun fr E => ?_
  refine seq_nil' ?_
  refine wp_block ?_
  refine loop_dec (fun d fr w => ∃ i : Nat, d = 8 - i ∧ i ≤ 8 ∧ Env [(8, .int .i64 i), (7, .int .i64 8), (6, o), (3, o), (0, .int .i64 v)] 23 fr ∧ Mem w0 (feet []) [.bytes 5 o ((be8 v).take i ++ List.replicate (8 - i) 0)] (fun _ => True) w) (8) ?_ ?_
  · refine ⟨0, rfl, by omega, (((((Env.nil E).add E (t := 0) rfl).add E (t := 3) rfl).add E (t := 6) rfl).add E (t := 7) rfl).add E (t := 8) rfl, M.as (by simp)⟩
  · clear E M
    rintro d fr w ⟨i, hd, hle, E, M⟩
    have hX : ((be8 v).take i ++ List.replicate (8 - i) 0).length = 8 := by rw [List.length_append, List.length_take, List.length_replicate, be8_len]; omega
    by_cases hi : i < 8
    · refine code_region ?_
      refine sv (v := .bool true) E rfl rfl rfl rfl rfl (tst rfl (decide_eq_true (by omega))) fun fr E => ?_
      refine seq_nil' ?_
      refine wp_seq ?_
      refine cond_true E rfl (rfl) ?_
      refine wp_skip ?_
      refine then_normal ?_
      refine wp_seq ?_
      refine wp_block ?_
      refine code_region ?_
      refine sv (v := _) E rfl rfl rfl rfl rfl (run_move rfl rfl) fun fr E => ?_
      refine sv (v := _) E rfl rfl rfl rfl rfl (run_assign rfl rfl) fun fr E => ?_
      refine seq_nil' ?_
      refine code_last ?_
      refine sv (v := _) E rfl rfl rfl rfl rfl (run_move rfl rfl) fun fr E => ?_
      refine sv (v := _) E rfl rfl rfl rfl rfl (run_move rfl rfl) fun fr E => ?_
      refine sv (v := _) E rfl rfl rfl rfl rfl (run_move rfl rfl) fun fr E => ?_
      refine sv (v := .int _ (IntKind.u64.wrap v)) E rfl rfl rfl rfl rfl (num rfl (rfl)) fun fr E => ?_
      refine sv (v := _) E rfl rfl rfl rfl rfl (run_move rfl rfl) fun fr E => ?_
      refine sv (v := .int _ (((8 - i : Nat) : Int) - 1)) E rfl rfl rfl rfl rfl (num rfl ((i64_id (by omega) (by omega)).trans (by omega))) fun fr E => ?_
      refine sv (v := .int _ (8 * (((8 - i : Nat) : Int) - 1))) E rfl rfl rfl rfl rfl (num rfl (i64_id (by omega) (by omega))) fun fr E => ?_
      refine sv (v := .int .u64 _) E rfl rfl rfl rfl rfl (run_shrV rfl rfl rfl (by omega) rfl) fun fr E => ?_
      refine sv (v := .int _ ((((be8 v)[8 - (8 - i)]'(by rw [be8_len]; omega)).toNat : Int))) E rfl rfl rfl rfl rfl (num rfl (ref_byte v (by omega) (by omega))) fun fr E => ?_
      refine sv (v := _) E rfl rfl rfl rfl rfl (run_indexR (i := i) rfl (M.reads 0 rfl) rfl rfl (rfl) ((by omega)) T.slice30 T.size5) fun fr E => ?_
      refine ssetB (i := 0) (k := i) (b := (be8 v)[8 - (8 - i)]'(by rw [be8_len]; omega)) E M rfl rfl rfl rfl rfl rfl rfl rfl (rfl) T.size5 (by omega) fun fr w M E => ?_
      refine seq_nil ?_
      refine block_normal ?_
      refine then_normal ?_
      refine code_last ?_
      refine sv (v := .int _ (((i + 1 : Nat) : Int))) E rfl rfl rfl rfl rfl (num rfl ((i64_id (by omega) (by omega)).trans (by omega))) fun fr E => ?_
      refine sv (v := _) E rfl rfl rfl rfl rfl (run_move rfl rfl) fun fr E => ?_
      refine seq_nil ?_
      refine then_any ?_
      refine ⟨8 - (i + 1), by omega, i + 1, rfl, by omega, (((((Env.nil E).add E (t := 0) rfl).add E (t := 3) rfl).add E (t := 6) rfl).add E (t := 7) rfl).add E (t := 8) rfl, M.as ?_⟩
      refine congrArg (fun x => [Ent.bytes 5 o x]) ?_
      exact fill_step (F := be8 v) hi (be8_len v) (by congr 1; omega)
    · obtain rfl : i = 8 := by omega
      refine code_region ?_
      refine sv (v := .bool false) E rfl rfl rfl rfl rfl (tst rfl (rfl)) fun fr E => ?_
      refine seq_nil' ?_
      refine wp_seq ?_
      refine cond_false E rfl (rfl) ?_
      refine wp_exit ?_
      refine then_exit ?_
      refine then_exit ?_
      refine block_exit ?_
      refine then_normal ?_
      refine code_region ?_
      refine sv (v := _) E rfl rfl rfl rfl rfl (run_move rfl rfl) fun fr E => ?_
      refine sv (v := _) E rfl rfl rfl rfl rfl (run_assign rfl rfl) fun fr E => ?_
      refine seq_nil' ?_
      refine wp_ret ?_
      refine ret1 E rfl rfl ?_
      exact ⟨_, rfl, M.fin (.refl _) trivial⟩

set_option maxRecDepth 100000 in
theorem Clone_nil (w0 : World) : Does Try.prog 68 [.slice none 0 0] w0 [] (fun s : Value => s) (fun s => [.bytes 5 s []]) (fun _ => True) := by
  refine enter (n := 8) Try.func68 rfl rfl rfl ?_
  intro fr E
  have M : Mem w0 (feet []) [] (fun _ => True) w0 := Mem.begin (Has.nil w0) (fun _ _ => trivial)
  refine code_region ?_
  refine sv (v := _) E rfl rfl rfl rfl rfl (run_assignC rfl) fun fr E => ?_
  refine seq_nil' ?_
  refine wp_seq ?_
  refine code_region ?_
  refine sv (v := _) E rfl rfl rfl rfl rfl (run_move rfl rfl) fun fr E => ?_
  refine sv (v := .bool true) E rfl rfl rfl rfl rfl (run_sliceNil rfl rfl rfl T.slice30 rfl) fun fr E => ?_
  refine seq_nil' ?_
  refine cond_true E rfl (rfl) ?_
  refine code_region ?_
  refine sv (v := _) E rfl rfl rfl rfl rfl (run_assignC rfl) fun fr E => ?_
  refine seq_nil' ?_
  refine wp_ret ?_
  refine then_ret ?_
  refine ret1 E rfl rfl ?_
  have M := M.nilRow 5
  exact ⟨_, rfl, M.fin (.refl _) trivial⟩

set_option maxRecDepth 100000 in
theorem Clone_some {g off c : Nat} {l : List UInt8} {w0 : World} (hb : Bytes w0 (.slice (some ⟨g, off, none⟩) l.length c) l) (hz : l.length ≤ 35184372088832) : Does Try.prog 68 [.slice (some ⟨g, off, none⟩) l.length c] w0 [] (fun s : Value => s) (fun s => [.bytes 5 s l]) (fun _ => True) := by
  refine enter (n := 8) Try.func68 rfl rfl rfl ?_
  intro fr E
  have M : Mem w0 (feet []) [] (fun w' => Bytes w' (.slice (some ⟨g, off, none⟩) l.length c) l) w0 := Mem.begin (Has.nil w0) (fun w' h => hb.held0 h)
  refine code_region ?_
  refine sv (v := _) E rfl rfl rfl rfl rfl (run_assignC rfl) fun fr E => ?_
  refine seq_nil' ?_
  refine wp_seq ?_
  refine code_region ?_
  refine sv (v := _) E rfl rfl rfl rfl rfl (run_move rfl rfl) fun fr E => ?_
  refine sv (v := .bool false) E rfl rfl rfl rfl rfl (run_sliceNil rfl rfl rfl T.slice30 rfl) fun fr E => ?_
  refine seq_nil' ?_
  refine cond_false E rfl (rfl) ?_
  refine wp_skip ?_
  refine then_normal ?_
  refine code_region ?_
  refine srow (sz := 1) (xs := bc []) E M rfl rfl rfl rfl rfl (run_buildSlice0 rfl T.slice30 rfl) (rfl) (Nat.le_refl _) (by decide) (rfl) fun o fr w M E => ?_
  refine sv (v := _) E rfl rfl rfl rfl rfl (run_move rfl rfl) fun fr E => ?_
  refine sappB (i := 0) E M rfl rfl rfl rfl rfl rfl rfl rfl rfl rfl rfl T.slice30 T.slice30 T.zt5 T.by5 M.fact (by simp; omega) fun o fr w M E => ?_
  refine sv (v := _) E rfl rfl rfl rfl rfl (run_assign rfl rfl) fun fr E => ?_
  refine seq_nil' ?_
  refine wp_ret ?_
  refine ret1 E rfl rfl ?_
  have M := M.as (L' := [.bytes 5 o l]) (by simp)
  exact ⟨_, rfl, M.fin (.refl _) trivial⟩

theorem Clone_x {b : Value} {l : List UInt8} {w0 : World} (hb : Bytes w0 b l) (hz : l.length ≤ 35184372088832) : Does Try.prog 68 [b] w0 [] (fun s : Value => s) (fun s => [.bytes 5 s l]) (fun _ => True) := by
  rcases hb.2 with ⟨rfl, h⟩ | ⟨g, off, c, rfl, _⟩
  · have e : l = [] := List.eq_nil_of_length_eq_zero h
    subst e
    exact Clone_nil w0
  · exact Clone_some hb hz
end Go.Proofs.Ytnojooafgehhaaa.K
end
section
namespace Go.Proofs.Ytnojooafgehhaaa.K
open Go.RowKit Go.Rill Go.Proofs
set_option linter.unusedVariables false
set_option linter.unusedSimpArgs false
def mn3 (x y z : Int) : Int := if z < (if y < x then y else x) then z else (if y < x then y else x)
def mx2 (x y : Int) : Int := if y > x then y else x
set_option maxRecDepth 100000 in
theorem Equal_ne {a b : Value} {l k : List UInt8} {w0 : World} (ha : Bytes w0 a l) (hb : Bytes w0 b k) (hn : l.length ≠ k.length) : Gives Try.prog 137 [a, b] w0 (.bool false) := by
  refine enter (n := 26) Try.func137 rfl rfl rfl ?_
  intro fr E
  have M : Mem w0 (feet []) [] (fun w' => Bytes w' a l ∧ Bytes w' b k) w0 := Mem.begin (Has.nil w0) (fun w' h => ⟨ha.held0 h, hb.held0 h⟩)
  refine code_region ?_
  refine sv (v := _) E rfl rfl rfl rfl rfl (run_assignC rfl) fun fr E => ?_
  refine seq_nil' ?_
  refine wp_seq ?_
  refine code_region ?_
  refine sv (v := _) E rfl rfl rfl rfl rfl (run_move rfl rfl) fun fr E => ?_
  refine sv (v := .int .i64 _) E rfl rfl rfl rfl rfl (run_lenR rfl rfl rfl rfl T.slice30 M.fact.1) fun fr E => ?_
  refine sv (v := _) E rfl rfl rfl rfl rfl (run_move rfl rfl) fun fr E => ?_
  refine sv (v := .int .i64 _) E rfl rfl rfl rfl rfl (run_lenR rfl rfl rfl rfl T.slice30 M.fact.2) fun fr E => ?_
  refine sv (v := .bool true) E rfl rfl rfl rfl rfl (tst rfl (by simp <;> omega)) fun fr E => ?_
  refine seq_nil' ?_
  refine cond_true E rfl (rfl) ?_
  refine code_region ?_
  refine sv (v := _) E rfl rfl rfl rfl rfl (run_assignC rfl) fun fr E => ?_
  refine seq_nil' ?_
  refine wp_ret ?_
  refine then_ret ?_
  refine ret1 E rfl rfl ?_
  exact given M

set_option maxRecDepth 100000 in
theorem Equal_eq {a b : Value} {l k : List UInt8} {w0 : World} (ha : Bytes w0 a l) (hb : Bytes w0 b k) (hl : l.length = k.length) (hz : l.length ≤ 35184372088832) : Gives Try.prog 137 [a, b] w0 (.bool (decide (l = k))) := by
  refine enter (n := 26) Try.func137 rfl rfl rfl ?_
  intro fr E
  have M : Mem w0 (feet []) [] (fun w' => Bytes w' a l ∧ Bytes w' b k) w0 := Mem.begin (Has.nil w0) (fun w' h => ⟨ha.held0 h, hb.held0 h⟩)
  refine code_region ?_
  refine sv (v := _) E rfl rfl rfl rfl rfl (run_assignC rfl) fun fr E => ?_
  refine seq_nil' ?_
  refine wp_seq ?_
  refine code_region ?_
  refine sv (v := _) E rfl rfl rfl rfl rfl (run_move rfl rfl) fun fr E => ?_
  refine sv (v := .int .i64 _) E rfl rfl rfl rfl rfl (run_lenR rfl rfl rfl rfl T.slice30 M.fact.1) fun fr E => ?_
  refine sv (v := _) E rfl rfl rfl rfl rfl (run_move rfl rfl) fun fr E => ?_
  refine sv (v := .int .i64 _) E rfl rfl rfl rfl rfl (run_lenR rfl rfl rfl rfl T.slice30 M.fact.2) fun fr E => ?_
  refine sv (v := .bool false) E rfl rfl rfl rfl rfl (tst rfl (by simp <;> omega)) fun fr E => ?_
  refine seq_nil' ?_
  refine cond_false E rfl (rfl) ?_
  refine wp_skip ?_
  refine then_normal ?_
  refine wp_seq ?_
  refine code_region ?_
  refine sv (v := _) E rfl rfl rfl rfl rfl (run_move rfl rfl) fun fr E => ?_
  refine sv (v := .int .i64 _) E rfl rfl rfl rfl rfl (run_lenR rfl rfl rfl rfl T.slice30 M.fact.1) fun fr E => ?_
  refine sv (v := _) E rfl rfl rfl rfl rfl (run_moveC rfl) fun fr E => ?_
  refine seq_nil' ?_
  refine wp_block ?_
  refine loop_dec (fun d fr w => ∃ i : Nat, d = l.length - i ∧ i ≤ l.length ∧ (∀ j, j < i → l[j]? = k[j]?) ∧ Env [(13, .int .i64 i), (12, .int .i64 l.length), (1, b), (0, a)] 26 fr ∧ Mem w0 (feet []) [] (fun w' => Bytes w' a l ∧ Bytes w' b k) w) (l.length) ?_ ?_
  · refine ⟨0, rfl, Nat.zero_le _, fun j hj => absurd hj (by omega), ((((Env.nil E).add E (t := 0) rfl).add E (t := 1) rfl).add E (t := 12) rfl).add E (t := 13) rfl, M⟩
  · clear E M
    rintro d fr w ⟨i, rfl, hle, heq, E, M⟩
    by_cases hi : i < l.length
    · by_cases hc : l[i] = k[i]'(hl ▸ hi)
      · refine code_region ?_
        refine sv (v := .bool true) E rfl rfl rfl rfl rfl (tst rfl (decide_eq_true (by omega))) fun fr E => ?_
        refine seq_nil' ?_
        refine wp_seq ?_
        refine cond_true E rfl (rfl) ?_
        refine wp_skip ?_
        refine then_normal ?_
        refine wp_seq ?_
        refine wp_block ?_
        refine code_region ?_
        refine sv (v := _) E rfl rfl rfl rfl rfl (run_move rfl rfl) fun fr E => ?_
        refine sv (v := _) E rfl rfl rfl rfl rfl (run_assign rfl rfl) fun fr E => ?_
        refine seq_nil' ?_
        refine wp_seq (free_reg (B := T.tab137_6_b) (Vs := (.exact _ :: .exact _ :: .exact (cellAt a (i * 1)) :: .exact (.int .u8 ((l[i]).toNat : Int)) :: .exact _ :: .exact _ :: .exact (cellAt b (i * 1)) :: .exact (.int .u8 ((k[i]'(hl ▸ hi)).toNat : Int)) :: .exact (.bool false) :: [])) T.tab137_6_i E T.mixed T.tab137_6 rfl (AllS.lasts ⟨trivial, trivial, trivial, trivial, trivial, trivial, trivial, trivial, trivial, trivial⟩) ⟨fs_val rfl rfl (fun x w hx hk => ⟨_, _, rfl, rfl, rfl, run_move rfl rfl, Ext.refl _, rfl⟩),
      fs_val rfl rfl (fun x w hx hk => ⟨_, _, rfl, rfl, rfl, run_move rfl rfl, Ext.refl _, rfl⟩),
      fs_val rfl rfl (fun x w hx hk => ⟨_, _, rfl, rfl, rfl, run_indexR (i := i) rfl (M.ext ((Ext.drew _).trans hx)).fact.1 rfl rfl (rfl) (hi) T.slice30 T.size5, Ext.refl _, rfl⟩),
      fs_val rfl rfl (fun x w hx hk => ⟨_, _, rfl, rfl, rfl, run_loadR rfl (M.ext ((Ext.drew _).trans hx)).fact.1 rfl T.one5 (by rw [Nat.mul_one]; exact bc_get hi), Ext.refl _, rfl⟩),
      fs_val rfl rfl (fun x w hx hk => ⟨_, _, rfl, rfl, rfl, run_move rfl rfl, Ext.refl _, rfl⟩),
      fs_val rfl rfl (fun x w hx hk => ⟨_, _, rfl, rfl, rfl, run_move rfl rfl, Ext.refl _, rfl⟩),
      fs_val rfl rfl (fun x w hx hk => ⟨_, _, rfl, rfl, rfl, run_indexR (i := i) rfl (M.ext ((Ext.drew _).trans hx)).fact.2 rfl rfl (rfl) ((by omega)) T.slice30 T.size5, Ext.refl _, rfl⟩),
      fs_val rfl rfl (fun x w hx hk => ⟨_, _, rfl, rfl, rfl, run_loadR rfl (M.ext ((Ext.drew _).trans hx)).fact.2 rfl T.one5 (by rw [Nat.mul_one]; exact bc_get (l := k) (by omega)), Ext.refl _, rfl⟩),
      fs_val rfl rfl (fun x w hx hk => ⟨_, _, rfl, rfl, rfl, tst rfl (by simp [hc]), Ext.refl _, rfl⟩), trivial⟩ ?_)
        intro x fr w hx hk E
        have M := M.ext hx
        refine then_normal ?_
        refine cond_false E rfl (rfl) ?_
        refine wp_skip ?_
        refine block_normal ?_
        refine then_normal ?_
        refine code_last ?_
        refine sv (v := .int _ (((i + 1 : Nat) : Int))) E rfl rfl rfl rfl rfl (num rfl ((i64_id (by omega) (by omega)).trans (by omega))) fun fr E => ?_
        refine sv (v := _) E rfl rfl rfl rfl rfl (run_move rfl rfl) fun fr E => ?_
        refine seq_nil ?_
        refine then_any ?_
        refine ⟨l.length - (i + 1), by omega, i + 1, rfl, by omega, fun j hj => ?_, ((((Env.nil E).add E (t := 0) rfl).add E (t := 1) rfl).add E (t := 12) rfl).add E (t := 13) rfl, M⟩
        rcases Nat.lt_or_eq_of_le (Nat.le_of_lt_succ hj) with h | rfl
        · exact heq j h
        · rw [List.getElem?_eq_getElem hi, List.getElem?_eq_getElem (hl ▸ hi), hc]
      · refine code_region ?_
        refine sv (v := .bool true) E rfl rfl rfl rfl rfl (tst rfl (decide_eq_true (by omega))) fun fr E => ?_
        refine seq_nil' ?_
        refine wp_seq ?_
        refine cond_true E rfl (rfl) ?_
        refine wp_skip ?_
        refine then_normal ?_
        refine wp_seq ?_
        refine wp_block ?_
        refine code_region ?_
        refine sv (v := _) E rfl rfl rfl rfl rfl (run_move rfl rfl) fun fr E => ?_
        refine sv (v := _) E rfl rfl rfl rfl rfl (run_assign rfl rfl) fun fr E => ?_
        refine seq_nil' ?_
        refine wp_seq (free_reg (B := T.tab137_6_b) (Vs := (.exact _ :: .exact _ :: .exact (cellAt a (i * 1)) :: .exact (.int .u8 ((l[i]).toNat : Int)) :: .exact _ :: .exact _ :: .exact (cellAt b (i * 1)) :: .exact (.int .u8 ((k[i]'(hl ▸ hi)).toNat : Int)) :: .exact (.bool true) :: [])) T.tab137_6_i E T.mixed T.tab137_6 rfl (AllS.lasts ⟨trivial, trivial, trivial, trivial, trivial, trivial, trivial, trivial, trivial, trivial⟩) ⟨fs_val rfl rfl (fun x w hx hk => ⟨_, _, rfl, rfl, rfl, run_move rfl rfl, Ext.refl _, rfl⟩),
      fs_val rfl rfl (fun x w hx hk => ⟨_, _, rfl, rfl, rfl, run_move rfl rfl, Ext.refl _, rfl⟩),
      fs_val rfl rfl (fun x w hx hk => ⟨_, _, rfl, rfl, rfl, run_indexR (i := i) rfl (M.ext ((Ext.drew _).trans hx)).fact.1 rfl rfl (rfl) (hi) T.slice30 T.size5, Ext.refl _, rfl⟩),
      fs_val rfl rfl (fun x w hx hk => ⟨_, _, rfl, rfl, rfl, run_loadR rfl (M.ext ((Ext.drew _).trans hx)).fact.1 rfl T.one5 (by rw [Nat.mul_one]; exact bc_get hi), Ext.refl _, rfl⟩),
      fs_val rfl rfl (fun x w hx hk => ⟨_, _, rfl, rfl, rfl, run_move rfl rfl, Ext.refl _, rfl⟩),
      fs_val rfl rfl (fun x w hx hk => ⟨_, _, rfl, rfl, rfl, run_move rfl rfl, Ext.refl _, rfl⟩),
      fs_val rfl rfl (fun x w hx hk => ⟨_, _, rfl, rfl, rfl, run_indexR (i := i) rfl (M.ext ((Ext.drew _).trans hx)).fact.2 rfl rfl (rfl) ((by omega)) T.slice30 T.size5, Ext.refl _, rfl⟩),
      fs_val rfl rfl (fun x w hx hk => ⟨_, _, rfl, rfl, rfl, run_loadR rfl (M.ext ((Ext.drew _).trans hx)).fact.2 rfl T.one5 (by rw [Nat.mul_one]; exact bc_get (l := k) (by omega)), Ext.refl _, rfl⟩),
      fs_val rfl rfl (fun x w hx hk => ⟨_, _, rfl, rfl, rfl, tst rfl (by simp; exact fun h => hc (UInt8.toNat_inj.1 (Int.ofNat_inj.1 h))), Ext.refl _, rfl⟩), trivial⟩ ?_)
        intro x fr w hx hk E
        have M := M.ext hx
        refine then_normal ?_
        refine cond_true E rfl (rfl) ?_
        refine code_region ?_
        refine sv (v := _) E rfl rfl rfl rfl rfl (run_assignC rfl) fun fr E => ?_
        refine seq_nil' ?_
        refine wp_ret ?_
        refine block_ret ?_
        refine then_ret ?_
        refine then_ret ?_
        refine block_ret ?_
        refine then_ret ?_
        refine ret1 E rfl rfl ?_
        have e : decide (l = k) = false := decide_eq_false (fun h => hc (by subst h; rfl))
        rw [e]
        exact given M
    · refine code_region ?_
      refine sv (v := .bool false) E rfl rfl rfl rfl rfl (tst rfl (decide_eq_false (by omega))) fun fr E => ?_
      refine seq_nil' ?_
      refine wp_seq ?_
      refine cond_false E rfl (rfl) ?_
      refine wp_exit ?_
      refine then_exit ?_
      refine then_exit ?_
      refine block_exit ?_
      refine then_normal ?_
      refine code_region ?_
      refine sv (v := _) E rfl rfl rfl rfl rfl (run_assignC rfl) fun fr E => ?_
      refine seq_nil' ?_
      refine wp_ret ?_
      refine ret1 E rfl rfl ?_
      have e : decide (l = k) = true := decide_eq_true (List.ext_getElem? fun j => by by_cases hj : j < i; exact heq j hj; rw [List.getElem?_eq_none (by omega), List.getElem?_eq_none (by omega)])
      rw [e]
      exact given M

theorem Equal_x {a b : Value} {l k : List UInt8} {w0 : World} (ha : Bytes w0 a l) (hb : Bytes w0 b k) (hz : l.length ≤ 35184372088832) : Gives Try.prog 137 [a, b] w0 (.bool (decide (l = k))) := by
  by_cases hl : l.length = k.length
  · exact Equal_eq ha hb hl hz
  · rw [decide_eq_false (fun h => hl (by rw [h]))]; exact Equal_ne ha hb hl

set_option maxRecDepth 100000 in
theorem head_x (k n : Int) (w0 : World) : Does Try.prog 89 [.int .i64 k, .int .i64 n] w0 [] (fun s : Value => s) (fun s => [.bytes 5 s ([UInt8.ofInt k] ++ be8 n)]) (fun _ => True) := by
  refine enter (n := 10) Try.func89 rfl rfl rfl ?_
  intro fr E
  have M : Mem w0 (feet []) [] (fun _ => True) w0 := Mem.begin (Has.nil w0) (fun _ _ => trivial)
  refine code_region ?_
  refine sv (v := _) E rfl rfl rfl rfl rfl (run_assignC rfl) fun fr E => ?_
  refine seq_nil' ?_
  refine code_region ?_
  refine sv (v := _) E rfl rfl rfl rfl rfl (run_move rfl rfl) fun fr E => ?_
  refine sv (v := .int _ (((UInt8.ofInt k).toNat : Int))) E rfl rfl rfl rfl rfl (num rfl ((ofInt_toNat k).symm)) fun fr E => ?_
  refine srow (sz := 1) (xs := bc [UInt8.ofInt k]) E M rfl rfl rfl rfl rfl (run_buildSliceA (us := [_]) (vs := [_]) rfl rfl rfl T.slice30 T.size5 T.zl5 rfl rfl rfl rfl rfl) (rfl) (Nat.le_refl _) (by decide) (rfl) fun t fr w M E => ?_
  refine sv (v := _) E rfl rfl rfl rfl rfl (run_move rfl rfl) fun fr E => ?_
  refine scall E M rfl rfl rfl rfl rfl (run_call rfl rfl T.fn39) (Int_x n (M.reads 0 rfl : Bytes _ _ [UInt8.ofInt k]) (by simp)) rfl ?_
  rintro r fr w - M E
  refine sv (v := _) E rfl rfl rfl rfl rfl (run_assign rfl rfl) fun fr E => ?_
  refine seq_nil' ?_
  refine wp_ret ?_
  refine ret1 E rfl rfl ?_
  exact ⟨_, rfl, M.fin (sub1 (i := 0) rfl) trivial⟩

set_option maxRecDepth 100000 in
theorem Kind_short {b : Value} {l : List UInt8} {w0 : World} (hb : Bytes w0 b l) (hz : l.length ≤ 35184372088832) (h1 : l.length < 17) : Gives Try.prog 94 [b] w0 (.int .i64 0) := by
  refine enter (n := 22) Try.func94 rfl rfl rfl ?_
  intro fr E
  have M : Mem w0 (feet []) [] (fun w' => Bytes w' b l) w0 := Mem.begin (Has.nil w0) (fun w' h => hb.held0 h)
  refine code_region ?_
  refine sv (v := _) E rfl rfl rfl rfl rfl (run_assignC rfl) fun fr E => ?_
  refine seq_nil' ?_
  refine wp_seq ?_
  refine code_region ?_
  refine sv (v := _) E rfl rfl rfl rfl rfl (run_move rfl rfl) fun fr E => ?_
  refine sv (v := .int .i64 _) E rfl rfl rfl rfl rfl (run_lenR rfl rfl rfl rfl T.slice30 M.fact) fun fr E => ?_
  refine sv (v := .bool true) E rfl rfl rfl rfl rfl (tst rfl (decide_eq_true (by omega))) fun fr E => ?_
  refine sv (v := _) E rfl rfl rfl rfl rfl (run_move rfl rfl) fun fr E => ?_
  refine sno E rfl rfl rfl rfl fun fr E => ?_
  refine sno E rfl rfl rfl rfl fun fr E => ?_
  refine sno E rfl rfl rfl rfl fun fr E => ?_
  refine sno E rfl rfl rfl rfl fun fr E => ?_
  refine sv (v := .bool _) E rfl rfl rfl rfl rfl (rfl) fun fr E => ?_
  refine sv (v := _) E rfl rfl rfl rfl rfl (run_move rfl rfl) fun fr E => ?_
  refine sno E rfl rfl rfl rfl fun fr E => ?_
  refine sno E rfl rfl rfl rfl fun fr E => ?_
  refine sno E rfl rfl rfl rfl fun fr E => ?_
  refine sno E rfl rfl rfl rfl fun fr E => ?_
  refine sv (v := .bool _) E rfl rfl rfl rfl rfl (rfl) fun fr E => ?_
  refine seq_nil' ?_
  refine cond_true E rfl (rfl) ?_
  refine code_region ?_
  refine sv (v := _) E rfl rfl rfl rfl rfl (run_assignC rfl) fun fr E => ?_
  refine seq_nil' ?_
  refine wp_ret ?_
  refine then_ret ?_
  refine ret1 E rfl rfl ?_
  exact given M

set_option maxRecDepth 100000 in
theorem Kind_low {b : Value} {l : List UInt8} {w0 : World} (hb : Bytes w0 b l) (hz : l.length ≤ 35184372088832) (h1 : 17 ≤ l.length) (h2 : (l[0]'(by omega)).toNat < 1) : Gives Try.prog 94 [b] w0 (.int .i64 0) := by
  refine enter (n := 22) Try.func94 rfl rfl rfl ?_
  intro fr E
  have M : Mem w0 (feet []) [] (fun w' => Bytes w' b l) w0 := Mem.begin (Has.nil w0) (fun w' h => hb.held0 h)
  refine code_region ?_
  refine sv (v := _) E rfl rfl rfl rfl rfl (run_assignC rfl) fun fr E => ?_
  refine seq_nil' ?_
  refine wp_seq ?_
  refine code_region ?_
  refine sv (v := _) E rfl rfl rfl rfl rfl (run_move rfl rfl) fun fr E => ?_
  refine sv (v := .int .i64 _) E rfl rfl rfl rfl rfl (run_lenR rfl rfl rfl rfl T.slice30 M.fact) fun fr E => ?_
  refine sv (v := .bool false) E rfl rfl rfl rfl rfl (tst rfl (decide_eq_false (by omega))) fun fr E => ?_
  refine sv (v := _) E rfl rfl rfl rfl rfl (run_move rfl rfl) fun fr E => ?_
  refine sv (v := _) E rfl rfl rfl rfl rfl (run_move rfl rfl) fun fr E => ?_
  refine sv (v := _) E rfl rfl rfl rfl rfl (run_indexR (i := 0) rfl M.fact rfl rfl (rfl) ((by omega)) T.slice30 T.size5) fun fr E => ?_
  refine sv (v := .int .u8 ((l[0]'(by omega)).toNat : Int)) E rfl rfl rfl rfl rfl (run_loadR rfl M.fact rfl T.one5 (by rw [Nat.mul_one]; exact bc_get (by omega))) fun fr E => ?_
  refine sv (v := .bool true) E rfl rfl rfl rfl rfl (tst rfl (decide_eq_true (by omega))) fun fr E => ?_
  refine sv (v := .bool _) E rfl rfl rfl rfl rfl (rfl) fun fr E => ?_
  refine sv (v := _) E rfl rfl rfl rfl rfl (run_move rfl rfl) fun fr E => ?_
  refine sno E rfl rfl rfl rfl fun fr E => ?_
  refine sno E rfl rfl rfl rfl fun fr E => ?_
  refine sno E rfl rfl rfl rfl fun fr E => ?_
  refine sno E rfl rfl rfl rfl fun fr E => ?_
  refine sv (v := .bool _) E rfl rfl rfl rfl rfl (rfl) fun fr E => ?_
  refine seq_nil' ?_
  refine cond_true E rfl (rfl) ?_
  refine code_region ?_
  refine sv (v := _) E rfl rfl rfl rfl rfl (run_assignC rfl) fun fr E => ?_
  refine seq_nil' ?_
  refine wp_ret ?_
  refine then_ret ?_
  refine ret1 E rfl rfl ?_
  exact given M

set_option maxRecDepth 100000 in
theorem Kind_high {b : Value} {l : List UInt8} {w0 : World} (hb : Bytes w0 b l) (hz : l.length ≤ 35184372088832) (h1 : 17 ≤ l.length) (h2 : ¬ (l[0]'(by omega)).toNat < 1) (h3 : 5 < (l[0]'(by omega)).toNat) : Gives Try.prog 94 [b] w0 (.int .i64 0) := by
  refine enter (n := 22) Try.func94 rfl rfl rfl ?_
  intro fr E
  have M : Mem w0 (feet []) [] (fun w' => Bytes w' b l) w0 := Mem.begin (Has.nil w0) (fun w' h => hb.held0 h)
  refine code_region ?_
  refine sv (v := _) E rfl rfl rfl rfl rfl (run_assignC rfl) fun fr E => ?_
  refine seq_nil' ?_
  refine wp_seq ?_
  refine code_region ?_
  refine sv (v := _) E rfl rfl rfl rfl rfl (run_move rfl rfl) fun fr E => ?_
  refine sv (v := .int .i64 _) E rfl rfl rfl rfl rfl (run_lenR rfl rfl rfl rfl T.slice30 M.fact) fun fr E => ?_
  refine sv (v := .bool false) E rfl rfl rfl rfl rfl (tst rfl (decide_eq_false (by omega))) fun fr E => ?_
  refine sv (v := _) E rfl rfl rfl rfl rfl (run_move rfl rfl) fun fr E => ?_
  refine sv (v := _) E rfl rfl rfl rfl rfl (run_move rfl rfl) fun fr E => ?_
  refine sv (v := _) E rfl rfl rfl rfl rfl (run_indexR (i := 0) rfl M.fact rfl rfl (rfl) ((by omega)) T.slice30 T.size5) fun fr E => ?_
  refine sv (v := .int .u8 ((l[0]'(by omega)).toNat : Int)) E rfl rfl rfl rfl rfl (run_loadR rfl M.fact rfl T.one5 (by rw [Nat.mul_one]; exact bc_get (by omega))) fun fr E => ?_
  refine sv (v := .bool false) E rfl rfl rfl rfl rfl (tst rfl (decide_eq_false (by omega))) fun fr E => ?_
  refine sv (v := .bool _) E rfl rfl rfl rfl rfl (rfl) fun fr E => ?_
  refine sv (v := _) E rfl rfl rfl rfl rfl (run_move rfl rfl) fun fr E => ?_
  refine sv (v := _) E rfl rfl rfl rfl rfl (run_move rfl rfl) fun fr E => ?_
  refine sv (v := _) E rfl rfl rfl rfl rfl (run_indexR (i := 0) rfl M.fact rfl rfl (rfl) ((by omega)) T.slice30 T.size5) fun fr E => ?_
  refine sv (v := .int .u8 ((l[0]'(by omega)).toNat : Int)) E rfl rfl rfl rfl rfl (run_loadR rfl M.fact rfl T.one5 (by rw [Nat.mul_one]; exact bc_get (by omega))) fun fr E => ?_
  refine sv (v := .bool true) E rfl rfl rfl rfl rfl (tst rfl (decide_eq_true (by omega))) fun fr E => ?_
  refine sv (v := .bool _) E rfl rfl rfl rfl rfl (rfl) fun fr E => ?_
  refine seq_nil' ?_
  refine cond_true E rfl (rfl) ?_
  refine code_region ?_
  refine sv (v := _) E rfl rfl rfl rfl rfl (run_assignC rfl) fun fr E => ?_
  refine seq_nil' ?_
  refine wp_ret ?_
  refine then_ret ?_
  refine ret1 E rfl rfl ?_
  exact given M

set_option maxRecDepth 100000 in
theorem Kind_ok {b : Value} {l : List UInt8} {w0 : World} (hb : Bytes w0 b l) (hz : l.length ≤ 35184372088832) (h1 : 17 ≤ l.length) (h2 : ¬ (l[0]'(by omega)).toNat < 1) (h3 : ¬ 5 < (l[0]'(by omega)).toNat) : Gives Try.prog 94 [b] w0 (.int .i64 ((l[0]'(by omega)).toNat : Int)) := by
  refine enter (n := 22) Try.func94 rfl rfl rfl ?_
  intro fr E
  have M : Mem w0 (feet []) [] (fun w' => Bytes w' b l) w0 := Mem.begin (Has.nil w0) (fun w' h => hb.held0 h)
  refine code_region ?_
  refine sv (v := _) E rfl rfl rfl rfl rfl (run_assignC rfl) fun fr E => ?_
  refine seq_nil' ?_
  refine wp_seq ?_
  refine code_region ?_
  refine sv (v := _) E rfl rfl rfl rfl rfl (run_move rfl rfl) fun fr E => ?_
  refine sv (v := .int .i64 _) E rfl rfl rfl rfl rfl (run_lenR rfl rfl rfl rfl T.slice30 M.fact) fun fr E => ?_
  refine sv (v := .bool false) E rfl rfl rfl rfl rfl (tst rfl (decide_eq_false (by omega))) fun fr E => ?_
  refine sv (v := _) E rfl rfl rfl rfl rfl (run_move rfl rfl) fun fr E => ?_
  refine sv (v := _) E rfl rfl rfl rfl rfl (run_move rfl rfl) fun fr E => ?_
  refine sv (v := _) E rfl rfl rfl rfl rfl (run_indexR (i := 0) rfl M.fact rfl rfl (rfl) ((by omega)) T.slice30 T.size5) fun fr E => ?_
  refine sv (v := .int .u8 ((l[0]'(by omega)).toNat : Int)) E rfl rfl rfl rfl rfl (run_loadR rfl M.fact rfl T.one5 (by rw [Nat.mul_one]; exact bc_get (by omega))) fun fr E => ?_
  refine sv (v := .bool false) E rfl rfl rfl rfl rfl (tst rfl (decide_eq_false (by omega))) fun fr E => ?_
  refine sv (v := .bool _) E rfl rfl rfl rfl rfl (rfl) fun fr E => ?_
  refine sv (v := _) E rfl rfl rfl rfl rfl (run_move rfl rfl) fun fr E => ?_
  refine sv (v := _) E rfl rfl rfl rfl rfl (run_move rfl rfl) fun fr E => ?_
  refine sv (v := _) E rfl rfl rfl rfl rfl (run_indexR (i := 0) rfl M.fact rfl rfl (rfl) ((by omega)) T.slice30 T.size5) fun fr E => ?_
  refine sv (v := .int .u8 ((l[0]'(by omega)).toNat : Int)) E rfl rfl rfl rfl rfl (run_loadR rfl M.fact rfl T.one5 (by rw [Nat.mul_one]; exact bc_get (by omega))) fun fr E => ?_
  refine sv (v := .bool false) E rfl rfl rfl rfl rfl (tst rfl (decide_eq_false (by omega))) fun fr E => ?_
  refine sv (v := .bool _) E rfl rfl rfl rfl rfl (rfl) fun fr E => ?_
  refine seq_nil' ?_
  refine cond_false E rfl (rfl) ?_
  refine wp_skip ?_
  refine then_normal ?_
  refine code_region ?_
  refine sv (v := _) E rfl rfl rfl rfl rfl (run_move rfl rfl) fun fr E => ?_
  refine sv (v := _) E rfl rfl rfl rfl rfl (run_indexR (i := 0) rfl M.fact rfl rfl (rfl) ((by omega)) T.slice30 T.size5) fun fr E => ?_
  refine sv (v := .int .u8 ((l[0]'(by omega)).toNat : Int)) E rfl rfl rfl rfl rfl (run_loadR rfl M.fact rfl T.one5 (by rw [Nat.mul_one]; exact bc_get (by omega))) fun fr E => ?_
  refine sv (v := .int _ (((l[0]'(by omega)).toNat : Int))) E rfl rfl rfl rfl rfl (num rfl (i64_id (by omega) (by have := (l[0]'(by omega)).toNat_lt; omega))) fun fr E => ?_
  refine sv (v := _) E rfl rfl rfl rfl rfl (run_assign rfl rfl) fun fr E => ?_
  refine seq_nil' ?_
  refine wp_ret ?_
  refine ret1 E rfl rfl ?_
  exact given M

set_option maxRecDepth 100000 in
theorem right_neg {e n a : Int} {w0 : World} (h1 : ¬ (0 ≤ e ∧ 0 ≤ n ∧ 0 ≤ a)) : Gives Try.prog 88 [.int .i64 e, .int .i64 n, .int .i64 a] w0 (.bool false) := by
  refine enter (n := 22) Try.func88 rfl rfl rfl ?_
  intro fr E
  have M : Mem w0 (feet []) [] (fun _ => True) w0 := Mem.begin (Has.nil w0) (fun _ _ => trivial)
  refine code_region ?_
  refine sv (v := _) E rfl rfl rfl rfl rfl (run_assignC rfl) fun fr E => ?_
  refine seq_nil' ?_
  refine code_region ?_
  refine sv (v := _) E rfl rfl rfl rfl rfl (run_move rfl rfl) fun fr E => ?_
  refine sv (v := _) E rfl rfl rfl rfl rfl (run_move rfl rfl) fun fr E => ?_
  refine sv (v := _) E rfl rfl rfl rfl rfl (run_move rfl rfl) fun fr E => ?_
  refine sv (v := .int .i64 (mn3 e n a)) E rfl rfl rfl rfl rfl (num (run_min3 rfl rfl rfl rfl rfl) rfl) fun fr E => ?_
  refine sv (v := .bool false) E rfl rfl rfl rfl rfl (tst rfl (decide_eq_false (by unfold mn3; (repeat' split) <;> omega))) fun fr E => ?_
  refine sv (v := _) E rfl rfl rfl rfl rfl (run_move rfl rfl) fun fr E => ?_
  refine sno E rfl rfl rfl rfl fun fr E => ?_
  refine sno E rfl rfl rfl rfl fun fr E => ?_
  refine sno E rfl rfl rfl rfl fun fr E => ?_
  refine sno E rfl rfl rfl rfl fun fr E => ?_
  refine sv (v := .bool _) E rfl rfl rfl rfl rfl (rfl) fun fr E => ?_
  refine sv (v := _) E rfl rfl rfl rfl rfl (run_move rfl rfl) fun fr E => ?_
  refine sno E rfl rfl rfl rfl fun fr E => ?_
  refine sno E rfl rfl rfl rfl fun fr E => ?_
  refine sv (v := .bool _) E rfl rfl rfl rfl rfl (rfl) fun fr E => ?_
  refine sv (v := _) E rfl rfl rfl rfl rfl (run_assign rfl rfl) fun fr E => ?_
  refine seq_nil' ?_
  refine wp_ret ?_
  refine ret1 E rfl rfl ?_
  exact given M

set_option maxRecDepth 100000 in
theorem right_big {e n a : Int} {w0 : World} (h1 : 0 ≤ e ∧ 0 ≤ n ∧ 0 ≤ a) (h2 : ¬ (e ≤ 1099511627776 ∧ n ≤ 1099511627776)) : Gives Try.prog 88 [.int .i64 e, .int .i64 n, .int .i64 a] w0 (.bool false) := by
  refine enter (n := 22) Try.func88 rfl rfl rfl ?_
  intro fr E
  have M : Mem w0 (feet []) [] (fun _ => True) w0 := Mem.begin (Has.nil w0) (fun _ _ => trivial)
  refine code_region ?_
  refine sv (v := _) E rfl rfl rfl rfl rfl (run_assignC rfl) fun fr E => ?_
  refine seq_nil' ?_
  refine code_region ?_
  refine sv (v := _) E rfl rfl rfl rfl rfl (run_move rfl rfl) fun fr E => ?_
  refine sv (v := _) E rfl rfl rfl rfl rfl (run_move rfl rfl) fun fr E => ?_
  refine sv (v := _) E rfl rfl rfl rfl rfl (run_move rfl rfl) fun fr E => ?_
  refine sv (v := .int .i64 (mn3 e n a)) E rfl rfl rfl rfl rfl (num (run_min3 rfl rfl rfl rfl rfl) rfl) fun fr E => ?_
  refine sv (v := .bool true) E rfl rfl rfl rfl rfl (tst rfl (decide_eq_true (by unfold mn3; (repeat' split) <;> omega))) fun fr E => ?_
  refine sv (v := _) E rfl rfl rfl rfl rfl (run_move rfl rfl) fun fr E => ?_
  refine sv (v := _) E rfl rfl rfl rfl rfl (run_move rfl rfl) fun fr E => ?_
  refine sv (v := _) E rfl rfl rfl rfl rfl (run_move rfl rfl) fun fr E => ?_
  refine sv (v := .int .i64 (mx2 e n)) E rfl rfl rfl rfl rfl (num (run_max2 rfl rfl rfl rfl) rfl) fun fr E => ?_
  refine sv (v := .bool false) E rfl rfl rfl rfl rfl (tst rfl (decide_eq_false (by unfold mx2; (repeat' split) <;> omega))) fun fr E => ?_
  refine sv (v := .bool _) E rfl rfl rfl rfl rfl (rfl) fun fr E => ?_
  refine sv (v := _) E rfl rfl rfl rfl rfl (run_move rfl rfl) fun fr E => ?_
  refine sno E rfl rfl rfl rfl fun fr E => ?_
  refine sno E rfl rfl rfl rfl fun fr E => ?_
  refine sv (v := .bool _) E rfl rfl rfl rfl rfl (rfl) fun fr E => ?_
  refine sv (v := _) E rfl rfl rfl rfl rfl (run_assign rfl rfl) fun fr E => ?_
  refine seq_nil' ?_
  refine wp_ret ?_
  refine ret1 E rfl rfl ?_
  exact given M

set_option maxRecDepth 100000 in
theorem right_ok {e n a : Int} {w0 : World} (h1 : 0 ≤ e ∧ 0 ≤ n ∧ 0 ≤ a) (h2 : e ≤ 1099511627776 ∧ n ≤ 1099511627776) : Gives Try.prog 88 [.int .i64 e, .int .i64 n, .int .i64 a] w0 (.bool (decide (a < 4096))) := by
  refine enter (n := 22) Try.func88 rfl rfl rfl ?_
  intro fr E
  have M : Mem w0 (feet []) [] (fun _ => True) w0 := Mem.begin (Has.nil w0) (fun _ _ => trivial)
  refine code_region ?_
  refine sv (v := _) E rfl rfl rfl rfl rfl (run_assignC rfl) fun fr E => ?_
  refine seq_nil' ?_
  refine code_region ?_
  refine sv (v := _) E rfl rfl rfl rfl rfl (run_move rfl rfl) fun fr E => ?_
  refine sv (v := _) E rfl rfl rfl rfl rfl (run_move rfl rfl) fun fr E => ?_
  refine sv (v := _) E rfl rfl rfl rfl rfl (run_move rfl rfl) fun fr E => ?_
  refine sv (v := .int .i64 (mn3 e n a)) E rfl rfl rfl rfl rfl (num (run_min3 rfl rfl rfl rfl rfl) rfl) fun fr E => ?_
  refine sv (v := .bool true) E rfl rfl rfl rfl rfl (tst rfl (decide_eq_true (by unfold mn3; (repeat' split) <;> omega))) fun fr E => ?_
  refine sv (v := _) E rfl rfl rfl rfl rfl (run_move rfl rfl) fun fr E => ?_
  refine sv (v := _) E rfl rfl rfl rfl rfl (run_move rfl rfl) fun fr E => ?_
  refine sv (v := _) E rfl rfl rfl rfl rfl (run_move rfl rfl) fun fr E => ?_
  refine sv (v := .int .i64 (mx2 e n)) E rfl rfl rfl rfl rfl (num (run_max2 rfl rfl rfl rfl) rfl) fun fr E => ?_
  refine sv (v := .bool true) E rfl rfl rfl rfl rfl (tst rfl (decide_eq_true (by unfold mx2; (repeat' split) <;> omega))) fun fr E => ?_
  refine sv (v := .bool _) E rfl rfl rfl rfl rfl (rfl) fun fr E => ?_
  refine sv (v := _) E rfl rfl rfl rfl rfl (run_move rfl rfl) fun fr E => ?_
  refine sv (v := _) E rfl rfl rfl rfl rfl (run_move rfl rfl) fun fr E => ?_
  refine sv (v := .bool _) E rfl rfl rfl rfl rfl (rfl) fun fr E => ?_
  refine sv (v := .bool _) E rfl rfl rfl rfl rfl (rfl) fun fr E => ?_
  refine sv (v := _) E rfl rfl rfl rfl rfl (run_assign rfl rfl) fun fr E => ?_
  refine seq_nil' ?_
  refine wp_ret ?_
  refine ret1 E rfl rfl ?_
  exact given M

def SRight (e n a : Int) : Prop := (0 ≤ e ∧ 0 ≤ n ∧ 0 ≤ a) ∧ (e ≤ 1099511627776 ∧ n ≤ 1099511627776) ∧ a < 4096
instance (e n a : Int) : Decidable (SRight e n a) := by unfold SRight; infer_instance
theorem right_x (e n a : Int) (w0 : World) : Gives Try.prog 88 [.int .i64 e, .int .i64 n, .int .i64 a] w0 (.bool (decide (SRight e n a))) := by
  by_cases h1 : 0 ≤ e ∧ 0 ≤ n ∧ 0 ≤ a
  · by_cases h2 : e ≤ 1099511627776 ∧ n ≤ 1099511627776
    · have e1 : decide (SRight e n a) = decide (a < 4096) := decide_eq_decide.2 ⟨fun h => h.2.2, fun h => ⟨h1, h2, h⟩⟩
      rw [e1]; exact right_ok h1 h2
    · rw [decide_eq_false (fun h => h2 h.2.1)]; exact right_big h1 h2
  · rw [decide_eq_false (fun h => h1 h.1)]; exact right_neg h1
end Go.Proofs.Ytnojooafgehhaaa.K
end

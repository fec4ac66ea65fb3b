/- Facts on this translation's types and functions. -/
import Derived.Test.YtnebjbgcibjohaaProg
import Derived.Test.YtnebjbgcibjohaaRR
import Derived.Test.YtnebjbgcibjohaaRS
section
namespace Go.Rill.T
open Go.Proofs
theorem fn15 : goFn Try.prog 15 = true := by kernel_rfl
abbrev tab4_20_b : List Nat := [0, 0, 3, 7, 0, 0, 48, 112, 240, 496, 1023, 2047]
abbrev tab4_20_i : List Nat := [0, 1, 2, 3, 4, 5, 6, 7, 8, 9, 10, 11]
theorem tab4_20 : tabOk (regOps Try.f4 20) tab4_20_b 278 = true := by kernel_rfl
abbrev tab4_25_b : List Nat := [0, 1, 3, 7, 0, 31, 63, 127, 255, 511, 1023, 0, 2048, 6144, 14336, 0, 63488, 129024, 260096, 522240, 1048575, 2097151]
abbrev tab4_25_i : List Nat := [0, 1, 2, 3, 4, 5, 6, 7, 8, 9, 10, 11, 12, 13, 14, 15, 16, 17, 18, 19, 20, 21]
theorem tab4_25 : tabOk (regOps Try.f4 25) tab4_25_b 278 = true := by kernel_rfl
abbrev tab4_28_b : List Nat := [0, 1, 3, 7, 0, 16, 63, 127, 255, 511, 1023, 2047, 0, 4096, 12288, 28672, 0, 65536, 258048, 520192, 1044480, 2093056, 4194303, 8388607]
abbrev tab4_28_i : List Nat := [0, 1, 2, 3, 4, 5, 6, 7, 8, 9, 10, 11, 12, 13, 14, 15, 16, 17, 18, 19, 20, 21, 22, 23]
theorem tab4_28 : tabOk (regOps Try.f4 28) tab4_28_b 278 = true := by kernel_rfl
abbrev tab4_35_b : List Nat := [0, 1, 3, 7, 0, 16, 48, 112, 240, 0, 0, 1024, 3072, 7168, 0, 31744, 64512, 130048, 0, 262144, 786432, 1835008, 0, 8126464, 16515072, 33292288, 67108863, 134217727, 268435455, 268435455, 0, 1610612735, 4294967295]
abbrev tab4_35_i : List Nat := [0, 1, 2, 3, 4, 5, 6, 7, 8, 9, 10, 11, 12, 13, 14, 15, 16, 17, 18, 19, 20, 21, 22, 23, 24, 25, 26, 27, 28, 29, 30, 31, 32]
theorem tab4_35 : tabOk (regOps Try.f4 35) tab4_35_b 278 = true := by kernel_rfl
abbrev tab4_36_b : List Nat := [0, 1, 0, 7, 15, 31, 63, 127, 255, 511, 255, 1279, 3327, 7423, 255, 31999, 64767, 131071, 262143, 524287, 1048575]
abbrev tab4_36_i : List Nat := [0, 1, 2, 3, 4, 5, 6, 7, 8, 9, 10, 11, 12, 13, 14, 15, 16, 17, 18, 19, 20]
theorem tab4_36 : tabOk (regOps Try.f4 36) tab4_36_b 278 = true := by kernel_rfl
abbrev tab4_5_b : List Nat := [0, 1, 3, 7, 15, 31, 63, 0, 128, 384, 896, 1920, 4095, 8191]
abbrev tab4_5_i : List Nat := [0, 1, 2, 3, 4, 5, 6, 7, 8, 9, 10, 11, 12, 13]
theorem tab4_5 : tabOk (regOps Try.f4 5) tab4_5_b 278 = true := by kernel_rfl
end Go.Rill.T
end
section
namespace Go.Rill.T
open Go.Proofs
theorem fld36_0 : tyFld Try.prog 36 0 0 = true := by kernel_rfl
theorem fld36_1 : tyFld Try.prog 36 1 2 = true := by kernel_rfl
end Go.Rill.T
end
section
namespace Go.Rill.T
open Go.Proofs
theorem fn10 : goFn Try.prog 10 = true := by kernel_rfl
theorem fn6 : goFn Try.prog 6 = true := by kernel_rfl
end Go.Rill.T
end
section
namespace Go.Rill.T
open Go.Proofs
theorem flat26 : tyFlat Try.prog 26 ([.i64] ++ [.i64]) = true := by kernel_rfl
theorem fld41_0 : tyFld Try.prog 41 0 0 = true := by kernel_rfl
theorem fld41_1 : tyFld Try.prog 41 1 35 = true := by kernel_rfl
theorem fld41_2 : tyFld Try.prog 41 2 36 = true := by kernel_rfl
theorem fld41_3 : tyFld Try.prog 41 3 38 = true := by kernel_rfl
theorem fld41_4 : tyFld Try.prog 41 4 40 = true := by kernel_rfl
theorem fn7 : goFn Try.prog 7 = true := by kernel_rfl
theorem fn8 : goFn Try.prog 8 = true := by kernel_rfl
theorem fn9 : goFn Try.prog 9 = true := by kernel_rfl
abbrev tab10_5_b : List Nat := [0, 1, 3, 7, 0, 16, 48, 112, 240, 0, 0, 0, 4095, 8191, 16383, 16383, 0, 98303, 262143]
abbrev tab10_5_i : List Nat := [0, 1, 2, 3, 4, 5, 6, 7, 8, 9, 10, 11, 12, 13, 14, 15, 16, 17, 18]
theorem tab10_5 : tabOk (regOps Try.f10 5) tab10_5_b 123 = true := by kernel_rfl
abbrev tab10_6_b : List Nat := [0, 1, 3, 7, 0, 16, 48, 112, 240, 0, 0, 0, 4095, 8191, 16383, 16383, 0, 98303, 262143]
abbrev tab10_6_i : List Nat := [0, 1, 2, 3, 4, 5, 6, 7, 8, 9, 10, 11, 12, 13, 14, 15, 16, 17, 18]
theorem tab10_6 : tabOk (regOps Try.f10 6) tab10_6_b 123 = true := by kernel_rfl
abbrev tab10_7_b : List Nat := [0, 1, 3, 7, 0, 16, 48, 112, 240, 0, 0, 0, 4095, 8191, 16383, 16383, 0, 98303, 262143]
abbrev tab10_7_i : List Nat := [0, 1, 2, 3, 4, 5, 6, 7, 8, 9, 10, 11, 12, 13, 14, 15, 16, 17, 18]
theorem tab10_7 : tabOk (regOps Try.f10 7) tab10_7_b 123 = true := by kernel_rfl
abbrev tab10_8_b : List Nat := [0, 1, 3, 7, 0, 16, 48, 112, 240, 0, 0, 1024, 0, 4096, 16383, 32767, 65535, 65535, 0, 393215, 1048575]
abbrev tab10_8_i : List Nat := [0, 1, 2, 3, 4, 5, 6, 7, 8, 9, 10, 11, 12, 13, 14, 15, 16, 17, 18, 19, 20]
theorem tab10_8 : tabOk (regOps Try.f10 8) tab10_8_b 123 = true := by kernel_rfl
abbrev tab10_9_b : List Nat := [0, 1, 3, 7, 15, 31, 63, 127, 255, 511, 255, 2047, 4095, 8191, 16383, 32767, 16383, 131071, 262143, 524287, 1048575, 2097151, 1048575, 5242879, 13631487, 30408703, 63963135, 131071999, 268435455, 536870911, 1073741823, 2147483647, 4294967295, 8589934591, 17179869183, 34359738367, 68719476735, 137438953471, 274877906943, 549755813887, 1099511627775, 2199023255551, 4398046511103]
abbrev tab10_9_i : List Nat := [0, 1, 2, 3, 4, 5, 6, 7, 8, 9, 10, 11, 12, 13, 14, 15, 16, 17, 18, 19, 20, 21, 22, 23, 24, 25, 26, 27, 28, 29, 30, 31, 32, 33, 34, 35, 36, 37, 38, 39, 40, 41, 42]
theorem tab10_9 : tabOk (regOps Try.f10 9) tab10_9_b 123 = true := by kernel_rfl
end Go.Rill.T
end
section
namespace Go.Rill.T
open Go.Proofs
theorem fld69_0 : tyFld Try.prog 69 0 0 = true := by kernel_rfl
theorem fld69_1 : tyFld Try.prog 69 1 1 = true := by kernel_rfl
theorem fn13 : goFn Try.prog 13 = true := by kernel_rfl
theorem fn21 : goFn Try.prog 21 = true := by kernel_rfl
theorem fn22 : goFn Try.prog 22 = true := by kernel_rfl
theorem size69 : tySize Try.prog 69 2 = true := by kernel_rfl
theorem slice22 : tySlice Try.prog 22 69 = true := by kernel_rfl
abbrev tab6_5_b : List Nat := [0, 0, 0, 6, 14, 30, 62, 0, 0, 384, 896, 1920, 4095]
abbrev tab6_5_i : List Nat := [0, 1, 2, 3, 4, 5, 6, 7, 8, 9, 10, 11, 12]
theorem tab6_5 : tabOk (regOps Try.f6 5) tab6_5_b 34 = true := by kernel_rfl
end Go.Rill.T
end
section
namespace Go.Rill.T
open Go.Proofs
theorem by36 : tyBytes' Try.prog 36 48 = true := by kernel_rfl
theorem by39 : tyBytes' Try.prog 39 72 = true := by kernel_rfl
theorem fld34_3 : tyFld Try.prog 34 3 4 = true := by kernel_rfl
theorem fld34_4 : tyFld Try.prog 34 4 36 = true := by kernel_rfl
theorem fld34_5 : tyFld Try.prog 34 5 37 = true := by kernel_rfl
theorem fn34 : goFn Try.prog 34 = true := by kernel_rfl
theorem fn35 : goFn Try.prog 35 = true := by kernel_rfl
theorem one31 : tyOne Try.prog 31 = true := by kernel_rfl
theorem one32 : tyOne Try.prog 32 = true := by kernel_rfl
theorem size31 : tySize Try.prog 31 1 = true := by kernel_rfl
theorem size32 : tySize Try.prog 32 1 = true := by kernel_rfl
theorem size36 : tySize Try.prog 36 34 = true := by kernel_rfl
theorem slice31 : tySlice Try.prog 31 36 = true := by kernel_rfl
theorem slice32 : tySlice Try.prog 32 39 = true := by kernel_rfl
abbrev tab22_1_b : List Nat := [0, 0, 2, 6, 14, 0, 32, 96, 224, 0, 512, 1536, 3584, 8160, 16352, 32766, 65535, 131071, 262143]
theorem tab22_1 : tabOk (regOps Try.f22 1) tab22_1_b 119 = true := by kernel_rfl
abbrev tab22_14_b : List Nat := [0, 0, 2, 6, 14, 0, 32, 126, 255, 511, 1023]
theorem tab22_14 : tabOk (regOps Try.f22 14) tab22_14_b 119 = true := by kernel_rfl
abbrev tab22_14_j : List Nat := [0, 1, 2, 3, 4, 5, 6, 7, 8, 9]
abbrev tab22_1_j : List Nat := [0, 1, 2, 3, 4, 5, 6, 7, 8, 9, 10, 11, 12, 13, 14, 15, 16, 17]
theorem ts36 : tyStruct Try.prog 36 [2, 32] [.int .i64 0, .int .i64 0, .int .u8 0, .int .u8 0, .int .u8 0, .int .u8 0, .int .u8 0, .int .u8 0, .int .u8 0, .int .u8 0, .int .u8 0, .int .u8 0, .int .u8 0, .int .u8 0, .int .u8 0, .int .u8 0, .int .u8 0, .int .u8 0, .int .u8 0, .int .u8 0, .int .u8 0, .int .u8 0, .int .u8 0, .int .u8 0, .int .u8 0, .int .u8 0, .int .u8 0, .int .u8 0, .int .u8 0, .int .u8 0, .int .u8 0, .int .u8 0, .int .u8 0, .int .u8 0] = true := by kernel_rfl
theorem zeroL36 : zeroOf Try.prog 36 = some (.agg [.int .i64 0, .int .i64 0, .int .u8 0, .int .u8 0, .int .u8 0, .int .u8 0, .int .u8 0, .int .u8 0, .int .u8 0, .int .u8 0, .int .u8 0, .int .u8 0, .int .u8 0, .int .u8 0, .int .u8 0, .int .u8 0, .int .u8 0, .int .u8 0, .int .u8 0, .int .u8 0, .int .u8 0, .int .u8 0, .int .u8 0, .int .u8 0, .int .u8 0, .int .u8 0, .int .u8 0, .int .u8 0, .int .u8 0, .int .u8 0, .int .u8 0, .int .u8 0, .int .u8 0, .int .u8 0].toArray) := by kernel_rfl
theorem zl36 : (zeroOf Try.prog 36).map (·.cells.toList) = some [.int .i64 0, .int .i64 0, .int .u8 0, .int .u8 0, .int .u8 0, .int .u8 0, .int .u8 0, .int .u8 0, .int .u8 0, .int .u8 0, .int .u8 0, .int .u8 0, .int .u8 0, .int .u8 0, .int .u8 0, .int .u8 0, .int .u8 0, .int .u8 0, .int .u8 0, .int .u8 0, .int .u8 0, .int .u8 0, .int .u8 0, .int .u8 0, .int .u8 0, .int .u8 0, .int .u8 0, .int .u8 0, .int .u8 0, .int .u8 0, .int .u8 0, .int .u8 0, .int .u8 0, .int .u8 0] := by kernel_rfl
theorem zl39 : (zeroOf Try.prog 39).map (·.cells.toList) = some [.int .i64 0, .int .u8 0, .int .u8 0, .int .u8 0, .int .u8 0, .int .u8 0, .int .u8 0, .int .u8 0, .int .u8 0, .int .u8 0, .int .u8 0, .int .u8 0, .int .u8 0, .int .u8 0, .int .u8 0, .int .u8 0, .int .u8 0, .int .u8 0, .int .u8 0, .int .u8 0, .int .u8 0, .int .u8 0, .int .u8 0, .int .u8 0, .int .u8 0, .int .u8 0, .int .u8 0, .int .u8 0, .int .u8 0, .int .u8 0, .int .u8 0, .int .u8 0, .int .u8 0, .int .i64 0, .slice none 0 0] := by kernel_rfl
theorem zt36 : tyZero Try.prog 36 34 = true := by kernel_rfl
theorem zt39 : tyZero Try.prog 39 35 = true := by kernel_rfl
end Go.Rill.T
end
section
namespace Go.Rill.T
open Go.Proofs
theorem fn11 : goFn Try.prog 11 = true := by kernel_rfl
theorem fn12 : goFn Try.prog 12 = true := by kernel_rfl
theorem fn25 : goFn Try.prog 25 = true := by kernel_rfl
abbrev tab7_1_b : List Nat := [0, 0, 3, 0, 0, 16, 0, 64, 192, 496, 1023, 2047, 4095]
abbrev tab7_1_i : List Nat := [0, 1, 2, 3, 4, 5, 6, 7, 8, 9, 10, 11, 12]
theorem tab7_1 : tabOk (regOps Try.f7 1) tab7_1_b 80 = true := by kernel_rfl
end Go.Rill.T
end
section
namespace Go.Rill.T
open Go.Proofs
theorem agg41 : tyAgg Try.prog 41 72 = true := by kernel_rfl
theorem fn23 : goFn Try.prog 23 = true := by kernel_rfl
theorem fn38 : goFn Try.prog 38 = true := by kernel_rfl
theorem fn39 : goFn Try.prog 39 = true := by kernel_rfl
theorem fn40 : goFn Try.prog 40 = true := by kernel_rfl
theorem fn41 : goFn Try.prog 41 = true := by kernel_rfl
theorem size41 : tySize Try.prog 41 72 = true := by kernel_rfl
abbrev tab25_10_b : List Nat := [0, 0, 2, 0, 0, 0, 0, 96, 255, 511, 1023]
abbrev tab25_10_i : List Nat := [0, 1, 2, 3, 4, 5, 6, 7, 8, 9, 10]
theorem tab25_10 : tabOk (regOps Try.f25 10) tab25_10_b 78 = true := by kernel_rfl
theorem ts41 : tyStruct Try.prog 41 [35, 1, 2, 2, 32] [.int .i64 0, .int .u8 0, .int .u8 0, .int .u8 0, .int .u8 0, .int .u8 0, .int .u8 0, .int .u8 0, .int .u8 0, .int .u8 0, .int .u8 0, .int .u8 0, .int .u8 0, .int .u8 0, .int .u8 0, .int .u8 0, .int .u8 0, .int .u8 0, .int .u8 0, .int .u8 0, .int .u8 0, .int .u8 0, .int .u8 0, .int .u8 0, .int .u8 0, .int .u8 0, .int .u8 0, .int .u8 0, .int .u8 0, .int .u8 0, .int .u8 0, .int .u8 0, .int .u8 0, .int .i64 0, .slice none 0 0, .int .i64 0, .int .i64 0, .int .i64 0, .int .i64 0, .int .i64 0, .int .u8 0, .int .u8 0, .int .u8 0, .int .u8 0, .int .u8 0, .int .u8 0, .int .u8 0, .int .u8 0, .int .u8 0, .int .u8 0, .int .u8 0, .int .u8 0, .int .u8 0, .int .u8 0, .int .u8 0, .int .u8 0, .int .u8 0, .int .u8 0, .int .u8 0, .int .u8 0, .int .u8 0, .int .u8 0, .int .u8 0, .int .u8 0, .int .u8 0, .int .u8 0, .int .u8 0, .int .u8 0, .int .u8 0, .int .u8 0, .int .u8 0, .int .u8 0] = true := by kernel_rfl
theorem zero41 : zeroOf Try.prog 41 = some (.agg #[.int .i64 0, .int .u8 0, .int .u8 0, .int .u8 0, .int .u8 0, .int .u8 0, .int .u8 0, .int .u8 0, .int .u8 0, .int .u8 0, .int .u8 0, .int .u8 0, .int .u8 0, .int .u8 0, .int .u8 0, .int .u8 0, .int .u8 0, .int .u8 0, .int .u8 0, .int .u8 0, .int .u8 0, .int .u8 0, .int .u8 0, .int .u8 0, .int .u8 0, .int .u8 0, .int .u8 0, .int .u8 0, .int .u8 0, .int .u8 0, .int .u8 0, .int .u8 0, .int .u8 0, .int .i64 0, .slice none 0 0, .int .i64 0, .int .i64 0, .int .i64 0, .int .i64 0, .int .i64 0, .int .u8 0, .int .u8 0, .int .u8 0, .int .u8 0, .int .u8 0, .int .u8 0, .int .u8 0, .int .u8 0, .int .u8 0, .int .u8 0, .int .u8 0, .int .u8 0, .int .u8 0, .int .u8 0, .int .u8 0, .int .u8 0, .int .u8 0, .int .u8 0, .int .u8 0, .int .u8 0, .int .u8 0, .int .u8 0, .int .u8 0, .int .u8 0, .int .u8 0, .int .u8 0, .int .u8 0, .int .u8 0, .int .u8 0, .int .u8 0, .int .u8 0, .int .u8 0]) := by kernel_rfl
theorem zeroL41 : zeroOf Try.prog 41 = some (.agg [.int .i64 0, .int .u8 0, .int .u8 0, .int .u8 0, .int .u8 0, .int .u8 0, .int .u8 0, .int .u8 0, .int .u8 0, .int .u8 0, .int .u8 0, .int .u8 0, .int .u8 0, .int .u8 0, .int .u8 0, .int .u8 0, .int .u8 0, .int .u8 0, .int .u8 0, .int .u8 0, .int .u8 0, .int .u8 0, .int .u8 0, .int .u8 0, .int .u8 0, .int .u8 0, .int .u8 0, .int .u8 0, .int .u8 0, .int .u8 0, .int .u8 0, .int .u8 0, .int .u8 0, .int .i64 0, .slice none 0 0, .int .i64 0, .int .i64 0, .int .i64 0, .int .i64 0, .int .i64 0, .int .u8 0, .int .u8 0, .int .u8 0, .int .u8 0, .int .u8 0, .int .u8 0, .int .u8 0, .int .u8 0, .int .u8 0, .int .u8 0, .int .u8 0, .int .u8 0, .int .u8 0, .int .u8 0, .int .u8 0, .int .u8 0, .int .u8 0, .int .u8 0, .int .u8 0, .int .u8 0, .int .u8 0, .int .u8 0, .int .u8 0, .int .u8 0, .int .u8 0, .int .u8 0, .int .u8 0, .int .u8 0, .int .u8 0, .int .u8 0, .int .u8 0, .int .u8 0].toArray) := by kernel_rfl
end Go.Rill.T
end
section
namespace Go.Rill.T
open Go.Proofs
theorem meth30_Sum : tyMeth Try.prog 30 "Sum" 46 = true := by kernel_rfl
abbrev tab40_5_b : List Nat := [0, 1, 3, 7, 15, 31, 15, 127, 255, 511, 1023, 2047, 1023, 1023, 9215, 25599, 5119, 70655, 201727, 521215, 1048575, 2097151]
abbrev tab40_5_i : List Nat := [0, 1, 2, 3, 4, 5, 6, 7, 8, 9, 10, 11, 12, 13, 14, 15, 16, 17, 18, 19, 20, 21]
theorem tab40_5 : tabOk (regOps Try.f40 5) tab40_5_b 50 = true := by kernel_rfl
abbrev tab40_7_b : List Nat := [0, 1, 0, 4, 3, 31]
abbrev tab40_7_i : List Nat := [0, 1, 2, 3, 4, 5]
theorem tab40_7 : tabOk (regOps Try.f40 7) tab40_7_b 50 = true := by kernel_rfl
end Go.Rill.T
end
section
namespace Go.Rill.T
open Go.Proofs
theorem fld34_0 : tyFld Try.prog 34 0 0 = true := by kernel_rfl
theorem fld34_1 : tyFld Try.prog 34 1 1 = true := by kernel_rfl
theorem fld34_2 : tyFld Try.prog 34 2 2 = true := by kernel_rfl
theorem fld34_6 : tyFld Try.prog 34 6 38 = true := by kernel_rfl
theorem fn14 : goFn Try.prog 14 = true := by kernel_rfl
theorem fn32 : goFn Try.prog 32 = true := by kernel_rfl
theorem fn33 : goFn Try.prog 33 = true := by kernel_rfl
theorem fn45 : goFn Try.prog 45 = true := by kernel_rfl
theorem fn46 : goFn Try.prog 46 = true := by kernel_rfl
theorem one30 : tyOne Try.prog 30 = true := by kernel_rfl
abbrev tab34_2_b : List Nat := [0, 1, 3, 7, 15, 31, 63, 0, 128, 384, 896, 1920, 4095, 8191]
abbrev tab34_2_i : List Nat := [0, 1, 2, 3, 4, 5, 6, 7, 8, 9, 10, 11, 12, 13]
theorem tab34_2 : tabOk (regOps Try.f34 2) tab34_2_b 72 = true := by kernel_rfl
abbrev tab34_3_b : List Nat := [0, 1, 3, 7, 15, 0, 0, 64, 192, 448, 0, 0, 4064, 8191, 16383, 32767, 32767, 65535, 262143]
abbrev tab34_3_i : List Nat := [0, 1, 2, 3, 4, 5, 6, 7, 8, 9, 10, 11, 12, 13, 14, 15, 16, 17, 18]
theorem tab34_3 : tabOk (regOps Try.f34 3) tab34_3_b 72 = true := by kernel_rfl
theorem ts34 : tyStruct Try.prog 34 [1, 1, 2, 32, 1, 1, 1] [.pointer none, .pointer none, .int .i64 0, .int .i64 0, .int .u8 0, .int .u8 0, .int .u8 0, .int .u8 0, .int .u8 0, .int .u8 0, .int .u8 0, .int .u8 0, .int .u8 0, .int .u8 0, .int .u8 0, .int .u8 0, .int .u8 0, .int .u8 0, .int .u8 0, .int .u8 0, .int .u8 0, .int .u8 0, .int .u8 0, .int .u8 0, .int .u8 0, .int .u8 0, .int .u8 0, .int .u8 0, .int .u8 0, .int .u8 0, .int .u8 0, .int .u8 0, .int .u8 0, .int .u8 0, .int .u8 0, .int .u8 0, .slice none 0 0, .slice none 0 0, .int .i64 0] = true := by kernel_rfl
theorem zeroL34 : zeroOf Try.prog 34 = some (.agg [.pointer none, .pointer none, .int .i64 0, .int .i64 0, .int .u8 0, .int .u8 0, .int .u8 0, .int .u8 0, .int .u8 0, .int .u8 0, .int .u8 0, .int .u8 0, .int .u8 0, .int .u8 0, .int .u8 0, .int .u8 0, .int .u8 0, .int .u8 0, .int .u8 0, .int .u8 0, .int .u8 0, .int .u8 0, .int .u8 0, .int .u8 0, .int .u8 0, .int .u8 0, .int .u8 0, .int .u8 0, .int .u8 0, .int .u8 0, .int .u8 0, .int .u8 0, .int .u8 0, .int .u8 0, .int .u8 0, .int .u8 0, .slice none 0 0, .slice none 0 0, .int .i64 0].toArray) := by kernel_rfl
end Go.Rill.T
end
section
namespace Go.Rill.T
open Go.Proofs
theorem fn26 : goFn Try.prog 26 = true := by kernel_rfl
abbrev tab41_3_b : List Nat := [0, 1, 0, 4, 12, 28, 28, 92, 252, 508, 1020, 2044, 2044, 6140, 16380, 32764, 2047, 131071]
abbrev tab41_3_i : List Nat := [0, 1, 2, 3, 4, 5, 6, 7, 8, 9, 10, 11, 12, 13, 14, 15, 16, 17]
theorem tab41_3 : tabOk (regOps Try.f41 3) tab41_3_b 38 = true := by kernel_rfl
theorem ts26 : tyStruct Try.prog 26 [1, 1] [.int .i64 0, .int .i64 0] = true := by kernel_rfl
theorem zero26 : zeroOf Try.prog 26 = some (.agg #[.int .i64 0, .int .i64 0]) := by kernel_rfl
theorem zeroL26 : zeroOf Try.prog 26 = some (.agg [.int .i64 0, .int .i64 0].toArray) := by kernel_rfl
end Go.Rill.T
end
section
namespace Go.Rill.T
open Go.Proofs
theorem flat83 : tyFlat Try.prog 83 ([.i64] ++ [.i64] ++ [.i64] ++ List.replicate 32 .u8) = true := by kernel_rfl
theorem fld26_0 : tyFld Try.prog 26 0 0 = true := by kernel_rfl
theorem fld26_1 : tyFld Try.prog 26 1 1 = true := by kernel_rfl
theorem fn36 : goFn Try.prog 36 = true := by kernel_rfl
abbrev tab26_6_b : List Nat := [0, 0, 3, 7, 0, 0, 48, 112, 255]
abbrev tab26_6_i : List Nat := [0, 1, 2, 3, 4, 5, 6, 7, 8]
theorem tab26_6 : tabOk (regOps Try.f26 6) tab26_6_b 26 = true := by kernel_rfl
end Go.Rill.T
end
section
namespace Go.Rill.T
open Go.Proofs
theorem by83 : tyBytes' Try.prog 83 56 = true := by kernel_rfl
theorem fn56 : goFn Try.prog 56 = true := by kernel_rfl
theorem fn57 : goFn Try.prog 57 = true := by kernel_rfl
theorem fn58 : goFn Try.prog 58 = true := by kernel_rfl
theorem fn59 : goFn Try.prog 59 = true := by kernel_rfl
theorem size37 : tySize Try.prog 37 1 = true := by kernel_rfl
theorem size39 : tySize Try.prog 39 35 = true := by kernel_rfl
abbrev tab39_9_b : List Nat := [0, 1, 0, 4, 0, 28, 0, 124, 0, 508, 1020, 2044, 4095, 8191, 16383]
theorem tab39_9 : tabOk (regOps Try.f39 9) tab39_9_b 65 = true := by kernel_rfl
abbrev tab39_9_j : List Nat := [0, 1, 2, 3, 4, 5, 6, 7, 8, 9, 10, 11, 12, 13]
theorem ts39 : tyStruct Try.prog 39 [1, 32, 1, 1] [.int .i64 0, .int .u8 0, .int .u8 0, .int .u8 0, .int .u8 0, .int .u8 0, .int .u8 0, .int .u8 0, .int .u8 0, .int .u8 0, .int .u8 0, .int .u8 0, .int .u8 0, .int .u8 0, .int .u8 0, .int .u8 0, .int .u8 0, .int .u8 0, .int .u8 0, .int .u8 0, .int .u8 0, .int .u8 0, .int .u8 0, .int .u8 0, .int .u8 0, .int .u8 0, .int .u8 0, .int .u8 0, .int .u8 0, .int .u8 0, .int .u8 0, .int .u8 0, .int .u8 0, .int .i64 0, .slice none 0 0] = true := by kernel_rfl
theorem ts83 : tyStruct Try.prog 83 [1, 1, 1, 32] [.int .i64 0, .int .i64 0, .int .i64 0, .int .u8 0, .int .u8 0, .int .u8 0, .int .u8 0, .int .u8 0, .int .u8 0, .int .u8 0, .int .u8 0, .int .u8 0, .int .u8 0, .int .u8 0, .int .u8 0, .int .u8 0, .int .u8 0, .int .u8 0, .int .u8 0, .int .u8 0, .int .u8 0, .int .u8 0, .int .u8 0, .int .u8 0, .int .u8 0, .int .u8 0, .int .u8 0, .int .u8 0, .int .u8 0, .int .u8 0, .int .u8 0, .int .u8 0, .int .u8 0, .int .u8 0, .int .u8 0] = true := by kernel_rfl
theorem zero39 : zeroOf Try.prog 39 = some (.agg #[.int .i64 0, .int .u8 0, .int .u8 0, .int .u8 0, .int .u8 0, .int .u8 0, .int .u8 0, .int .u8 0, .int .u8 0, .int .u8 0, .int .u8 0, .int .u8 0, .int .u8 0, .int .u8 0, .int .u8 0, .int .u8 0, .int .u8 0, .int .u8 0, .int .u8 0, .int .u8 0, .int .u8 0, .int .u8 0, .int .u8 0, .int .u8 0, .int .u8 0, .int .u8 0, .int .u8 0, .int .u8 0, .int .u8 0, .int .u8 0, .int .u8 0, .int .u8 0, .int .u8 0, .int .i64 0, .slice none 0 0]) := by kernel_rfl
theorem zeroL39 : zeroOf Try.prog 39 = some (.agg [.int .i64 0, .int .u8 0, .int .u8 0, .int .u8 0, .int .u8 0, .int .u8 0, .int .u8 0, .int .u8 0, .int .u8 0, .int .u8 0, .int .u8 0, .int .u8 0, .int .u8 0, .int .u8 0, .int .u8 0, .int .u8 0, .int .u8 0, .int .u8 0, .int .u8 0, .int .u8 0, .int .u8 0, .int .u8 0, .int .u8 0, .int .u8 0, .int .u8 0, .int .u8 0, .int .u8 0, .int .u8 0, .int .u8 0, .int .u8 0, .int .u8 0, .int .u8 0, .int .u8 0, .int .i64 0, .slice none 0 0].toArray) := by kernel_rfl
theorem zeroL83 : zeroOf Try.prog 83 = some (.agg [.int .i64 0, .int .i64 0, .int .i64 0, .int .u8 0, .int .u8 0, .int .u8 0, .int .u8 0, .int .u8 0, .int .u8 0, .int .u8 0, .int .u8 0, .int .u8 0, .int .u8 0, .int .u8 0, .int .u8 0, .int .u8 0, .int .u8 0, .int .u8 0, .int .u8 0, .int .u8 0, .int .u8 0, .int .u8 0, .int .u8 0, .int .u8 0, .int .u8 0, .int .u8 0, .int .u8 0, .int .u8 0, .int .u8 0, .int .u8 0, .int .u8 0, .int .u8 0, .int .u8 0, .int .u8 0, .int .u8 0].toArray) := by kernel_rfl
theorem zl83 : (zeroOf Try.prog 83).map (·.cells.toList) = some [.int .i64 0, .int .i64 0, .int .i64 0, .int .u8 0, .int .u8 0, .int .u8 0, .int .u8 0, .int .u8 0, .int .u8 0, .int .u8 0, .int .u8 0, .int .u8 0, .int .u8 0, .int .u8 0, .int .u8 0, .int .u8 0, .int .u8 0, .int .u8 0, .int .u8 0, .int .u8 0, .int .u8 0, .int .u8 0, .int .u8 0, .int .u8 0, .int .u8 0, .int .u8 0, .int .u8 0, .int .u8 0, .int .u8 0, .int .u8 0, .int .u8 0, .int .u8 0, .int .u8 0, .int .u8 0, .int .u8 0] := by kernel_rfl
theorem zt83 : tyZero Try.prog 83 35 = true := by kernel_rfl
end Go.Rill.T
end
section
namespace Go.Rill.T
open Go.Proofs
theorem size46 : tySize Try.prog 46 3 = true := by kernel_rfl
theorem ts46 : tyStruct Try.prog 46 [1, 1, 1] [.int .i64 0, .int .i64 0, .int .i64 0] = true := by kernel_rfl
theorem zero46 : zeroOf Try.prog 46 = some (.agg #[.int .i64 0, .int .i64 0, .int .i64 0]) := by kernel_rfl
theorem zeroL46 : zeroOf Try.prog 46 = some (.agg [.int .i64 0, .int .i64 0, .int .i64 0].toArray) := by kernel_rfl
end Go.Rill.T
end
section
namespace Go.Rill.T
open Go.Proofs
theorem agg39 : tyAgg Try.prog 39 35 = true := by kernel_rfl
theorem fld39_1 : tyFld Try.prog 39 1 1 = true := by kernel_rfl
theorem fn47 : goFn Try.prog 47 = true := by kernel_rfl
theorem fn49 : goFn Try.prog 49 = true := by kernel_rfl
abbrev tab35_4_b : List Nat := [0, 1, 3, 0, 8, 31, 0, 64, 255, 0, 512, 1536, 4095, 8191]
abbrev tab35_4_i : List Nat := [0, 1, 2, 3, 4, 5, 6, 7, 8, 9, 10, 11, 12, 13]
theorem tab35_4 : tabOk (regOps Try.f35 4) tab35_4_b 48 = true := by kernel_rfl
abbrev tab35_8_b : List Nat := [0, 0, 2, 7, 0, 16, 63, 0, 128, 511, 0, 1024, 4095, 8191]
abbrev tab35_8_i : List Nat := [0, 1, 2, 3, 4, 5, 6, 7, 8, 9, 10, 11, 12, 13]
theorem tab35_8 : tabOk (regOps Try.f35 8) tab35_8_b 48 = true := by kernel_rfl
end Go.Rill.T
end
section
namespace Go.Rill.T
open Go.Proofs
theorem agg83 : tyAgg Try.prog 83 35 = true := by kernel_rfl
theorem fld39_0 : tyFld Try.prog 39 0 0 = true := by kernel_rfl
theorem fld39_2 : tyFld Try.prog 39 2 33 = true := by kernel_rfl
theorem fld39_3 : tyFld Try.prog 39 3 34 = true := by kernel_rfl
theorem fn65 : goFn Try.prog 65 = true := by kernel_rfl
theorem one37 : tyOne Try.prog 37 = true := by kernel_rfl
theorem size83 : tySize Try.prog 83 35 = true := by kernel_rfl
theorem slice37 : tySlice Try.prog 37 83 = true := by kernel_rfl
theorem zero83 : zeroOf Try.prog 83 = some (.agg #[.int .i64 0, .int .i64 0, .int .i64 0, .int .u8 0, .int .u8 0, .int .u8 0, .int .u8 0, .int .u8 0, .int .u8 0, .int .u8 0, .int .u8 0, .int .u8 0, .int .u8 0, .int .u8 0, .int .u8 0, .int .u8 0, .int .u8 0, .int .u8 0, .int .u8 0, .int .u8 0, .int .u8 0, .int .u8 0, .int .u8 0, .int .u8 0, .int .u8 0, .int .u8 0, .int .u8 0, .int .u8 0, .int .u8 0, .int .u8 0, .int .u8 0, .int .u8 0, .int .u8 0, .int .u8 0, .int .u8 0]) := by kernel_rfl
end Go.Rill.T
end
section
namespace Go.Rill.T
open Go.Proofs
theorem flat28 : tyFlat Try.prog 28 (List.replicate 32 .u8) = true := by kernel_rfl
theorem fld83_0 : tyFld Try.prog 83 0 0 = true := by kernel_rfl
theorem fld83_1 : tyFld Try.prog 83 1 1 = true := by kernel_rfl
theorem fld83_2 : tyFld Try.prog 83 2 2 = true := by kernel_rfl
theorem fld83_3 : tyFld Try.prog 83 3 3 = true := by kernel_rfl
theorem fn64 : goFn Try.prog 64 = true := by kernel_rfl
end Go.Rill.T
end
section
namespace Go.Rill.T
open Go.Proofs
theorem fld112_2 : tyFld Try.prog 112 2 2 = true := by kernel_rfl
theorem one109 : tyOne Try.prog 109 = true := by kernel_rfl
abbrev tab46_1_b : List Nat := [0, 1, 3, 7, 0, 16, 63, 127, 255, 255, 511, 2047]
abbrev tab46_1_i : List Nat := [0, 1, 2, 3, 4, 5, 6, 7, 8, 9, 10, 11]
theorem tab46_1 : tabOk (regOps Try.f46 1) tab46_1_b 45 = true := by kernel_rfl
abbrev tab46_11_b : List Nat := [0, 0, 2, 7]
abbrev tab46_11_i : List Nat := [0, 1, 2, 3]
theorem tab46_11 : tabOk (regOps Try.f46 11) tab46_11_b 45 = true := by kernel_rfl
abbrev tab46_4_b : List Nat := [0, 1, 3, 7, 0, 16, 0, 127]
theorem tab46_4 : tabOk (regOps Try.f46 4) tab46_4_b 45 = true := by kernel_rfl
abbrev tab46_4_j : List Nat := [0, 1, 2, 3, 4, 5, 6]
theorem textsM : tyTexts Try.prog 109 9 3 = true := by kernel_rfl
end Go.Rill.T
end
section
namespace Go.Rill.T
open Go.Proofs
theorem one29 : tyOne Try.prog 29 = true := by kernel_rfl
end Go.Rill.T
end
section
namespace Go.Rill.T
open Go.Proofs
theorem agg46 : tyAgg Try.prog 46 3 = true := by kernel_rfl
theorem agg96 : tyAgg Try.prog 96 3 = true := by kernel_rfl
theorem fld46_0 : tyFld Try.prog 46 0 0 = true := by kernel_rfl
theorem fld46_1 : tyFld Try.prog 46 1 1 = true := by kernel_rfl
theorem fld46_2 : tyFld Try.prog 46 2 2 = true := by kernel_rfl
theorem fld96_0 : tyFld Try.prog 96 0 0 = true := by kernel_rfl
theorem fld96_1 : tyFld Try.prog 96 1 1 = true := by kernel_rfl
theorem fld96_2 : tyFld Try.prog 96 2 2 = true := by kernel_rfl
theorem fn37 : goFn Try.prog 37 = true := by kernel_rfl
theorem fn50 : goFn Try.prog 50 = true := by kernel_rfl
theorem fn51 : goFn Try.prog 51 = true := by kernel_rfl
theorem size96 : tySize Try.prog 96 3 = true := by kernel_rfl
theorem slice119 : tySlice Try.prog 119 96 = true := by kernel_rfl
abbrev tab36_1_b : List Nat := [0, 1, 3, 0, 8, 24, 0, 64, 192, 511, 1023, 2047, 4095, 8191, 16383, 4095, 36863, 4095, 4095, 266239, 921599, 2068479, 4165631, 4095, 10358783, 27135999, 67080191, 134217727, 268435455, 536870911]
abbrev tab36_1_i : List Nat := [0, 1, 2, 3, 4, 5, 6, 7, 8, 9, 10, 11, 12, 13, 14, 15, 16, 17, 18, 19, 20, 21, 22, 23, 24, 25, 26, 27, 28, 29]
theorem tab36_1 : tabOk (regOps Try.f36 1) tab36_1_b 32 = true := by kernel_rfl
theorem ts96 : tyStruct Try.prog 96 [1, 1, 1] [.int .i64 0, .int .i64 0, .int .i64 0] = true := by kernel_rfl
theorem zero96 : zeroOf Try.prog 96 = some (.agg #[.int .i64 0, .int .i64 0, .int .i64 0]) := by kernel_rfl
theorem zeroL96 : zeroOf Try.prog 96 = some (.agg [.int .i64 0, .int .i64 0, .int .i64 0].toArray) := by kernel_rfl
theorem zl96 : (zeroOf Try.prog 96).map (·.cells.toList) = some [.int .i64 0, .int .i64 0, .int .i64 0] := by kernel_rfl
end Go.Rill.T
end
section
namespace Go.Rill.T
open Go.Proofs
theorem by3 : tyBytes' Try.prog 3 8 = true := by kernel_rfl
theorem by54 : tyBytes' Try.prog 54 24 = true := by kernel_rfl
abbrev tab32_3_b : List Nat := [0, 1, 0, 0, 8, 31, 63, 127, 255]
abbrev tab32_3_i : List Nat := [0, 1, 2, 3, 4, 5, 6, 7, 8]
theorem tab32_3 : tabOk (regOps Try.f32 3) tab32_3_b 17 = true := by kernel_rfl
theorem ts78 : tyStruct Try.prog 78 [1, 1, 1, 1, 1, 1, 1] [.slice none 0 0, .map none, .bool false, .int .i64 0, .bool false, .int .i64 0, .slice none 0 0] = true := by kernel_rfl
theorem zc3 : (zeroOf Try.prog 3).map (·.cells) = some #[.int .i64 0] := by kernel_rfl
theorem zc54 : (zeroOf Try.prog 54).map (·.cells) = some #[.slice none 0 0] := by kernel_rfl
theorem zeroL78 : zeroOf Try.prog 78 = some (.agg [.slice none 0 0, .map none, .bool false, .int .i64 0, .bool false, .int .i64 0, .slice none 0 0].toArray) := by kernel_rfl
theorem zt3 : tyZero Try.prog 3 1 = true := by kernel_rfl
theorem zt54 : tyZero Try.prog 54 1 = true := by kernel_rfl
end Go.Rill.T
end
section
namespace Go.Rill.T
open Go.Proofs
theorem agg98 : tyAgg Try.prog 98 5 = true := by kernel_rfl
theorem fld98_0 : tyFld Try.prog 98 0 0 = true := by kernel_rfl
theorem fld98_1 : tyFld Try.prog 98 1 1 = true := by kernel_rfl
theorem fld98_2 : tyFld Try.prog 98 2 2 = true := by kernel_rfl
theorem fld98_3 : tyFld Try.prog 98 3 3 = true := by kernel_rfl
theorem fld98_4 : tyFld Try.prog 98 4 4 = true := by kernel_rfl
theorem fn105 : goFn Try.prog 105 = true := by kernel_rfl
theorem fn106 : goFn Try.prog 106 = true := by kernel_rfl
theorem fn24 : goFn Try.prog 24 = true := by kernel_rfl
theorem fn52 : goFn Try.prog 52 = true := by kernel_rfl
theorem fn53 : goFn Try.prog 53 = true := by kernel_rfl
theorem fn54 : goFn Try.prog 54 = true := by kernel_rfl
theorem fn55 : goFn Try.prog 55 = true := by kernel_rfl
theorem meth30_Open : tyMeth Try.prog 30 "Open" 105 = true := by kernel_rfl
theorem meth30_Seal : tyMeth Try.prog 30 "Seal" 106 = true := by kernel_rfl
theorem size98 : tySize Try.prog 98 5 = true := by kernel_rfl
abbrev tab38_11_b : List Nat := [0, 0, 2, 0, 8, 0, 0, 96, 0, 256, 1, 1025, 3073, 8191, 16383, 32767, 32767, 65535, 262143]
abbrev tab38_11_i : List Nat := [0, 1, 2, 3, 4, 5, 6, 7, 8, 9, 10, 11, 12, 13, 14, 15, 16, 17, 18]
theorem tab38_11 : tabOk (regOps Try.f38 11) tab38_11_b 75 = true := by kernel_rfl
abbrev tab45_8_b : List Nat := [0, 1, 3, 7, 0, 16, 63, 0, 128, 511, 1023]
abbrev tab45_8_i : List Nat := [0, 1, 2, 3, 4, 5, 6, 7, 8, 9, 10]
theorem tab45_8 : tabOk (regOps Try.f45 8) tab45_8_b 56 = true := by kernel_rfl
abbrev tab45_9_b : List Nat := [0, 0, 0, 4, 0, 16, 0, 64, 0, 256, 960, 0, 2048, 2, 8194, 24578, 65534, 131071, 262143, 524287]
abbrev tab45_9_i : List Nat := [0, 1, 2, 3, 4, 5, 6, 7, 8, 9, 10, 11, 12, 13, 14, 15, 16, 17, 18, 19]
theorem tab45_9 : tabOk (regOps Try.f45 9) tab45_9_b 56 = true := by kernel_rfl
theorem ts98 : tyStruct Try.prog 98 [1, 1, 1, 1, 1] [.int .i64 0, .int .i64 0, .int .i64 0, .int .i64 0, .slice none 0 0] = true := by kernel_rfl
theorem zero98 : zeroOf Try.prog 98 = some (.agg #[.int .i64 0, .int .i64 0, .int .i64 0, .int .i64 0, .slice none 0 0]) := by kernel_rfl
theorem zeroL98 : zeroOf Try.prog 98 = some (.agg [.int .i64 0, .int .i64 0, .int .i64 0, .int .i64 0, .slice none 0 0].toArray) := by kernel_rfl
end Go.Rill.T
end
section
namespace Go.Rill.T
open Go.Proofs
theorem agg175 : tyAgg Try.prog 175 4 = true := by kernel_rfl
theorem by175 : tyBytes' Try.prog 175 48 = true := by kernel_rfl
theorem fld112_0 : tyFld Try.prog 112 0 0 = true := by kernel_rfl
theorem fld112_1 : tyFld Try.prog 112 1 1 = true := by kernel_rfl
theorem fn107 : goFn Try.prog 107 = true := by kernel_rfl
theorem fn108 : goFn Try.prog 108 = true := by kernel_rfl
theorem fn109 : goFn Try.prog 109 = true := by kernel_rfl
theorem fn63 : goFn Try.prog 63 = true := by kernel_rfl
theorem namesM : tyNames Try.prog 108 175 3 = true := by kernel_rfl
theorem one108 : tyOne Try.prog 108 = true := by kernel_rfl
theorem one110 : tyOne Try.prog 110 = true := by kernel_rfl
theorem size110 : tySize Try.prog 110 1 = true := by kernel_rfl
theorem size175 : tySize Try.prog 175 4 = true := by kernel_rfl
theorem slice110 : tySlice Try.prog 110 175 = true := by kernel_rfl
theorem strT : Try.prog.underlying 9 = some .string := by kernel_rfl
abbrev tab105_3_b : List Nat := [0, 0, 2, 6, 15, 0, 0, 64, 192, 480, 31, 2047]
abbrev tab105_3_i : List Nat := [0, 1, 2, 3, 4, 5, 6, 7, 8, 9, 10, 11]
theorem tab105_3 : tabOk (regOps Try.f105 3) tab105_3_b 58 = true := by kernel_rfl
abbrev tab105_4_b : List Nat := [0, 1, 3, 7, 0, 0, 0, 64, 0, 256, 1008, 2047, 4095, 8191, 8191, 16383, 65535]
abbrev tab105_4_i : List Nat := [0, 1, 2, 3, 4, 5, 6, 7, 8, 9, 10, 11, 12, 13, 14, 15, 16]
theorem tab105_4 : tabOk (regOps Try.f105 4) tab105_4_b 58 = true := by kernel_rfl
abbrev tab105_5_b : List Nat := [0, 1, 3, 7, 7, 7, 39, 119, 247, 511, 1023, 2047]
abbrev tab105_5_i : List Nat := [0, 1, 2, 3, 4, 5, 6, 7, 8, 9, 10, 11]
theorem tab105_5 : tabOk (regOps Try.f105 5) tab105_5_b 58 = true := by kernel_rfl
abbrev tab106_4_b : List Nat := [0, 1, 3, 7, 0, 31, 63, 127, 127, 255, 1023]
abbrev tab106_4_i : List Nat := [0, 1, 2, 3, 4, 5, 6, 7, 8, 9, 10]
theorem tab106_4 : tabOk (regOps Try.f106 4) tab106_4_b 67 = true := by kernel_rfl
abbrev tab106_6_b : List Nat := [0, 0, 2, 6, 14, 0, 32, 126, 255, 511, 1023]
theorem tab106_6 : tabOk (regOps Try.f106 6) tab106_6_b 67 = true := by kernel_rfl
abbrev tab106_6_j : List Nat := [0, 1, 2, 3, 4, 5, 6, 7, 8, 9]
abbrev tab106_8_b : List Nat := [0, 1, 3, 7, 0, 0, 63]
theorem tab106_8 : tabOk (regOps Try.f106 8) tab106_8_b 67 = true := by kernel_rfl
abbrev tab106_8_j : List Nat := [0, 1, 2, 3, 4, 5]
abbrev tab106_9_b : List Nat := [0, 0, 0, 4, 15, 31, 63]
abbrev tab106_9_i : List Nat := [0, 1, 2, 3, 4, 5, 6]
theorem tab106_9 : tabOk (regOps Try.f106 9) tab106_9_b 67 = true := by kernel_rfl
theorem ts112 : tyStruct Try.prog 112 [1, 1, 1] [.map none, .slice none 0 0, .map none] = true := by kernel_rfl
theorem ts175 : tyStruct Try.prog 175 [1, 1, 1, 1] [.int .i64 0, .int .i64 0, .string .empty, .string .empty] = true := by kernel_rfl
theorem u8T : Try.prog.underlying 5 = some (.int .u8) := by kernel_rfl
theorem zero175 : zeroOf Try.prog 175 = some (.agg #[.int .i64 0, .int .i64 0, .string .empty, .string .empty]) := by kernel_rfl
theorem zero3 : zeroOf Try.prog 3 = some (.int .i64 0) := by kernel_rfl
theorem zeroL112 : zeroOf Try.prog 112 = some (.agg [.map none, .slice none 0 0, .map none].toArray) := by kernel_rfl
theorem zeroL175 : zeroOf Try.prog 175 = some (.agg [.int .i64 0, .int .i64 0, .string .empty, .string .empty].toArray) := by kernel_rfl
theorem zl175 : (zeroOf Try.prog 175).map (·.cells.toList) = some [.int .i64 0, .int .i64 0, .string .empty, .string .empty] := by kernel_rfl
theorem zl54 : (zeroOf Try.prog 54).map (·.cells.toList) = some [.slice none 0 0] := by kernel_rfl
theorem zt175 : tyZero Try.prog 175 4 = true := by kernel_rfl
end Go.Rill.T
end
section
namespace Go.Rill.T
open Go.Proofs
theorem fn110 : goFn Try.prog 110 = true := by kernel_rfl
theorem intT : Try.prog.underlying 3 = some (.int .i64) := by kernel_rfl
end Go.Rill.T
end
section
namespace Go.Rill.T
open Go.Proofs
theorem fld78_0 : tyFld Try.prog 78 0 0 = true := by kernel_rfl
theorem fld78_1 : tyFld Try.prog 78 1 1 = true := by kernel_rfl
theorem fld78_6 : tyFld Try.prog 78 6 6 = true := by kernel_rfl
theorem fn27 : goFn Try.prog 27 = true := by kernel_rfl
theorem fn28 : goFn Try.prog 28 = true := by kernel_rfl
theorem map76 : tyMap Try.prog 76 3 54 = true := by kernel_rfl
theorem one51 : tyOne Try.prog 51 = true := by kernel_rfl
theorem one52 : tyOne Try.prog 52 = true := by kernel_rfl
theorem one76 : tyOne Try.prog 76 = true := by kernel_rfl
theorem size3 : tySize Try.prog 3 1 = true := by kernel_rfl
theorem slice51 : tySlice Try.prog 51 3 = true := by kernel_rfl
theorem slice52 : tySlice Try.prog 52 54 = true := by kernel_rfl
theorem zero54 : zeroOf Try.prog 54 = some (.slice none 0 0) := by kernel_rfl
end Go.Rill.T
end
section
namespace Go.Rill.T
open Go.Proofs
theorem fn48 : goFn Try.prog 48 = true := by kernel_rfl
abbrev tab107_6_b : List Nat := [0, 0, 3, 7, 0, 0, 48, 112, 255]
abbrev tab107_6_i : List Nat := [0, 1, 2, 3, 4, 5, 6, 7, 8]
theorem tab107_6 : tabOk (regOps Try.f107 6) tab107_6_b 26 = true := by kernel_rfl
end Go.Rill.T
end
section
namespace Go.Rill.T
open Go.Proofs
end Go.Rill.T
end
section
namespace Go.Rill.T
open Go.Proofs
theorem size26 : tySize Try.prog 26 2 = true := by kernel_rfl
end Go.Rill.T
end
section
namespace Go.Rill.T
open Go.Proofs
theorem agg26 : tyAgg Try.prog 26 2 = true := by kernel_rfl
theorem mixed : Try.prog.follows .mixedOrders = true := by kernel_rfl
theorem one3 : tyOne Try.prog 3 = true := by kernel_rfl
abbrev tab15_6_b : List Nat := [0, 0, 3, 7, 0, 0, 48, 112, 255]
abbrev tab15_6_i : List Nat := [0, 1, 2, 3, 4, 5, 6, 7, 8]
theorem tab15_6 : tabOk (regOps Try.f15 6) tab15_6_b 26 = true := by kernel_rfl
end Go.Rill.T
end
section
namespace Go.Rill.T
open Go.Proofs
theorem fld136_0 : tyFld Try.prog 136 0 0 = true := by kernel_rfl
theorem fld136_1 : tyFld Try.prog 136 1 1 = true := by kernel_rfl
theorem fn68 : goFn Try.prog 68 = true := by kernel_rfl
theorem fn69 : goFn Try.prog 69 = true := by kernel_rfl
theorem fn70 : goFn Try.prog 70 = true := by kernel_rfl
theorem fn71 : goFn Try.prog 71 = true := by kernel_rfl
theorem one4 : tyOne Try.prog 4 = true := by kernel_rfl
theorem one5 : tyOne Try.prog 5 = true := by kernel_rfl
theorem one54 : tyOne Try.prog 54 = true := by kernel_rfl
theorem size28 : tySize Try.prog 28 32 = true := by kernel_rfl
theorem size4 : tySize Try.prog 4 1 = true := by kernel_rfl
theorem size54 : tySize Try.prog 54 1 = true := by kernel_rfl
theorem ts136 : tyStruct Try.prog 136 [1, 1] [.slice none 0 0, .bool false] = true := by kernel_rfl
theorem zero28 : zeroOf Try.prog 28 = some (.agg #[.int .u8 0, .int .u8 0, .int .u8 0, .int .u8 0, .int .u8 0, .int .u8 0, .int .u8 0, .int .u8 0, .int .u8 0, .int .u8 0, .int .u8 0, .int .u8 0, .int .u8 0, .int .u8 0, .int .u8 0, .int .u8 0, .int .u8 0, .int .u8 0, .int .u8 0, .int .u8 0, .int .u8 0, .int .u8 0, .int .u8 0, .int .u8 0, .int .u8 0, .int .u8 0, .int .u8 0, .int .u8 0, .int .u8 0, .int .u8 0, .int .u8 0, .int .u8 0]) := by kernel_rfl
theorem zeroL136 : zeroOf Try.prog 136 = some (.agg [.slice none 0 0, .bool false].toArray) := by kernel_rfl
end Go.Rill.T
end
section
namespace Go.Rill.T
open Go.Proofs
theorem agg28 : tyAgg Try.prog 28 32 = true := by kernel_rfl
theorem arr28 : tyArr Try.prog 28 5 32 = true := by kernel_rfl
theorem by5 : tyBytes' Try.prog 5 1 = true := by kernel_rfl
theorem fn66 : goFn Try.prog 66 = true := by kernel_rfl
theorem fn67 : goFn Try.prog 67 = true := by kernel_rfl
theorem size5 : tySize Try.prog 5 1 = true := by kernel_rfl
theorem slice54 : tySlice Try.prog 54 5 = true := by kernel_rfl
theorem zc5 : (zeroOf Try.prog 5).map (·.cells) = some #[.int .u8 0] := by kernel_rfl
theorem zl5 : (zeroOf Try.prog 5).map (·.cells.toList) = some [.int .u8 0] := by kernel_rfl
theorem zt5 : tyZero Try.prog 5 1 = true := by kernel_rfl
end Go.Rill.T
end
section
namespace Go.Proofs.Ytnebjbgcibjohaa.K
open Go.RowKit Go.Rill Go.Proofs
set_option linter.unusedVariables false
theorem wrap_u64 (x : Int) : IntKind.u64.wrap x = x % 18446744073709551616 := rfl
theorem wrap_u8 (x : Int) : IntKind.u8.wrap x = x % 256 := rfl
theorem eight_cells (v : Int) : [Value.int .u8 (IntKind.u8.wrap (IntKind.u64.wrap v / 72057594037927936)), .int .u8 (IntKind.u8.wrap (IntKind.u64.wrap v / 281474976710656)), .int .u8 (IntKind.u8.wrap (IntKind.u64.wrap v / 1099511627776)), .int .u8 (IntKind.u8.wrap (IntKind.u64.wrap v / 4294967296)), .int .u8 (IntKind.u8.wrap (IntKind.u64.wrap v / 16777216)), .int .u8 (IntKind.u8.wrap (IntKind.u64.wrap v / 65536)), .int .u8 (IntKind.u8.wrap (IntKind.u64.wrap v / 256)), .int .u8 (IntKind.u8.wrap (IntKind.u64.wrap v))] = bc (be8 v) := by
  simp only [be8, bc, List.map_cons, List.map_nil, ofInt_toNat, wrap_u64, wrap_u8, List.cons.injEq, Value.int.injEq, true_and, and_true]
  refine ⟨?_, ?_, ?_, ?_, ?_, ?_, ?_, ?_⟩ <;> omega
set_option maxRecDepth 100000 in
theorem eight_x (v : Int) (w0 : World) : Does Try.prog 67 [.int .i64 v] w0 [] (fun s : Value => s) (fun s => [.bytes 5 s (be8 v)]) (fun _ => True) := by
  refine enter (n := 30) Try.func67 rfl rfl rfl ?_
  intro fr E
  have M : Mem w0 (feet []) [] (fun _ => True) w0 := Mem.begin (Has.nil w0) (fun _ _ => trivial)
  refine code_region ?_
  refine sw E (run_assignC rfl) fun fr E => ?_
  refine seq_nil' ?_
  refine code_region ?_
  refine mv E fun fr E => ?_
  refine sw (v := .int _ (IntKind.u64.wrap v)) E (num rfl (rfl)) fun fr E => ?_
  refine ma E fun fr E => ?_
  refine seq_nil' ?_
  refine code_region ?_
  refine mv E fun fr E => ?_
  refine sw (v := .int _ (IntKind.u64.wrap v / 72057594037927936)) E (num rfl (fd (by decide) rfl)) fun fr E => ?_
  refine sw (v := .int _ (IntKind.u8.wrap (IntKind.u64.wrap v / 72057594037927936))) E (num rfl (rfl)) fun fr E => ?_
  refine mv E fun fr E => ?_
  refine sw (v := .int _ (IntKind.u64.wrap v / 281474976710656)) E (num rfl (fd (by decide) rfl)) fun fr E => ?_
  refine sw (v := .int _ (IntKind.u8.wrap (IntKind.u64.wrap v / 281474976710656))) E (num rfl (rfl)) fun fr E => ?_
  refine mv E fun fr E => ?_
  refine sw (v := .int _ (IntKind.u64.wrap v / 1099511627776)) E (num rfl (fd (by decide) rfl)) fun fr E => ?_
  refine sw (v := .int _ (IntKind.u8.wrap (IntKind.u64.wrap v / 1099511627776))) E (num rfl (rfl)) fun fr E => ?_
  refine mv E fun fr E => ?_
  refine sw (v := .int _ (IntKind.u64.wrap v / 4294967296)) E (num rfl (fd (by decide) rfl)) fun fr E => ?_
  refine sw (v := .int _ (IntKind.u8.wrap (IntKind.u64.wrap v / 4294967296))) E (num rfl (rfl)) fun fr E => ?_
  refine mv E fun fr E => ?_
  refine sw (v := .int _ (IntKind.u64.wrap v / 16777216)) E (num rfl (fd (by decide) rfl)) fun fr E => ?_
  refine sw (v := .int _ (IntKind.u8.wrap (IntKind.u64.wrap v / 16777216))) E (num rfl (rfl)) fun fr E => ?_
  refine mv E fun fr E => ?_
  refine sw (v := .int _ (IntKind.u64.wrap v / 65536)) E (num rfl (fd (by decide) rfl)) fun fr E => ?_
  refine sw (v := .int _ (IntKind.u8.wrap (IntKind.u64.wrap v / 65536))) E (num rfl (rfl)) fun fr E => ?_
  refine mv E fun fr E => ?_
  refine sw (v := .int _ (IntKind.u64.wrap v / 256)) E (num rfl (fd (by decide) rfl)) fun fr E => ?_
  refine sw (v := .int _ (IntKind.u8.wrap (IntKind.u64.wrap v / 256))) E (num rfl (rfl)) fun fr E => ?_
  refine mv E fun fr E => ?_
  refine sw (v := .int _ (IntKind.u8.wrap (IntKind.u64.wrap v))) E (num rfl (rfl)) fun fr E => ?_
  refine srow (sz := 1) (xs := bc (be8 v)) E M rfl rfl rfl rfl rfl (run_buildSliceA (us := [_, _, _, _, _, _, _, _]) (vs := [_, _, _, _, _, _, _, _]) rfl rfl rfl T.slice54 T.size5 T.zl5 rfl rfl rfl rfl rfl) (rfl) (Nat.le_refl _) (by decide) (eight_cells v) fun g0 fr w M E => ?_
  refine ma E fun fr E => ?_
  refine seq_nil' ?_
  refine wp_ret ?_
  refine ret1 E rfl rfl ?_
  exact ⟨_, rfl, M.fin (sub1 (i := 0) rfl) trivial⟩

set_option maxRecDepth 100000 in
theorem behind_x {b m : Value} {l k : List UInt8} {w0 : World} (hb : Bytes w0 b l) (hm : Bytes w0 m k) (hz : l.length + k.length ≤ 35184372088832) : Does Try.prog 66 [b, m] w0 [] (fun s : Value => s) (fun s => [.bytes 5 s (l ++ k)]) (fun _ => True) := by
  refine enter (n := 15) Try.func66 rfl rfl rfl ?_
  intro fr E
  have M : Mem w0 (feet []) [] (fun w' => Bytes w' b l ∧ Bytes w' m k) w0 := Mem.begin (Has.nil w0) (fun w' h => ⟨hb.held0 h, hm.held0 h⟩)
  refine code_region ?_
  refine sw E (run_assignC rfl) fun fr E => ?_
  refine seq_nil' ?_
  refine code_region ?_
  refine mv E fun fr E => ?_
  refine sw (v := .int .i64 _) E (run_lenR rfl rfl rfl rfl T.slice54 M.fact.1) fun fr E => ?_
  refine mv E fun fr E => ?_
  refine sw (v := .int .i64 _) E (run_lenR rfl rfl rfl rfl T.slice54 M.fact.2) fun fr E => ?_
  refine sw (v := .int _ (((l.length + k.length : Nat) : Int))) E (num rfl ((i64_id (by omega) (by omega)).trans (by omega))) fun fr E => ?_
  refine smakeB (k := 0) (c := l.length + k.length) E M rfl rfl rfl rfl rfl rfl rfl rfl (rfl) (rfl) T.slice54 T.zt5 T.zc5 T.by5 (Nat.zero_le _) (by omega) fun g0 fr w M E => ?_
  refine mv E fun fr E => ?_
  refine sappB (i := 0) E M rfl rfl rfl rfl rfl rfl rfl rfl rfl rfl rfl T.slice54 T.slice54 T.zt5 T.by5 M.fact.1 (by simp; omega) fun g0 fr w M E => ?_
  refine mv E fun fr E => ?_
  refine sappB (i := 0) E M rfl rfl rfl rfl rfl rfl rfl rfl rfl rfl rfl T.slice54 T.slice54 T.zt5 T.by5 M.fact.2 (by simp; omega) fun g0 fr w M E => ?_
  refine ma E fun fr E => ?_
  refine seq_nil' ?_
  refine wp_ret ?_
  refine ret1 E rfl rfl ?_
  exact ⟨_, rfl, M.fin (sub1 (i := 0) rfl) trivial⟩

set_option maxRecDepth 100000 in
theorem Int_x {b : Value} {l : List UInt8} {w0 : World} (v : Int) (hb : Bytes w0 b l) (hz : l.length + 8 ≤ 35184372088832) : Does Try.prog 48 [b, .int .i64 v] w0 [] (fun s : Value => s) (fun s => [.bytes 5 s (l ++ be8 v)]) (fun _ => True) := by
  refine enter (n := 9) Try.func48 rfl rfl rfl ?_
  intro fr E
  have M : Mem w0 (feet []) [] (fun w' => Bytes w' b l) w0 := Mem.begin (Has.nil w0) (fun w' h => hb.held0 h)
  refine code_region ?_
  refine sw E (run_assignC rfl) fun fr E => ?_
  refine seq_nil' ?_
  refine code_region ?_
  refine mv E fun fr E => ?_
  refine mv E fun fr E => ?_
  refine scall E M rfl rfl rfl rfl rfl (run_call rfl rfl T.fn67) (eight_x v _) rfl ?_
  rintro s fr w - M E
  refine scall E M rfl rfl rfl rfl rfl (run_call rfl rfl T.fn66) (behind_x M.fact (M.bytes 0 rfl) hz) rfl ?_
  rintro r fr w - M E
  refine ma E fun fr E => ?_
  refine seq_nil' ?_
  refine wp_ret ?_
  refine ret1 E rfl rfl ?_
  exact ⟨_, rfl, M.fin (sub1 (i := 0) rfl) trivial⟩

set_option maxRecDepth 100000 in
theorem Sum_x {b : Value} {l s : List UInt8} {w0 : World} (hb : Bytes w0 b l) (hs : s.length = 32) (hz : l.length + 32 ≤ 35184372088832) : Does Try.prog 49 [b, .agg (bc s).toArray] w0 [] (fun s : Value => s) (fun r => [.bytes 5 r (l ++ s)]) (fun _ => True) := by
  refine enter (n := 8) Try.func49 rfl rfl rfl ?_
  intro fr E
  have M : Mem w0 (feet []) [] (fun w' => Bytes w' b l) w0 := Mem.begin (Has.nil w0) (fun w' h => hb.held0 h)
  refine code_region ?_
  refine snew (ob := .cells ((bc s).toArray) 28) (fun g => .pointer (some ⟨g, 0, none⟩)) E M rfl rfl rfl rfl rfl (run_boxN (cs := ((bc s).toArray)) rfl rfl) fun g0 fr w M E => ?_
  refine sw E (run_assignC rfl) fun fr E => ?_
  refine seq_nil' ?_
  refine code_region ?_
  refine mv E fun fr E => ?_
  refine sw E (run_sliceA (g := _) (cs := #[]) (T := 0) (fr := (0, 0)) rfl rfl T.arr28 T.size5) fun fr E => ?_
  refine scall E M rfl rfl rfl rfl rfl (run_call rfl rfl T.fn66) (behind_x M.fact (k := s) (by have := M; exact hs ▸ reads_blk (M.row (i := 0) rfl) (by simp [hs]) (by rw [hs]; decide)) (by omega)) rfl ?_
  rintro r fr w - M E
  refine ma E fun fr E => ?_
  refine seq_nil' ?_
  refine wp_ret ?_
  refine ret1 E rfl rfl ?_
  exact ⟨_, rfl, M.fin (sub1 (i := 0) rfl) trivial⟩

end Go.Proofs.Ytnebjbgcibjohaa.K
end
section
namespace Go.Proofs.Ytnebjbgcibjohaa.K
open Go.RowKit Go.Rill Go.Proofs
set_option linter.unusedVariables false
set_option linter.unusedSimpArgs false
/-- What a reader tells, and what is left then. -/
def rNext (n : Nat) (s : List UInt8 × Bool) : List UInt8 × Bool := if s.2 = true ∨ s.1.length < n then (s.1, true) else (s.1.drop n, false)
def rInt (s : List UInt8 × Bool) : Int := if s.2 = true ∨ s.1.length < 8 then 0 else num64 (s.1.take 8)
def rSum (s : List UInt8 × Bool) : List UInt8 := if s.2 = true ∨ s.1.length < 32 then List.replicate 32 0 else s.1.take 32
def rRef (s : List UInt8 × Bool) : Int × List UInt8 := if s.2 = true ∨ s.1.length < 40 then (0, List.replicate 32 0) else (num64 ((s.1.take 40).take 8), (s.1.take 40).drop 8)
def rEnd (s : List UInt8 × Bool) : Int := if s.2 = true then 4 else if 0 < s.1.length then 3 else 0
theorem rSum_len (s : List UInt8 × Bool) : (rSum s).length = 32 := by unfold rSum; split <;> simp <;> omega
theorem rRef_len (s : List UInt8 × Bool) : (rRef s).2.length = 32 := by unfold rRef; split <;> simp <;> omega
/-- A reader: what is left, and whether it is bad. -/
abbrev rdr (g : Nat) (rv : Value) (l : List UInt8) (bad : Bool) : List Ent := [.blk g (.cells #[rv, .bool bad] 136 (0, 0)), .sub rv l]
set_option maxRecDepth 100000 in
theorem number_x {b : Value} {l : List UInt8} {w0 : World} (hb : Bytes w0 b l) (hz : l.length ≤ 35184372088832) : Gives Try.prog 69 [b] w0 (.int .i64 (num64 l)) := by
  refine enter (n := 20) Try.func69 rfl rfl rfl ?_
  intro fr E
  have M : Mem w0 (feet []) [] (fun w' => Bytes w' b l) w0 := Mem.begin (Has.nil w0) (fun w' h => hb.held0 h)
  refine code_region ?_
  refine sw E (run_assignC rfl) fun fr E => ?_
  refine seq_nil' ?_
  refine code_region ?_
  refine sw E (run_assignC rfl) fun fr E => ?_
  refine seq_nil' ?_
  refine wp_seq ?_
  refine code_region ?_
  refine mv E fun fr E => ?_
  refine sw (v := .int .i64 _) E (run_lenR rfl rfl rfl rfl T.slice54 M.fact) fun fr E => ?_
  refine sw E (run_moveC rfl) fun fr E => ?_
  refine seq_nil' ?_
  refine wp_block ?_
  refine loop_dec (fun d fr w => ∃ i : Nat, d = l.length - i ∧ i ≤ l.length ∧ Env [(8, .int .i64 i), (7, .int .i64 l.length), (6, b), (3, .int .u64 (fold64 (l.take i)))] 20 fr ∧ Mem w0 (feet []) [] (fun w' => Bytes w' b l) w) (l.length) ?_ ?_
  · refine ⟨0, rfl, Nat.zero_le _, ((((Env.nil E).add E (t := 3) rfl).add E (t := 6) rfl).add E (t := 7) rfl).add E (t := 8) rfl, M⟩
  · clear E M
    rintro d fr w ⟨i, rfl, hle, E, M⟩
    by_cases hi : i < l.length
    · refine code_region ?_
      refine sw (v := .bool true) E (tst rfl (by simp <;> omega)) fun fr E => ?_
      refine seq_nil' ?_
      refine wp_seq ?_
      refine cond_true E rfl (rfl) ?_
      refine wp_skip ?_
      refine then_normal ?_
      refine wp_seq ?_
      refine wp_block ?_
      refine code_region ?_
      refine sw E (run_indexR (i := i) rfl M.fact rfl rfl (rfl) (hi) T.slice54 T.size5) fun fr E => ?_
      refine sw E (run_loadR rfl M.fact rfl T.one5 (by rw [Nat.mul_one]; exact bc_get hi)) fun fr E => ?_
      refine ma E fun fr E => ?_
      refine seq_nil' ?_
      refine code_last ?_
      refine mv E fun fr E => ?_
      refine sw (v := .int .u64 _) E (rfl) fun fr E => ?_
      refine mv E fun fr E => ?_
      refine sw (v := .int .u64 _) E (rfl) fun fr E => ?_
      refine sw (v := .int _ (fold64 (l.take (i + 1)))) E (num rfl ((or_step _ _ (l[i]).toNat_lt).trans (congrArg _ (fold64_take hi).symm))) fun fr E => ?_
      refine ma E fun fr E => ?_
      refine seq_nil ?_
      refine block_normal ?_
      refine then_normal ?_
      refine code_last ?_
      refine sw (v := .int _ (((i + 1 : Nat) : Int))) E (num rfl ((i64_id (by omega) (by omega)).trans (by omega))) fun fr E => ?_
      refine mv E fun fr E => ?_
      refine seq_nil ?_
      refine then_any ?_
      refine ⟨l.length - (i + 1), by omega, i + 1, rfl, by omega, ((((Env.nil E).add E (t := 3) rfl).add E (t := 6) rfl).add E (t := 7) rfl).add E (t := 8) rfl, M⟩
    · obtain rfl : i = l.length := by omega
      rw [List.take_length] at E
      refine code_region ?_
      refine sw (v := .bool false) E (tst rfl (by simp <;> omega)) fun fr E => ?_
      refine seq_nil' ?_
      refine wp_seq ?_
      refine cond_false E rfl (rfl) ?_
      refine wp_exit ?_
      refine then_exit ?_
      refine then_exit ?_
      refine block_exit ?_
      refine then_normal ?_
      refine code_region ?_
      refine mv E fun fr E => ?_
      refine sw (v := .int _ (num64 l)) E (num rfl (rfl)) fun fr E => ?_
      refine ma E fun fr E => ?_
      refine seq_nil' ?_
      refine wp_ret ?_
      refine ret1 E rfl rfl ?_
      exact given M

set_option maxRecDepth 100000 in
theorem digest_x {b : Value} {l : List UInt8} {w0 : World} (hb : Bytes w0 b l) (hl : l.length = 32) : Gives Try.prog 71 [b] w0 (.agg (bc l).toArray) := by
  refine enter (n := 6) Try.func71 rfl rfl rfl ?_
  intro fr E
  have M : Mem w0 (feet []) [] (fun w' => Bytes w' b l) w0 := Mem.begin (Has.nil w0) (fun w' h => hb.held0 h)
  refine code_region ?_
  refine snew (ob := .cells _ 28) (fun g => .pointer (some ⟨g, 0, none⟩)) E M rfl rfl rfl rfl rfl (run_allocN rfl T.zero28) fun g0 fr w M E => ?_
  refine seq_nil' ?_
  refine code_region ?_
  refine mv E fun fr E => ?_
  refine sw E (run_toArrayR rfl M.fact rfl T.arr28 (by omega) (by decide)) fun fr E => ?_
  refine sw (v := .agg (bc l).toArray) E (run_loadRN rfl M.fact rfl T.agg28 (by omega) (by omega) (by rw [List.drop_zero]; exact take_all (by simp [hl]))) fun fr E => ?_
  refine sset (i := 0) (cs' := (bc l).toArray) E M rfl rfl rfl rfl rfl (run_storeAll (vs := (bc l).toArray) rfl rfl rfl T.size28 (by simp [hl]) (M.row (i := 0) rfl) rfl (by simpa using bc_one l)) rfl fun fr w M E => ?_
  refine seq_nil' ?_
  refine wp_ret ?_
  refine retC E rfl rfl T.agg28 (M.row (i := 0) rfl) (by simp [hl]) ?_
  exact given M


set_option maxRecDepth 100000 in
theorem take_number_bad {g : Nat} {rv : Value} {l : List UInt8} {bad : Bool} {w0 : World} (H : Has w0 (rdr g rv l bad)) (hz : l.length ≤ 35184372088832) (hbad : bad = true) : Does Try.prog 68 [.pointer (some ⟨g, 0, none⟩), .int .i64 8, .func (.func 69) #[] #[]] w0 (rdr g rv l bad) (fun _ : Value => .int .i64 0) (fun x => rdr g x l true) (fun _ => True) := by
  refine enter (n := 44) Try.func68 rfl rfl rfl ?_
  intro fr E
  obtain ⟨rb, rc, rfl⟩ := Reads.slice (H.ents _ (List.mem_cons_of_mem _ (List.mem_singleton.2 rfl)) : Reads 1 w0 rv _ _)
  have M : Mem w0 (feet (rdr g _ l bad)) (rdr g _ l bad) (fun _ => True) w0 := Mem.begin H (fun _ _ => trivial)
  subst hbad
  refine code_region ?_
  refine sw E (run_assignC rfl) fun fr E => ?_
  refine seq_nil' ?_
  refine wp_seq ?_
  refine code_region ?_
  refine mv E fun fr E => ?_
  refine sw E (run_nilCheck rfl rfl) fun fr E => ?_
  refine sw (v := .pointer (some ⟨_, 1, none⟩)) E (run_fieldAddr rfl rfl T.fld136_1) fun fr E => ?_
  refine sw (v := .bool _) E (run_loadB rfl rfl T.one4 (M.row (i := 0) rfl) rfl) fun fr E => ?_
  refine mv E fun fr E => ?_
  refine sno E rfl rfl rfl rfl fun fr E => ?_
  refine sno E rfl rfl rfl rfl fun fr E => ?_
  refine sno E rfl rfl rfl rfl fun fr E => ?_
  refine sno E rfl rfl rfl rfl fun fr E => ?_
  refine sno E rfl rfl rfl rfl fun fr E => ?_
  refine sno E rfl rfl rfl rfl fun fr E => ?_
  refine sno E rfl rfl rfl rfl fun fr E => ?_
  refine sw (v := .bool true) E (tst rfl (rfl)) fun fr E => ?_
  refine seq_nil' ?_
  refine cond_true E rfl (rfl) ?_
  refine code_region ?_
  refine mv E fun fr E => ?_
  refine sw E (run_nilCheck rfl rfl) fun fr E => ?_
  refine sw (v := .pointer (some ⟨_, 1, none⟩)) E (run_fieldAddr rfl rfl T.fld136_1) fun fr E => ?_
  refine sset (i := 0) (cs' := #[_, _]) E M rfl rfl rfl rfl rfl (run_store1' (v := _) rfl rfl rfl T.size4 (M.row (i := 0) rfl) (rfl) (rfl) (rfl)) rfl fun fr w M E => ?_
  refine seq_nil' ?_
  refine code_region ?_
  refine sw E (run_assignC rfl) fun fr E => ?_
  refine seq_nil' ?_
  refine code_region ?_
  refine mv E fun fr E => ?_
  refine ma E fun fr E => ?_
  refine seq_nil' ?_
  refine wp_ret ?_
  refine then_ret ?_
  refine ret1 E rfl rfl ?_
  exact ⟨_, rfl, M.fin (List.Sublist.refl _) trivial⟩

set_option maxRecDepth 100000 in
theorem take_number_short {g : Nat} {rv : Value} {l : List UInt8} {bad : Bool} {w0 : World} (H : Has w0 (rdr g rv l bad)) (hz : l.length ≤ 35184372088832) (hbad : bad = false) (hn : l.length < 8) : Does Try.prog 68 [.pointer (some ⟨g, 0, none⟩), .int .i64 8, .func (.func 69) #[] #[]] w0 (rdr g rv l bad) (fun _ : Value => .int .i64 0) (fun x => rdr g x l true) (fun _ => True) := by
  refine enter (n := 44) Try.func68 rfl rfl rfl ?_
  intro fr E
  obtain ⟨rb, rc, rfl⟩ := Reads.slice (H.ents _ (List.mem_cons_of_mem _ (List.mem_singleton.2 rfl)) : Reads 1 w0 rv _ _)
  have M : Mem w0 (feet (rdr g _ l bad)) (rdr g _ l bad) (fun _ => True) w0 := Mem.begin H (fun _ _ => trivial)
  subst hbad
  refine code_region ?_
  refine sw E (run_assignC rfl) fun fr E => ?_
  refine seq_nil' ?_
  refine wp_seq ?_
  refine code_region ?_
  refine mv E fun fr E => ?_
  refine sw E (run_nilCheck rfl rfl) fun fr E => ?_
  refine sw (v := .pointer (some ⟨_, 1, none⟩)) E (run_fieldAddr rfl rfl T.fld136_1) fun fr E => ?_
  refine sw (v := .bool _) E (run_loadB rfl rfl T.one4 (M.row (i := 0) rfl) rfl) fun fr E => ?_
  refine mv E fun fr E => ?_
  refine mv E fun fr E => ?_
  refine sw E (run_nilCheck rfl rfl) fun fr E => ?_
  refine sw (v := .pointer (some ⟨_, 0, none⟩)) E (run_fieldAddr rfl rfl T.fld136_0) fun fr E => ?_
  refine sw E (run_loadB rfl rfl T.one54 (M.row (i := 0) rfl) rfl) fun fr E => ?_
  refine sw (v := .int .i64 _) E (run_lenR rfl rfl rfl rfl T.slice54 (M.subs 1 rfl)) fun fr E => ?_
  refine mv E fun fr E => ?_
  refine sw (v := .bool true) E (tst rfl (by simp <;> omega)) fun fr E => ?_
  refine sw (v := .bool true) E (tst rfl (rfl)) fun fr E => ?_
  refine seq_nil' ?_
  refine cond_true E rfl (rfl) ?_
  refine code_region ?_
  refine mv E fun fr E => ?_
  refine sw E (run_nilCheck rfl rfl) fun fr E => ?_
  refine sw (v := .pointer (some ⟨_, 1, none⟩)) E (run_fieldAddr rfl rfl T.fld136_1) fun fr E => ?_
  refine sset (i := 0) (cs' := #[_, _]) E M rfl rfl rfl rfl rfl (run_store1' (v := _) rfl rfl rfl T.size4 (M.row (i := 0) rfl) (rfl) (rfl) (rfl)) rfl fun fr w M E => ?_
  refine seq_nil' ?_
  refine code_region ?_
  refine sw E (run_assignC rfl) fun fr E => ?_
  refine seq_nil' ?_
  refine code_region ?_
  refine mv E fun fr E => ?_
  refine ma E fun fr E => ?_
  refine seq_nil' ?_
  refine wp_ret ?_
  refine then_ret ?_
  refine ret1 E rfl rfl ?_
  exact ⟨_, rfl, M.fin (List.Sublist.refl _) trivial⟩

set_option maxRecDepth 100000 in
theorem take_number_ok {g : Nat} {rv : Value} {l : List UInt8} {bad : Bool} {w0 : World} (H : Has w0 (rdr g rv l bad)) (hz : l.length ≤ 35184372088832) (hbad : bad = false) (hn : 8 ≤ l.length) : Does Try.prog 68 [.pointer (some ⟨g, 0, none⟩), .int .i64 8, .func (.func 69) #[] #[]] w0 (rdr g rv l bad) (fun _ : Value => Value.int .i64 (num64 (l.take 8))) (fun x => rdr g x (l.drop 8) false) (fun _ => True) := by
  refine enter (n := 44) Try.func68 rfl rfl rfl ?_
  intro fr E
  obtain ⟨rb, rc, rfl⟩ := Reads.slice (H.ents _ (List.mem_cons_of_mem _ (List.mem_singleton.2 rfl)) : Reads 1 w0 rv _ _)
  have M : Mem w0 (feet (rdr g _ l bad)) (rdr g _ l bad) (fun _ => True) w0 := Mem.begin H (fun _ _ => trivial)
  subst hbad
  refine code_region ?_
  refine sw E (run_assignC rfl) fun fr E => ?_
  refine seq_nil' ?_
  refine wp_seq ?_
  refine code_region ?_
  refine mv E fun fr E => ?_
  refine sw E (run_nilCheck rfl rfl) fun fr E => ?_
  refine sw (v := .pointer (some ⟨_, 1, none⟩)) E (run_fieldAddr rfl rfl T.fld136_1) fun fr E => ?_
  refine sw (v := .bool _) E (run_loadB rfl rfl T.one4 (M.row (i := 0) rfl) rfl) fun fr E => ?_
  refine mv E fun fr E => ?_
  refine mv E fun fr E => ?_
  refine sw E (run_nilCheck rfl rfl) fun fr E => ?_
  refine sw (v := .pointer (some ⟨_, 0, none⟩)) E (run_fieldAddr rfl rfl T.fld136_0) fun fr E => ?_
  refine sw E (run_loadB rfl rfl T.one54 (M.row (i := 0) rfl) rfl) fun fr E => ?_
  refine sw (v := .int .i64 _) E (run_lenR rfl rfl rfl rfl T.slice54 (M.subs 1 rfl)) fun fr E => ?_
  refine mv E fun fr E => ?_
  refine sw (v := .bool false) E (tst rfl (by simp <;> omega)) fun fr E => ?_
  refine sw (v := .bool false) E (tst rfl (rfl)) fun fr E => ?_
  refine seq_nil' ?_
  refine cond_false E rfl (rfl) ?_
  refine wp_skip ?_
  refine then_normal ?_
  refine code_region ?_
  refine mv E fun fr E => ?_
  refine sw E (run_nilCheck rfl rfl) fun fr E => ?_
  refine sw (v := .pointer (some ⟨_, 0, none⟩)) E (run_fieldAddr rfl rfl T.fld136_0) fun fr E => ?_
  refine sw E (run_loadB rfl rfl T.one54 (M.row (i := 0) rfl) rfl) fun fr E => ?_
  refine mv E fun fr E => ?_
  refine sw E (run_sliceR (lo := 0) (hi := 8) rfl (M.subs 1 rfl) rfl T.slice54 T.size5 (rfl) (⟨_, _, rfl, rfl⟩) (by omega) (hn)) fun fr E => ?_
  refine ma E fun fr E => ?_
  refine seq_nil' ?_
  refine code_region ?_
  refine mv E fun fr E => ?_
  refine mv E fun fr E => ?_
  refine sw E (run_nilCheck rfl rfl) fun fr E => ?_
  refine sw (v := .pointer (some ⟨_, 0, none⟩)) E (run_fieldAddr rfl rfl T.fld136_0) fun fr E => ?_
  refine sw E (run_loadB rfl rfl T.one54 (M.row (i := 0) rfl) rfl) fun fr E => ?_
  refine mv E fun fr E => ?_
  refine sw E (run_sliceR (lo := 8) (hi := l.length) rfl (M.subs 1 rfl) rfl T.slice54 T.size5 (⟨_, _, rfl, rfl⟩) (rfl) (hn) (Nat.le_refl _)) fun fr E => ?_
  refine sw E (run_nilCheck rfl rfl) fun fr E => ?_
  refine sw (v := .pointer (some ⟨_, 0, none⟩)) E (run_fieldAddr rfl rfl T.fld136_0) fun fr E => ?_
  refine sset (i := 0) (cs' := #[_, _]) E M rfl rfl rfl rfl rfl (run_store1' (v := _) rfl rfl rfl T.size54 (M.row (i := 0) rfl) (rfl) (rfl) (rfl)) rfl fun fr w M E => ?_
  refine seq_nil' ?_
  refine code_region ?_
  refine mv E fun fr E => ?_
  refine mv E fun fr E => ?_
  refine sgive E M rfl rfl rfl rfl rfl (run_callV rfl rfl T.fn69) (number_x (l := l.take 8) (Bytes.pre (M.subs 1 rfl) hn) (by simp <;> omega)) fun fr w M E => ?_
  refine ma E fun fr E => ?_
  refine seq_nil' ?_
  refine wp_ret ?_
  refine ret1 E rfl rfl ?_
  have M := M.rest 1 8 rfl hn
  exact ⟨_, rfl, M.fin (List.Sublist.refl _) trivial⟩

set_option maxRecDepth 100000 in
theorem take_digest_bad {g : Nat} {rv : Value} {l : List UInt8} {bad : Bool} {w0 : World} (H : Has w0 (rdr g rv l bad)) (hz : l.length ≤ 35184372088832) (hbad : bad = true) : Does Try.prog 70 [.pointer (some ⟨g, 0, none⟩), .int .i64 32, .func (.func 71) #[] #[]] w0 (rdr g rv l bad) (fun _ : Value => .agg (bc (List.replicate 32 0)).toArray) (fun x => rdr g x l true) (fun _ => True) := by
  refine enter (n := 44) Try.func70 rfl rfl rfl ?_
  intro fr E
  obtain ⟨rb, rc, rfl⟩ := Reads.slice (H.ents _ (List.mem_cons_of_mem _ (List.mem_singleton.2 rfl)) : Reads 1 w0 rv _ _)
  have M : Mem w0 (feet (rdr g _ l bad)) (rdr g _ l bad) (fun _ => True) w0 := Mem.begin H (fun _ _ => trivial)
  subst hbad
  refine code_region ?_
  refine snew (ob := .cells _ 28) (fun g => .pointer (some ⟨g, 0, none⟩)) E M rfl rfl rfl rfl rfl (run_allocN rfl T.zero28) fun g0 fr w M E => ?_
  refine seq_nil' ?_
  refine wp_seq ?_
  refine code_region ?_
  refine mv E fun fr E => ?_
  refine sw E (run_nilCheck rfl rfl) fun fr E => ?_
  refine sw (v := .pointer (some ⟨_, 1, none⟩)) E (run_fieldAddr rfl rfl T.fld136_1) fun fr E => ?_
  refine sw (v := .bool _) E (run_loadB rfl rfl T.one4 (M.row (i := 1) rfl) rfl) fun fr E => ?_
  refine mv E fun fr E => ?_
  refine sno E rfl rfl rfl rfl fun fr E => ?_
  refine sno E rfl rfl rfl rfl fun fr E => ?_
  refine sno E rfl rfl rfl rfl fun fr E => ?_
  refine sno E rfl rfl rfl rfl fun fr E => ?_
  refine sno E rfl rfl rfl rfl fun fr E => ?_
  refine sno E rfl rfl rfl rfl fun fr E => ?_
  refine sno E rfl rfl rfl rfl fun fr E => ?_
  refine sw (v := .bool true) E (tst rfl (rfl)) fun fr E => ?_
  refine seq_nil' ?_
  refine cond_true E rfl (rfl) ?_
  refine code_region ?_
  refine mv E fun fr E => ?_
  refine sw E (run_nilCheck rfl rfl) fun fr E => ?_
  refine sw (v := .pointer (some ⟨_, 1, none⟩)) E (run_fieldAddr rfl rfl T.fld136_1) fun fr E => ?_
  refine sset (i := 1) (cs' := #[_, _]) E M rfl rfl rfl rfl rfl (run_store1' (v := _) rfl rfl rfl T.size4 (M.row (i := 1) rfl) (rfl) (rfl) (rfl)) rfl fun fr w M E => ?_
  refine seq_nil' ?_
  refine code_region ?_
  refine snew (ob := .cells _ 28) (fun g => .pointer (some ⟨g, 0, none⟩)) E M rfl rfl rfl rfl rfl (run_allocN rfl T.zero28) fun g1 fr w M E => ?_
  refine seq_nil' ?_
  refine code_region ?_
  refine sw (v := .agg _) E (run_loadAll rfl rfl T.agg28 (M.row (i := 0) rfl) rfl) fun fr E => ?_
  refine sset (i := 1) (cs' := _) E M rfl rfl rfl rfl rfl (run_storeN' (vs := _) rfl rfl rfl T.size28 rfl (M.row (i := 1) rfl) rfl rfl rfl) rfl fun fr w M E => ?_
  refine seq_nil' ?_
  refine wp_ret ?_
  refine then_ret ?_
  refine retC E rfl rfl T.agg28 (M.row (i := 1) rfl) (rfl) ?_
  exact ⟨_, rfl, M.fin (.cons _ (.cons _ (.refl _))) trivial⟩

set_option maxRecDepth 100000 in
theorem take_digest_short {g : Nat} {rv : Value} {l : List UInt8} {bad : Bool} {w0 : World} (H : Has w0 (rdr g rv l bad)) (hz : l.length ≤ 35184372088832) (hbad : bad = false) (hn : l.length < 32) : Does Try.prog 70 [.pointer (some ⟨g, 0, none⟩), .int .i64 32, .func (.func 71) #[] #[]] w0 (rdr g rv l bad) (fun _ : Value => .agg (bc (List.replicate 32 0)).toArray) (fun x => rdr g x l true) (fun _ => True) := by
  refine enter (n := 44) Try.func70 rfl rfl rfl ?_
  intro fr E
  obtain ⟨rb, rc, rfl⟩ := Reads.slice (H.ents _ (List.mem_cons_of_mem _ (List.mem_singleton.2 rfl)) : Reads 1 w0 rv _ _)
  have M : Mem w0 (feet (rdr g _ l bad)) (rdr g _ l bad) (fun _ => True) w0 := Mem.begin H (fun _ _ => trivial)
  subst hbad
  refine code_region ?_
  refine snew (ob := .cells _ 28) (fun g => .pointer (some ⟨g, 0, none⟩)) E M rfl rfl rfl rfl rfl (run_allocN rfl T.zero28) fun g0 fr w M E => ?_
  refine seq_nil' ?_
  refine wp_seq ?_
  refine code_region ?_
  refine mv E fun fr E => ?_
  refine sw E (run_nilCheck rfl rfl) fun fr E => ?_
  refine sw (v := .pointer (some ⟨_, 1, none⟩)) E (run_fieldAddr rfl rfl T.fld136_1) fun fr E => ?_
  refine sw (v := .bool _) E (run_loadB rfl rfl T.one4 (M.row (i := 1) rfl) rfl) fun fr E => ?_
  refine mv E fun fr E => ?_
  refine mv E fun fr E => ?_
  refine sw E (run_nilCheck rfl rfl) fun fr E => ?_
  refine sw (v := .pointer (some ⟨_, 0, none⟩)) E (run_fieldAddr rfl rfl T.fld136_0) fun fr E => ?_
  refine sw E (run_loadB rfl rfl T.one54 (M.row (i := 1) rfl) rfl) fun fr E => ?_
  refine sw (v := .int .i64 _) E (run_lenR rfl rfl rfl rfl T.slice54 (M.subs 2 rfl)) fun fr E => ?_
  refine mv E fun fr E => ?_
  refine sw (v := .bool true) E (tst rfl (by simp <;> omega)) fun fr E => ?_
  refine sw (v := .bool true) E (tst rfl (rfl)) fun fr E => ?_
  refine seq_nil' ?_
  refine cond_true E rfl (rfl) ?_
  refine code_region ?_
  refine mv E fun fr E => ?_
  refine sw E (run_nilCheck rfl rfl) fun fr E => ?_
  refine sw (v := .pointer (some ⟨_, 1, none⟩)) E (run_fieldAddr rfl rfl T.fld136_1) fun fr E => ?_
  refine sset (i := 1) (cs' := #[_, _]) E M rfl rfl rfl rfl rfl (run_store1' (v := _) rfl rfl rfl T.size4 (M.row (i := 1) rfl) (rfl) (rfl) (rfl)) rfl fun fr w M E => ?_
  refine seq_nil' ?_
  refine code_region ?_
  refine snew (ob := .cells _ 28) (fun g => .pointer (some ⟨g, 0, none⟩)) E M rfl rfl rfl rfl rfl (run_allocN rfl T.zero28) fun g1 fr w M E => ?_
  refine seq_nil' ?_
  refine code_region ?_
  refine sw (v := .agg _) E (run_loadAll rfl rfl T.agg28 (M.row (i := 0) rfl) rfl) fun fr E => ?_
  refine sset (i := 1) (cs' := _) E M rfl rfl rfl rfl rfl (run_storeN' (vs := _) rfl rfl rfl T.size28 rfl (M.row (i := 1) rfl) rfl rfl rfl) rfl fun fr w M E => ?_
  refine seq_nil' ?_
  refine wp_ret ?_
  refine then_ret ?_
  refine retC E rfl rfl T.agg28 (M.row (i := 1) rfl) (rfl) ?_
  exact ⟨_, rfl, M.fin (.cons _ (.cons _ (.refl _))) trivial⟩

set_option maxRecDepth 100000 in
theorem take_digest_ok {g : Nat} {rv : Value} {l : List UInt8} {bad : Bool} {w0 : World} (H : Has w0 (rdr g rv l bad)) (hz : l.length ≤ 35184372088832) (hbad : bad = false) (hn : 32 ≤ l.length) : Does Try.prog 70 [.pointer (some ⟨g, 0, none⟩), .int .i64 32, .func (.func 71) #[] #[]] w0 (rdr g rv l bad) (fun _ : Value => Value.agg (bc (l.take 32)).toArray) (fun x => rdr g x (l.drop 32) false) (fun _ => True) := by
  refine enter (n := 44) Try.func70 rfl rfl rfl ?_
  intro fr E
  obtain ⟨rb, rc, rfl⟩ := Reads.slice (H.ents _ (List.mem_cons_of_mem _ (List.mem_singleton.2 rfl)) : Reads 1 w0 rv _ _)
  have M : Mem w0 (feet (rdr g _ l bad)) (rdr g _ l bad) (fun _ => True) w0 := Mem.begin H (fun _ _ => trivial)
  subst hbad
  refine code_region ?_
  refine snew (ob := .cells _ 28) (fun g => .pointer (some ⟨g, 0, none⟩)) E M rfl rfl rfl rfl rfl (run_allocN rfl T.zero28) fun g0 fr w M E => ?_
  refine seq_nil' ?_
  refine wp_seq ?_
  refine code_region ?_
  refine mv E fun fr E => ?_
  refine sw E (run_nilCheck rfl rfl) fun fr E => ?_
  refine sw (v := .pointer (some ⟨_, 1, none⟩)) E (run_fieldAddr rfl rfl T.fld136_1) fun fr E => ?_
  refine sw (v := .bool _) E (run_loadB rfl rfl T.one4 (M.row (i := 1) rfl) rfl) fun fr E => ?_
  refine mv E fun fr E => ?_
  refine mv E fun fr E => ?_
  refine sw E (run_nilCheck rfl rfl) fun fr E => ?_
  refine sw (v := .pointer (some ⟨_, 0, none⟩)) E (run_fieldAddr rfl rfl T.fld136_0) fun fr E => ?_
  refine sw E (run_loadB rfl rfl T.one54 (M.row (i := 1) rfl) rfl) fun fr E => ?_
  refine sw (v := .int .i64 _) E (run_lenR rfl rfl rfl rfl T.slice54 (M.subs 2 rfl)) fun fr E => ?_
  refine mv E fun fr E => ?_
  refine sw (v := .bool false) E (tst rfl (by simp <;> omega)) fun fr E => ?_
  refine sw (v := .bool false) E (tst rfl (rfl)) fun fr E => ?_
  refine seq_nil' ?_
  refine cond_false E rfl (rfl) ?_
  refine wp_skip ?_
  refine then_normal ?_
  refine code_region ?_
  refine mv E fun fr E => ?_
  refine sw E (run_nilCheck rfl rfl) fun fr E => ?_
  refine sw (v := .pointer (some ⟨_, 0, none⟩)) E (run_fieldAddr rfl rfl T.fld136_0) fun fr E => ?_
  refine sw E (run_loadB rfl rfl T.one54 (M.row (i := 1) rfl) rfl) fun fr E => ?_
  refine mv E fun fr E => ?_
  refine sw E (run_sliceR (lo := 0) (hi := 32) rfl (M.subs 2 rfl) rfl T.slice54 T.size5 (rfl) (⟨_, _, rfl, rfl⟩) (by omega) (hn)) fun fr E => ?_
  refine ma E fun fr E => ?_
  refine seq_nil' ?_
  refine code_region ?_
  refine mv E fun fr E => ?_
  refine mv E fun fr E => ?_
  refine sw E (run_nilCheck rfl rfl) fun fr E => ?_
  refine sw (v := .pointer (some ⟨_, 0, none⟩)) E (run_fieldAddr rfl rfl T.fld136_0) fun fr E => ?_
  refine sw E (run_loadB rfl rfl T.one54 (M.row (i := 1) rfl) rfl) fun fr E => ?_
  refine mv E fun fr E => ?_
  refine sw E (run_sliceR (lo := 32) (hi := l.length) rfl (M.subs 2 rfl) rfl T.slice54 T.size5 (⟨_, _, rfl, rfl⟩) (rfl) (hn) (Nat.le_refl _)) fun fr E => ?_
  refine sw E (run_nilCheck rfl rfl) fun fr E => ?_
  refine sw (v := .pointer (some ⟨_, 0, none⟩)) E (run_fieldAddr rfl rfl T.fld136_0) fun fr E => ?_
  refine sset (i := 1) (cs' := #[_, _]) E M rfl rfl rfl rfl rfl (run_store1' (v := _) rfl rfl rfl T.size54 (M.row (i := 1) rfl) (rfl) (rfl) (rfl)) rfl fun fr w M E => ?_
  refine seq_nil' ?_
  refine code_region ?_
  refine mv E fun fr E => ?_
  refine mv E fun fr E => ?_
  refine sgive E M rfl rfl rfl rfl rfl (run_callV rfl rfl T.fn71) (digest_x (l := l.take 32) (Bytes.pre (M.subs 2 rfl) hn) (by simp <;> omega)) fun fr w M E => ?_
  refine sset (i := 0) (cs' := (bc (l.take 32)).toArray) E M rfl rfl rfl rfl rfl (run_storeAll (vs := (bc (l.take 32)).toArray) rfl rfl rfl T.size28 (by simp <;> omega) (M.row (i := 0) rfl) rfl (by simpa using bc_one _)) rfl fun fr w M E => ?_
  refine seq_nil' ?_
  refine wp_ret ?_
  refine retC E rfl rfl T.agg28 (M.row (i := 0) rfl) (by simp <;> omega) ?_
  have M := M.rest 2 32 rfl hn
  exact ⟨_, rfl, M.fin (.cons _ (.refl _)) trivial⟩




theorem take_number {g : Nat} {rv : Value} {l : List UInt8} {bad : Bool} {w0 : World} (H : Has w0 (rdr g rv l bad)) (hz : l.length ≤ 35184372088832) : Does Try.prog 68 [.pointer (some ⟨g, 0, none⟩), .int .i64 8, .func (.func 69) #[] #[]] w0 (rdr g rv l bad) (fun _ : Value => Value.int .i64 (rInt (l, bad))) (fun x => rdr g x (rNext 8 (l, bad)).1 (rNext 8 (l, bad)).2) (fun _ => True) := by
  cases bad with
  | true => simp only [rNext, rInt, rSum, rRef, eq_self, true_or, if_true]; exact take_number_bad H hz rfl
  | false =>
    by_cases hn : l.length < 8
    · simp only [rNext, rInt, rSum, rRef, hn, or_true, if_true]; exact take_number_short H hz rfl hn
    · have hc : ¬ (false = true ∨ l.length < 8) := by simp; omega
      simp only [rNext, rInt, rSum, rRef, hc, if_false]; exact take_number_ok H hz rfl (by omega)

theorem take_digest {g : Nat} {rv : Value} {l : List UInt8} {bad : Bool} {w0 : World} (H : Has w0 (rdr g rv l bad)) (hz : l.length ≤ 35184372088832) : Does Try.prog 70 [.pointer (some ⟨g, 0, none⟩), .int .i64 32, .func (.func 71) #[] #[]] w0 (rdr g rv l bad) (fun _ : Value => Value.agg (bc (rSum (l, bad))).toArray) (fun x => rdr g x (rNext 32 (l, bad)).1 (rNext 32 (l, bad)).2) (fun _ => True) := by
  cases bad with
  | true => simp only [rNext, rInt, rSum, rRef, eq_self, true_or, if_true]; exact take_digest_bad H hz rfl
  | false =>
    by_cases hn : l.length < 32
    · simp only [rNext, rInt, rSum, rRef, hn, or_true, if_true]; exact take_digest_short H hz rfl hn
    · have hc : ¬ (false = true ∨ l.length < 32) := by simp; omega
      simp only [rNext, rInt, rSum, rRef, hc, if_false]; exact take_digest_ok H hz rfl (by omega)

set_option maxRecDepth 100000 in
theorem Reader_Int_x {g : Nat} {rv : Value} {l : List UInt8} {bad : Bool} {w0 : World} (H : Has w0 (rdr g rv l bad)) (hz : l.length ≤ 35184372088832) : Does Try.prog 53 [.pointer (some ⟨g, 0, none⟩)] w0 (rdr g rv l bad) (fun _ : Value => Value.int .i64 (rInt (l, bad))) (fun x => rdr g x (rNext 8 (l, bad)).1 (rNext 8 (l, bad)).2) (fun _ => True) := by
  refine enter (n := 5) Try.func53 rfl rfl rfl ?_
  intro fr E
  have M : Mem w0 (feet (rdr g rv l bad)) (rdr g rv l bad) (fun _ => True) w0 := Mem.begin H (fun _ _ => trivial)
  refine code_region ?_
  refine sw E (run_assignC rfl) fun fr E => ?_
  refine seq_nil' ?_
  refine code_region ?_
  refine mv E fun fr E => ?_
  refine scallI (rdr g rv l bad) E M rfl rfl rfl rfl rfl (run_call rfl rfl T.fn68) rfl (fun H => take_number H hz) ?_
  rintro rv2 fr w - M E
  refine ma E fun fr E => ?_
  refine seq_nil' ?_
  refine wp_ret ?_
  refine ret1 E rfl rfl ?_
  exact ⟨_, rfl, M.fin (List.Sublist.refl _) trivial⟩

set_option maxRecDepth 100000 in
theorem Reader_Sum_x {g : Nat} {rv : Value} {l : List UInt8} {bad : Bool} {w0 : World} (H : Has w0 (rdr g rv l bad)) (hz : l.length ≤ 35184372088832) : Does Try.prog 56 [.pointer (some ⟨g, 0, none⟩)] w0 (rdr g rv l bad) (fun _ : Value => Value.agg (bc (rSum (l, bad))).toArray) (fun x => rdr g x (rNext 32 (l, bad)).1 (rNext 32 (l, bad)).2) (fun _ => True) := by
  refine enter (n := 5) Try.func56 rfl rfl rfl ?_
  intro fr E
  have M : Mem w0 (feet (rdr g rv l bad)) (rdr g rv l bad) (fun _ => True) w0 := Mem.begin H (fun _ _ => trivial)
  refine code_region ?_
  refine snew (ob := .cells _ 28) (fun g => .pointer (some ⟨g, 0, none⟩)) E M rfl rfl rfl rfl rfl (run_allocN rfl T.zero28) fun g0 fr w M E => ?_
  refine seq_nil' ?_
  refine code_region ?_
  refine mv E fun fr E => ?_
  have M := M.pull 2 rfl
  have M := M.pull 2 rfl
  refine scallI (rdr g rv l bad) E M rfl rfl rfl rfl rfl (run_call rfl rfl T.fn70) rfl (fun H => take_digest H hz) ?_
  rintro rv2 fr w - M E
  refine sset (i := 2) (cs' := (bc (rSum (l, bad))).toArray) E M rfl rfl rfl rfl rfl (run_storeAll (vs := (bc (rSum (l, bad))).toArray) rfl rfl rfl T.size28 (by simp [rSum_len, rRef_len]) (M.row (i := 2) rfl) rfl (by simpa using bc_one _)) rfl fun fr w M E => ?_
  refine seq_nil' ?_
  refine wp_ret ?_
  refine retC E rfl rfl T.agg28 (M.row (i := 2) rfl) (by simp [rSum_len, rRef_len]) ?_
  exact ⟨_, rfl, M.fin (by first | exact List.Sublist.refl _ | exact .cons _ (.refl _) | exact .cons_cons _ (.cons_cons _ (.cons _ .slnil))) trivial⟩


set_option maxRecDepth 100000 in
theorem End_bad {g : Nat} {rv : Value} {l : List UInt8} {bad : Bool} {w0 : World} (H : Has w0 (rdr g rv l bad)) (hz : l.length ≤ 35184372088832) (hb : bad = true) : Does Try.prog 59 [.pointer (some ⟨g, 0, none⟩)] w0 (rdr g rv l bad) (fun _ : Unit => .int .i64 4) (fun _ => rdr g rv l bad) (fun _ => True) := by
  refine enter (n := 15) Try.func59 rfl rfl rfl ?_
  intro fr E
  have M : Mem w0 (feet (rdr g rv l bad)) (rdr g rv l bad) (fun _ => True) w0 := Mem.begin H (fun _ _ => trivial)
  subst hb
  refine code_region ?_
  refine sw E (run_assignC rfl) fun fr E => ?_
  refine seq_nil' ?_
  refine wp_seq ?_
  refine wp_block ?_
  refine code_region ?_
  refine mv E fun fr E => ?_
  refine sw E (run_nilCheck rfl rfl) fun fr E => ?_
  refine sw (v := .pointer (some ⟨_, 1, none⟩)) E (run_fieldAddr rfl rfl T.fld136_1) fun fr E => ?_
  refine sw (v := .bool _) E (run_loadB rfl rfl T.one4 (M.row (i := 0) rfl) rfl) fun fr E => ?_
  refine ma E fun fr E => ?_
  refine seq_nil' ?_
  refine cond_true E rfl (rfl) ?_
  refine code_region ?_
  refine sw E (run_assignC rfl) fun fr E => ?_
  refine seq_nil' ?_
  refine wp_ret ?_
  refine block_ret ?_
  refine then_ret ?_
  refine ret1 E rfl rfl ?_
  exact ⟨(), rfl, M.fin (List.Sublist.refl _) trivial⟩

set_option maxRecDepth 100000 in
theorem End_long {g : Nat} {rv : Value} {l : List UInt8} {bad : Bool} {w0 : World} (H : Has w0 (rdr g rv l bad)) (hz : l.length ≤ 35184372088832) (hb : bad = false) (hl : 0 < l.length) : Does Try.prog 59 [.pointer (some ⟨g, 0, none⟩)] w0 (rdr g rv l bad) (fun _ : Unit => .int .i64 3) (fun _ => rdr g rv l bad) (fun _ => True) := by
  refine enter (n := 15) Try.func59 rfl rfl rfl ?_
  intro fr E
  have M : Mem w0 (feet (rdr g rv l bad)) (rdr g rv l bad) (fun _ => True) w0 := Mem.begin H (fun _ _ => trivial)
  subst hb
  refine code_region ?_
  refine sw E (run_assignC rfl) fun fr E => ?_
  refine seq_nil' ?_
  refine wp_seq ?_
  refine wp_block ?_
  refine code_region ?_
  refine mv E fun fr E => ?_
  refine sw E (run_nilCheck rfl rfl) fun fr E => ?_
  refine sw (v := .pointer (some ⟨_, 1, none⟩)) E (run_fieldAddr rfl rfl T.fld136_1) fun fr E => ?_
  refine sw (v := .bool _) E (run_loadB rfl rfl T.one4 (M.row (i := 0) rfl) rfl) fun fr E => ?_
  refine ma E fun fr E => ?_
  refine seq_nil' ?_
  refine cond_false E rfl (rfl) ?_
  refine code_region ?_
  refine mv E fun fr E => ?_
  refine sw E (run_nilCheck rfl rfl) fun fr E => ?_
  refine sw (v := .pointer (some ⟨_, 0, none⟩)) E (run_fieldAddr rfl rfl T.fld136_0) fun fr E => ?_
  refine sw E (run_loadB rfl rfl T.one54 (M.row (i := 0) rfl) rfl) fun fr E => ?_
  refine sw (v := .int .i64 _) E (run_lenR rfl rfl rfl rfl T.slice54 (M.subs 1 rfl)) fun fr E => ?_
  refine sw (v := .bool true) E (tst rfl (decide_eq_true (by omega))) fun fr E => ?_
  refine ma E fun fr E => ?_
  refine seq_nil' ?_
  refine cond_true E rfl (rfl) ?_
  refine code_region ?_
  refine sw E (run_assignC rfl) fun fr E => ?_
  refine seq_nil' ?_
  refine wp_ret ?_
  refine block_ret ?_
  refine then_ret ?_
  refine ret1 E rfl rfl ?_
  exact ⟨(), rfl, M.fin (List.Sublist.refl _) trivial⟩

set_option maxRecDepth 100000 in
theorem End_ok {g : Nat} {rv : Value} {l : List UInt8} {bad : Bool} {w0 : World} (H : Has w0 (rdr g rv l bad)) (hz : l.length ≤ 35184372088832) (hb : bad = false) (hl : l.length = 0) : Does Try.prog 59 [.pointer (some ⟨g, 0, none⟩)] w0 (rdr g rv l bad) (fun _ : Unit => .int .i64 0) (fun _ => rdr g rv l bad) (fun _ => True) := by
  refine enter (n := 15) Try.func59 rfl rfl rfl ?_
  intro fr E
  have M : Mem w0 (feet (rdr g rv l bad)) (rdr g rv l bad) (fun _ => True) w0 := Mem.begin H (fun _ _ => trivial)
  subst hb
  refine code_region ?_
  refine sw E (run_assignC rfl) fun fr E => ?_
  refine seq_nil' ?_
  refine wp_seq ?_
  refine wp_block ?_
  refine code_region ?_
  refine mv E fun fr E => ?_
  refine sw E (run_nilCheck rfl rfl) fun fr E => ?_
  refine sw (v := .pointer (some ⟨_, 1, none⟩)) E (run_fieldAddr rfl rfl T.fld136_1) fun fr E => ?_
  refine sw (v := .bool _) E (run_loadB rfl rfl T.one4 (M.row (i := 0) rfl) rfl) fun fr E => ?_
  refine ma E fun fr E => ?_
  refine seq_nil' ?_
  refine cond_false E rfl (rfl) ?_
  refine code_region ?_
  refine mv E fun fr E => ?_
  refine sw E (run_nilCheck rfl rfl) fun fr E => ?_
  refine sw (v := .pointer (some ⟨_, 0, none⟩)) E (run_fieldAddr rfl rfl T.fld136_0) fun fr E => ?_
  refine sw E (run_loadB rfl rfl T.one54 (M.row (i := 0) rfl) rfl) fun fr E => ?_
  refine sw (v := .int .i64 _) E (run_lenR rfl rfl rfl rfl T.slice54 (M.subs 1 rfl)) fun fr E => ?_
  refine sw (v := .bool false) E (tst rfl (decide_eq_false (by omega))) fun fr E => ?_
  refine ma E fun fr E => ?_
  refine seq_nil' ?_
  refine cond_false E rfl (rfl) ?_
  refine wp_skip ?_
  refine block_normal ?_
  refine then_normal ?_
  refine code_region ?_
  refine sw E (run_assignC rfl) fun fr E => ?_
  refine seq_nil' ?_
  refine wp_ret ?_
  refine ret1 E rfl rfl ?_
  exact ⟨(), rfl, M.fin (List.Sublist.refl _) trivial⟩

theorem End_x {g : Nat} {rv : Value} {l : List UInt8} {bad : Bool} {w0 : World} (H : Has w0 (rdr g rv l bad)) (hz : l.length ≤ 35184372088832) : Does Try.prog 59 [.pointer (some ⟨g, 0, none⟩)] w0 (rdr g rv l bad) (fun _ : Unit => .int .i64 (rEnd (l, bad))) (fun _ => rdr g rv l bad) (fun _ => True) := by
  cases bad with
  | true => exact End_bad H hz rfl
  | false =>
    by_cases hl : 0 < l.length
    · simp only [rEnd, hl, if_true, Bool.false_eq_true, if_false]; exact End_long H hz rfl hl
    · simp only [rEnd, hl, Bool.false_eq_true, if_false]; exact End_ok H hz rfl (by omega)

set_option maxRecDepth 100000 in
theorem Read_x {b : Value} {l : List UInt8} {w0 : World} (hb : Bytes w0 b l) (hz : l.length ≤ 35184372088832) : Does Try.prog 52 [b] w0 [] (fun x : Nat × Value => .pointer (some ⟨x.1, 0, none⟩)) (fun x => rdr x.1 x.2 l false) (fun _ => True) := by
  refine enter (n := 7) Try.func52 rfl rfl rfl ?_
  intro fr E
  have M : Mem w0 (feet []) [] (fun w' => Bytes w' b l) w0 := Mem.begin (Has.nil w0) (fun w' h => hb.held0 h)
  refine code_region ?_
  refine sw E (run_assignC rfl) fun fr E => ?_
  refine seq_nil' ?_
  refine code_region ?_
  refine mv E fun fr E => ?_
  refine scall E M rfl rfl rfl rfl rfl (run_call rfl rfl T.fn66) (behind_x (k := []) M.fact (Bytes.nil _) (by simp; omega)) rfl ?_
  rintro s fr w - M E
  have M := M.as (L' := [.bytes 5 s l]) (by simp)
  obtain ⟨sb, sc, hs⟩ := Reads.slice (M.bytes 0 rfl); subst hs
  refine sw (v := .agg ([Value.slice sb l.length sc, .bool false]).toArray) E (run_buildP (vs := [.slice sb l.length sc]) (us := [Value.slice sb l.length sc, .bool false]) rfl rfl T.ts136 T.zeroL136 (rfl) rfl rfl (rfl)) fun fr E => ?_
  refine snew (ob := .cells (#[.slice sb l.length sc, .bool false]) 136) (fun g => .pointer (some ⟨g, 0, none⟩)) E M rfl rfl rfl rfl rfl (run_boxN (cs := (#[.slice sb l.length sc, .bool false])) rfl rfl) fun g0 fr w M E => ?_
  refine ma E fun fr E => ?_
  refine seq_nil' ?_
  refine wp_ret ?_
  refine ret1 E rfl rfl ?_
  have M := M.asSub 1 rfl
  exact ⟨(_, _), rfl, M.fin (List.Sublist.refl _) trivial⟩
end Go.Proofs.Ytnebjbgcibjohaa.K
end
section
namespace Go.Proofs.Ytnebjbgcibjohaa.K
open Go.RowKit Go.Rill Go.Proofs
set_option linter.unusedVariables false
set_option linter.unusedSimpArgs false
set_option maxRecDepth 100000 in
theorem SameBytes_ne {a b : Value} {l k : List UInt8} {w0 : World} (ha : Bytes w0 a l) (hb : Bytes w0 b k) (hn : l.length ≠ k.length) : Gives Try.prog 15 [a, b] w0 (.bool false) := by
  refine enter (n := 26) Try.func15 rfl rfl rfl ?_
  intro fr E
  have M : Mem w0 (feet []) [] (fun w' => Bytes w' a l ∧ Bytes w' b k) w0 := Mem.begin (Has.nil w0) (fun w' h => ⟨ha.held0 h, hb.held0 h⟩)
  refine code_region ?_
  refine sw E (run_assignC rfl) fun fr E => ?_
  refine seq_nil' ?_
  refine wp_seq ?_
  refine code_region ?_
  refine mv E fun fr E => ?_
  refine sw (v := .int .i64 _) E (run_lenR rfl rfl rfl rfl T.slice54 M.fact.1) fun fr E => ?_
  refine mv E fun fr E => ?_
  refine sw (v := .int .i64 _) E (run_lenR rfl rfl rfl rfl T.slice54 M.fact.2) fun fr E => ?_
  refine sw (v := .bool true) E (tst rfl (by simp <;> omega)) fun fr E => ?_
  refine seq_nil' ?_
  refine cond_true E rfl (rfl) ?_
  refine code_region ?_
  refine sw E (run_assignC rfl) fun fr E => ?_
  refine seq_nil' ?_
  refine wp_ret ?_
  refine then_ret ?_
  refine ret1 E rfl rfl ?_
  exact given M

set_option maxRecDepth 100000 in
theorem SameBytes_eq {a b : Value} {l k : List UInt8} {w0 : World} (ha : Bytes w0 a l) (hb : Bytes w0 b k) (hl : l.length = k.length) (hz : l.length ≤ 35184372088832) : Gives Try.prog 15 [a, b] w0 (.bool (decide (l = k))) := by
  refine enter (n := 26) Try.func15 rfl rfl rfl ?_
  intro fr E
  have M : Mem w0 (feet []) [] (fun w' => Bytes w' a l ∧ Bytes w' b k) w0 := Mem.begin (Has.nil w0) (fun w' h => ⟨ha.held0 h, hb.held0 h⟩)
  refine code_region ?_
  refine sw E (run_assignC rfl) fun fr E => ?_
  refine seq_nil' ?_
  refine wp_seq ?_
  refine code_region ?_
  refine mv E fun fr E => ?_
  refine sw (v := .int .i64 _) E (run_lenR rfl rfl rfl rfl T.slice54 M.fact.1) fun fr E => ?_
  refine mv E fun fr E => ?_
  refine sw (v := .int .i64 _) E (run_lenR rfl rfl rfl rfl T.slice54 M.fact.2) fun fr E => ?_
  refine sw (v := .bool false) E (tst rfl (by simp <;> omega)) fun fr E => ?_
  refine seq_nil' ?_
  refine cond_false E rfl (rfl) ?_
  refine wp_skip ?_
  refine then_normal ?_
  refine wp_seq ?_
  refine code_region ?_
  refine sw E (run_assignC rfl) fun fr E => ?_
  refine seq_nil' ?_
  refine wp_block ?_
  refine loop_dec (fun d fr w => ∃ i : Nat, d = l.length - i ∧ i ≤ l.length ∧ (∀ j, j < i → l[j]? = k[j]?) ∧ Env [(5, .int .i64 i), (1, b), (0, a)] 26 fr ∧ Mem w0 (feet []) [] (fun w' => Bytes w' a l ∧ Bytes w' b k) w) (l.length) ?_ ?_
  · refine ⟨0, rfl, Nat.zero_le _, fun j hj => absurd hj (by omega), (((Env.nil E).add E (t := 0) rfl).add E (t := 1) rfl).add E (t := 5) rfl, M⟩
  · clear E M
    rintro d fr w ⟨i, rfl, hle, heq, E, M⟩
    by_cases hi : i < l.length
    · by_cases hc : l[i] = k[i]'(hl ▸ hi)
      · refine wp_seq ?_
        refine code_region ?_
        refine mv E fun fr E => ?_
        refine mv E fun fr E => ?_
        refine sw (v := .int .i64 _) E (run_lenR rfl rfl rfl rfl T.slice54 M.fact.1) fun fr E => ?_
        refine sw (v := .bool true) E (tst rfl (decide_eq_true (by omega))) fun fr E => ?_
        refine seq_nil' ?_
        refine cond_true E rfl (rfl) ?_
        refine wp_skip ?_
        refine then_normal ?_
        refine wp_seq ?_
        refine wp_block ?_
        refine wp_seq (free_reg (B := T.tab15_6_b) (Vs := (.exact _ :: .exact _ :: .exact (cellAt a (i * 1)) :: .exact (.int .u8 ((l[i]).toNat : Int)) :: .exact _ :: .exact _ :: .exact (cellAt b (i * 1)) :: .exact (.int .u8 ((k[i]'(hl ▸ hi)).toNat : Int)) :: .exact (.bool false) :: [])) T.tab15_6_i E T.mixed T.tab15_6 rfl (AllS.lasts ⟨trivial, trivial, trivial, trivial, trivial, trivial, trivial, trivial, trivial, trivial⟩) ⟨fv rfl rfl (fun x w hx hk => run_move rfl rfl),
      fv rfl rfl (fun x w hx hk => run_move rfl rfl),
      fv rfl rfl (fun x w hx hk => run_indexR (i := i) rfl (M.ext ((Ext.drew _).trans hx)).fact.1 rfl rfl (rfl) (hi) T.slice54 T.size5),
      fv rfl rfl (fun x w hx hk => run_loadR rfl (M.ext ((Ext.drew _).trans hx)).fact.1 rfl T.one5 (by rw [Nat.mul_one]; exact bc_get hi)),
      fv rfl rfl (fun x w hx hk => run_move rfl rfl),
      fv rfl rfl (fun x w hx hk => run_move rfl rfl),
      fv rfl rfl (fun x w hx hk => run_indexR (i := i) rfl (M.ext ((Ext.drew _).trans hx)).fact.2 rfl rfl (rfl) ((by omega)) T.slice54 T.size5),
      fv rfl rfl (fun x w hx hk => run_loadR rfl (M.ext ((Ext.drew _).trans hx)).fact.2 rfl T.one5 (by rw [Nat.mul_one]; exact bc_get (l := k) (by omega))),
      fv rfl rfl (fun x w hx hk => tst rfl (by simp [hc])), trivial⟩ ?_)
        intro x fr w hx hk E
        have M := M.ext hx
        refine then_normal ?_
        refine cond_false E rfl (rfl) ?_
        refine wp_skip ?_
        refine block_normal ?_
        refine then_normal ?_
        refine code_last ?_
        refine mv E fun fr E => ?_
        refine sw (v := .int _ (((i + 1 : Nat) : Int))) E (num rfl ((i64_id (by omega) (by omega)).trans (by omega))) fun fr E => ?_
        refine ma E fun fr E => ?_
        refine seq_nil ?_
        refine then_any ?_
        refine ⟨l.length - (i + 1), by omega, i + 1, rfl, by omega, fun j hj => ?_, (((Env.nil E).add E (t := 0) rfl).add E (t := 1) rfl).add E (t := 5) rfl, M⟩
        rcases Nat.lt_or_eq_of_le (Nat.le_of_lt_succ hj) with h | rfl
        · exact heq j h
        · rw [List.getElem?_eq_getElem hi, List.getElem?_eq_getElem (hl ▸ hi), hc]
      · refine wp_seq ?_
        refine code_region ?_
        refine mv E fun fr E => ?_
        refine mv E fun fr E => ?_
        refine sw (v := .int .i64 _) E (run_lenR rfl rfl rfl rfl T.slice54 M.fact.1) fun fr E => ?_
        refine sw (v := .bool true) E (tst rfl (decide_eq_true (by omega))) fun fr E => ?_
        refine seq_nil' ?_
        refine cond_true E rfl (rfl) ?_
        refine wp_skip ?_
        refine then_normal ?_
        refine wp_seq ?_
        refine wp_block ?_
        refine wp_seq (free_reg (B := T.tab15_6_b) (Vs := (.exact _ :: .exact _ :: .exact (cellAt a (i * 1)) :: .exact (.int .u8 ((l[i]).toNat : Int)) :: .exact _ :: .exact _ :: .exact (cellAt b (i * 1)) :: .exact (.int .u8 ((k[i]'(hl ▸ hi)).toNat : Int)) :: .exact (.bool true) :: [])) T.tab15_6_i E T.mixed T.tab15_6 rfl (AllS.lasts ⟨trivial, trivial, trivial, trivial, trivial, trivial, trivial, trivial, trivial, trivial⟩) ⟨fv rfl rfl (fun x w hx hk => run_move rfl rfl),
      fv rfl rfl (fun x w hx hk => run_move rfl rfl),
      fv rfl rfl (fun x w hx hk => run_indexR (i := i) rfl (M.ext ((Ext.drew _).trans hx)).fact.1 rfl rfl (rfl) (hi) T.slice54 T.size5),
      fv rfl rfl (fun x w hx hk => run_loadR rfl (M.ext ((Ext.drew _).trans hx)).fact.1 rfl T.one5 (by rw [Nat.mul_one]; exact bc_get hi)),
      fv rfl rfl (fun x w hx hk => run_move rfl rfl),
      fv rfl rfl (fun x w hx hk => run_move rfl rfl),
      fv rfl rfl (fun x w hx hk => run_indexR (i := i) rfl (M.ext ((Ext.drew _).trans hx)).fact.2 rfl rfl (rfl) ((by omega)) T.slice54 T.size5),
      fv rfl rfl (fun x w hx hk => run_loadR rfl (M.ext ((Ext.drew _).trans hx)).fact.2 rfl T.one5 (by rw [Nat.mul_one]; exact bc_get (l := k) (by omega))),
      fv rfl rfl (fun x w hx hk => tst rfl (by simp; exact fun h => hc (UInt8.toNat_inj.1 (Int.ofNat_inj.1 h)))), trivial⟩ ?_)
        intro x fr w hx hk E
        have M := M.ext hx
        refine then_normal ?_
        refine cond_true E rfl (rfl) ?_
        refine code_region ?_
        refine sw E (run_assignC rfl) fun fr E => ?_
        refine seq_nil' ?_
        refine wp_ret ?_
        refine block_ret ?_
        refine then_ret ?_
        refine then_ret ?_
        refine block_ret ?_
        refine then_ret ?_
        refine ret1 E rfl rfl ?_
        have e : decide (l = k) = false := decide_eq_false (fun h => hc (by subst h; rfl))
        rw [e]
        exact given M
    · refine wp_seq ?_
      refine code_region ?_
      refine mv E fun fr E => ?_
      refine mv E fun fr E => ?_
      refine sw (v := .int .i64 _) E (run_lenR rfl rfl rfl rfl T.slice54 M.fact.1) fun fr E => ?_
      refine sw (v := .bool false) E (tst rfl (decide_eq_false (by omega))) fun fr E => ?_
      refine seq_nil' ?_
      refine cond_false E rfl (rfl) ?_
      refine wp_exit ?_
      refine then_exit ?_
      refine then_exit ?_
      refine block_exit ?_
      refine then_normal ?_
      refine code_region ?_
      refine sw E (run_assignC rfl) fun fr E => ?_
      refine seq_nil' ?_
      refine wp_ret ?_
      refine ret1 E rfl rfl ?_
      have e : decide (l = k) = true := decide_eq_true (List.ext_getElem? fun j => by by_cases hj : j < i; exact heq j hj; rw [List.getElem?_eq_none (by omega), List.getElem?_eq_none (by omega)])
      rw [e]
      exact given M

theorem SameBytes_x {a b : Value} {l k : List UInt8} {w0 : World} (ha : Bytes w0 a l) (hb : Bytes w0 b k) (hz : l.length ≤ 35184372088832) : Gives Try.prog 15 [a, b] w0 (.bool (decide (l = k))) := by
  by_cases hl : l.length = k.length
  · exact SameBytes_eq ha hb hl hz
  · rw [decide_eq_false (fun h => hl (by rw [h]))]; exact SameBytes_ne ha hb hl













end Go.Proofs.Ytnebjbgcibjohaa.K
end
section
namespace Go.Proofs.Ytnebjbgcibjohaa.K
open Go.RowKit Go.Rill Go.Proofs
set_option linter.unusedVariables false
set_option linter.unusedSimpArgs false


end Go.Proofs.Ytnebjbgcibjohaa.K
end
section
namespace Go.Proofs.Ytnebjbgcibjohaa.K
open Go.RowKit Go.Rill Go.Proofs
set_option linter.unusedVariables false
set_option linter.unusedSimpArgs false


end Go.Proofs.Ytnebjbgcibjohaa.K
end
section
namespace Go.Proofs.Ytnebjbgcibjohaa.K
open Go.RowKit Go.Rill Go.Proofs
set_option linter.unusedVariables false
set_option linter.unusedSimpArgs false
def nb (l : List Int) : List UInt8 := (l.map be8).flatten
end Go.Proofs.Ytnebjbgcibjohaa.K
end
section
namespace Go.Proofs.Ytnebjbgcibjohaa.K
open Go.RowKit Go.Rill Go.Proofs
set_option linter.unusedVariables false
set_option linter.unusedSimpArgs false
/-- What a reader of a record has left behind k things. -/
def rst (l : List UInt8) : Nat → List UInt8 × Bool
  | 0 => (l, false)
  | k + 1 => rNext (match k with | 3 => 32 | 4 => 40 | 9 => 32 | 10 => 32 | _ => 8) (rst l k)
def Rec.r5 (l : List UInt8) : Rec := { Rec.zero with gen := rInt (rst l 0), stamp := rInt (rst l 1), epoch := rInt (rst l 2), super := rSum (rst l 3), rat := (rRef (rst l 4)).1, rsum := (rRef (rst l 4)).2 }
def Rec.r7 (l : List UInt8) : Rec := { Rec.r5 l with bseg := rInt (rst l 5), bslot := rInt (rst l 6) }
def Rec.r9 (l : List UInt8) : Rec := { Rec.r7 l with tseg := rInt (rst l 7), tslot := rInt (rst l 8) }
def Rec.r10 (l : List UInt8) : Rec := { Rec.r9 l with bsum := rSum (rst l 9) }
def Rec.read (l : List UInt8) : Rec := { Rec.r10 l with tsum := rSum (rst l 10) }
end Go.Proofs.Ytnebjbgcibjohaa.K
end
section
namespace Go.Proofs.Ytnebjbgcibjohaa.K
open Go.RowKit Go.Rill Go.Proofs
set_option linter.unusedVariables false
set_option linter.unusedSimpArgs false
theorem Bytes.mid {w : World} {v : Value} {l : List UInt8} {at_ n : Nat} (h : Bytes w v l) (hn : at_ + n ≤ l.length) : Bytes w (cutV 1 v at_ (at_ + n)) ((l.drop at_).take n) := by
  have := Bytes.cut at_ (at_ + n) h (Nat.le_add_right _ _) hn
  rwa [Nat.add_sub_cancel_left] at this
end Go.Proofs.Ytnebjbgcibjohaa.K
end
section
namespace Go.Proofs.Ytnebjbgcibjohaa.K
open Go.RowKit Go.Rill Go.Proofs
set_option linter.unusedVariables false
set_option linter.unusedSimpArgs false
/-- The record as it is filled, field by field. -/
def Rec.q (l : List UInt8) : Nat → Rec
  | 0 => Rec.zero
  | 1 => { Rec.zero with gen := rInt (rst l 0) }
  | 2 => { Rec.zero with gen := rInt (rst l 0), stamp := rInt (rst l 1) }
  | 3 => { Rec.zero with gen := rInt (rst l 0), stamp := rInt (rst l 1), epoch := rInt (rst l 2) }
  | 4 => { Rec.zero with gen := rInt (rst l 0), stamp := rInt (rst l 1), epoch := rInt (rst l 2), super := rSum (rst l 3) }
  | 5 => Rec.r5 l
  | 6 => { Rec.r5 l with bseg := rInt (rst l 5) }
  | 7 => Rec.r7 l
  | 8 => { Rec.r7 l with tseg := rInt (rst l 7) }
  | 9 => Rec.r9 l
  | 10 => Rec.r10 l
  | _ => Rec.read l
end Go.Proofs.Ytnebjbgcibjohaa.K
end
section
namespace Go.Proofs.Ytnebjbgcibjohaa.K
open Go.RowKit Go.Rill Go.Proofs
set_option linter.unusedVariables false
set_option linter.unusedSimpArgs false
theorem fill_step {F : List UInt8} {i n : Nat} {c : UInt8} (hi : i < n) (hF : F.length = n) (hc : F[i]'(by omega) = c) : (F.take i ++ List.replicate (n - i) 0).set i c = F.take (i + 1) ++ List.replicate (n - (i + 1)) 0 := by
  subst hc
  have e : n - i = (n - (i + 1)) + 1 := by omega
  rw [List.take_succ_eq_append_getElem (by omega), e, List.replicate_succ, List.set_append_right _ _ (by simp; omega)]
  have e2 : i - (F.take i).length = 0 := by simp; omega
  rw [e2, List.set_cons_zero]
  simp only [List.append_assoc, List.singleton_append]

end Go.Proofs.Ytnebjbgcibjohaa.K
end
section
namespace Go.Proofs.Ytnebjbgcibjohaa.K
open Go.RowKit Go.Rill Go.Proofs
set_option linter.unusedVariables false
set_option linter.unusedSimpArgs false
def Rec.mk3 (a b : Int) : Rec := { Rec.zero with gen := a, stamp := b, epoch := 2 }
set_option maxRecDepth 100000 in
theorem nwithin_1 {n : Int} {w0 : World} (h : 0 ≤ n) : Gives Try.prog 109 [.int .i64 n] w0 (.bool (decide (n ≤ 1099511627776))) := by
  refine enter (n := 9) Try.func109 rfl rfl rfl ?_
  intro fr E
  have M : Mem w0 (feet []) [] (fun _ => True) w0 := Mem.begin (Has.nil w0) (fun _ _ => trivial)
  refine code_region ?_
  refine sw E (run_assignC rfl) fun fr E => ?_
  refine seq_nil' ?_
  refine code_region ?_
  refine mv E fun fr E => ?_
  refine sw (v := .bool true) E (tst rfl (decide_eq_true h)) fun fr E => ?_
  refine mv E fun fr E => ?_
  refine mv E fun fr E => ?_
  refine sw (v := .bool _) E (rfl) fun fr E => ?_
  refine sw (v := .bool _) E (rfl) fun fr E => ?_
  refine ma E fun fr E => ?_
  refine seq_nil' ?_
  refine wp_ret ?_
  refine ret1 E rfl rfl ?_
  exact given M

set_option maxRecDepth 100000 in
theorem nwithin_2 {n : Int} {w0 : World} (h : ¬ 0 ≤ n) : Gives Try.prog 109 [.int .i64 n] w0 (.bool false) := by
  refine enter (n := 9) Try.func109 rfl rfl rfl ?_
  intro fr E
  have M : Mem w0 (feet []) [] (fun _ => True) w0 := Mem.begin (Has.nil w0) (fun _ _ => trivial)
  refine code_region ?_
  refine sw E (run_assignC rfl) fun fr E => ?_
  refine seq_nil' ?_
  refine code_region ?_
  refine mv E fun fr E => ?_
  refine sw (v := .bool false) E (tst rfl (decide_eq_false h)) fun fr E => ?_
  refine mv E fun fr E => ?_
  refine sno E rfl rfl rfl rfl fun fr E => ?_
  refine sno E rfl rfl rfl rfl fun fr E => ?_
  refine sw (v := .bool _) E (rfl) fun fr E => ?_
  refine ma E fun fr E => ?_
  refine seq_nil' ?_
  refine wp_ret ?_
  refine ret1 E rfl rfl ?_
  exact given M

theorem nwithin_x (n : Int) (w0 : World) : Gives Try.prog 109 [.int .i64 n] w0 (.bool (decide (0 ≤ n ∧ n ≤ 1099511627776))) := by
  by_cases h : 0 ≤ n
  · have e : decide (0 ≤ n ∧ n ≤ 1099511627776) = decide (n ≤ 1099511627776) := by simp [h]
    rw [e]; exact nwithin_1 h
  · have e : decide (0 ≤ n ∧ n ≤ 1099511627776) = false := by simp [h]
    rw [e]; exact nwithin_2 h



set_option maxRecDepth 100000 in
theorem nnumber_x (v : Int) (w0 : World) : Does Try.prog 63 [.int .i64 v] w0 [] (fun s : Value => s) (fun s => [.bytes 5 s (be8 v)]) (fun _ => True) := by
  refine enter (n := 23) Try.func63 rfl rfl rfl ?_
  intro fr E
  have M : Mem w0 (feet []) [] (fun _ => True) w0 := Mem.begin (Has.nil w0) (fun _ _ => trivial)
  refine code_region ?_
  refine sw E (run_assignC rfl) fun fr E => ?_
  refine seq_nil' ?_
  refine code_region ?_
  refine smakeB (k := 8) (c := 8) E M rfl rfl rfl rfl rfl rfl rfl rfl (rfl) (rfl) T.slice54 T.zt5 T.zc5 T.by5 (Nat.le_refl _) (by decide) fun o fr w M E => ?_
  refine ma E fun fr E => ?_
  refine seq_nil' ?_
  refine wp_seq ?_
  refine code_region ?_
  refine mv E fun fr E => ?_
  refine sw (v := .int .i64 _) E (run_lenR rfl rfl rfl rfl T.slice54 (M.reads 0 rfl)) fun fr E => ?_
  refine sw E (run_moveC rfl) fun fr E => ?_
  refine seq_nil' ?_
  refine wp_block ?_
  refine loop_dec (fun d fr w => ∃ i : Nat, d = 8 - i ∧ i ≤ 8 ∧ Env [(8, .int .i64 i), (7, .int .i64 8), (6, o), (3, o), (0, .int .i64 v)] 23 fr ∧ Mem w0 (feet []) [.bytes 5 o ((be8 v).take i ++ List.replicate (8 - i) 0)] (fun _ => True) w) (8) ?_ ?_
  · refine ⟨0, rfl, by omega, (((((Env.nil E).add E (t := 0) rfl).add E (t := 3) rfl).add E (t := 6) rfl).add E (t := 7) rfl).add E (t := 8) rfl, M.as (by simp)⟩
  · clear E M
    rintro d fr w ⟨i, hd, hle, E, M⟩
    have hX : ((be8 v).take i ++ List.replicate (8 - i) 0).length = 8 := by rw [List.length_append, List.length_take, List.length_replicate, be8_len]; omega
    by_cases hi : i < 8
    · refine code_region ?_
      refine sw (v := .bool true) E (tst rfl (decide_eq_true (by omega))) fun fr E => ?_
      refine seq_nil' ?_
      refine wp_seq ?_
      refine cond_true E rfl (rfl) ?_
      refine wp_skip ?_
      refine then_normal ?_
      refine wp_seq ?_
      refine wp_block ?_
      refine code_region ?_
      refine mv E fun fr E => ?_
      refine ma E fun fr E => ?_
      refine seq_nil' ?_
      refine code_last ?_
      refine mv E fun fr E => ?_
      refine mv E fun fr E => ?_
      refine mv E fun fr E => ?_
      refine sw (v := .int _ (IntKind.u64.wrap v)) E (num rfl (rfl)) fun fr E => ?_
      refine mv E fun fr E => ?_
      refine sw (v := .int _ (((8 - i : Nat) : Int) - 1)) E (num rfl ((i64_id (by omega) (by omega)).trans (by omega))) fun fr E => ?_
      refine sw (v := .int _ (8 * (((8 - i : Nat) : Int) - 1))) E (num rfl (i64_id (by omega) (by omega))) fun fr E => ?_
      refine sw (v := .int .u64 _) E (run_shrV rfl rfl rfl (by omega) rfl) fun fr E => ?_
      refine sw (v := .int _ ((((be8 v)[8 - (8 - i)]'(by rw [be8_len]; omega)).toNat : Int))) E (num rfl (ref_byte v (by omega) (by omega))) fun fr E => ?_
      refine sw E (run_indexR (i := i) rfl (M.reads 0 rfl) rfl rfl (rfl) ((by omega)) T.slice54 T.size5) fun fr E => ?_
      refine ssetB (i := 0) (k := i) (b := (be8 v)[8 - (8 - i)]'(by rw [be8_len]; omega)) E M rfl rfl rfl rfl rfl rfl rfl rfl (rfl) T.size5 (by omega) fun fr w M E => ?_
      refine seq_nil ?_
      refine block_normal ?_
      refine then_normal ?_
      refine code_last ?_
      refine sw (v := .int _ (((i + 1 : Nat) : Int))) E (num rfl ((i64_id (by omega) (by omega)).trans (by omega))) fun fr E => ?_
      refine mv E fun fr E => ?_
      refine seq_nil ?_
      refine then_any ?_
      refine ⟨8 - (i + 1), by omega, i + 1, rfl, by omega, (((((Env.nil E).add E (t := 0) rfl).add E (t := 3) rfl).add E (t := 6) rfl).add E (t := 7) rfl).add E (t := 8) rfl, M.as ?_⟩
      refine congrArg (fun x => [Ent.bytes 5 o x]) ?_
      exact fill_step (F := be8 v) hi (be8_len v) (by congr 1; omega)
    · obtain rfl : i = 8 := by omega
      refine code_region ?_
      refine sw (v := .bool false) E (tst rfl (rfl)) fun fr E => ?_
      refine seq_nil' ?_
      refine wp_seq ?_
      refine cond_false E rfl (rfl) ?_
      refine wp_exit ?_
      refine then_exit ?_
      refine then_exit ?_
      refine block_exit ?_
      refine then_normal ?_
      refine code_region ?_
      refine mv E fun fr E => ?_
      refine ma E fun fr E => ?_
      refine seq_nil' ?_
      refine wp_ret ?_
      refine ret1 E rfl rfl ?_
      exact ⟨_, rfl, M.fin (.refl _) trivial⟩

set_option maxRecDepth 100000 in
theorem Clone_nil (w0 : World) : Does Try.prog 28 [.slice none 0 0] w0 [] (fun s : Value => s) (fun s => [.bytes 5 s []]) (fun _ => True) := by
  refine enter (n := 8) Try.func28 rfl rfl rfl ?_
  intro fr E
  have M : Mem w0 (feet []) [] (fun _ => True) w0 := Mem.begin (Has.nil w0) (fun _ _ => trivial)
  refine code_region ?_
  refine sw E (run_assignC rfl) fun fr E => ?_
  refine seq_nil' ?_
  refine wp_seq ?_
  refine code_region ?_
  refine mv E fun fr E => ?_
  refine sw (v := .bool true) E (run_sliceNil rfl rfl rfl T.slice54 rfl) fun fr E => ?_
  refine seq_nil' ?_
  refine cond_true E rfl (rfl) ?_
  refine code_region ?_
  refine sw E (run_assignC rfl) fun fr E => ?_
  refine seq_nil' ?_
  refine wp_ret ?_
  refine then_ret ?_
  refine ret1 E rfl rfl ?_
  have M := M.nilRow 5
  exact ⟨_, rfl, M.fin (.refl _) trivial⟩

set_option maxRecDepth 100000 in
theorem Clone_some {g off c : Nat} {l : List UInt8} {w0 : World} (hb : Bytes w0 (.slice (some ⟨g, off, none⟩) l.length c) l) (hz : l.length ≤ 35184372088832) : Does Try.prog 28 [.slice (some ⟨g, off, none⟩) l.length c] w0 [] (fun s : Value => s) (fun s => [.bytes 5 s l]) (fun _ => True) := by
  refine enter (n := 8) Try.func28 rfl rfl rfl ?_
  intro fr E
  have M : Mem w0 (feet []) [] (fun w' => Bytes w' (.slice (some ⟨g, off, none⟩) l.length c) l) w0 := Mem.begin (Has.nil w0) (fun w' h => hb.held0 h)
  refine code_region ?_
  refine sw E (run_assignC rfl) fun fr E => ?_
  refine seq_nil' ?_
  refine wp_seq ?_
  refine code_region ?_
  refine mv E fun fr E => ?_
  refine sw (v := .bool false) E (run_sliceNil rfl rfl rfl T.slice54 rfl) fun fr E => ?_
  refine seq_nil' ?_
  refine cond_false E rfl (rfl) ?_
  refine wp_skip ?_
  refine then_normal ?_
  refine code_region ?_
  refine srow (sz := 1) (xs := bc []) E M rfl rfl rfl rfl rfl (run_buildSlice0 rfl T.slice54 rfl) (rfl) (Nat.le_refl _) (by decide) (rfl) fun o fr w M E => ?_
  refine mv E fun fr E => ?_
  refine sappB (i := 0) E M rfl rfl rfl rfl rfl rfl rfl rfl rfl rfl rfl T.slice54 T.slice54 T.zt5 T.by5 M.fact (by simp; omega) fun o fr w M E => ?_
  refine ma E fun fr E => ?_
  refine seq_nil' ?_
  refine wp_ret ?_
  refine ret1 E rfl rfl ?_
  have M := M.as (L' := [.bytes 5 o l]) (by simp)
  exact ⟨_, rfl, M.fin (.refl _) trivial⟩

theorem Clone_x {b : Value} {l : List UInt8} {w0 : World} (hb : Bytes w0 b l) (hz : l.length ≤ 35184372088832) : Does Try.prog 28 [b] w0 [] (fun s : Value => s) (fun s => [.bytes 5 s l]) (fun _ => True) := by
  rcases hb.2 with ⟨rfl, h⟩ | ⟨g, off, c, rfl, _⟩
  · have e : l = [] := List.eq_nil_of_length_eq_zero h
    subst e
    exact Clone_nil w0
  · exact Clone_some hb hz
end Go.Proofs.Ytnebjbgcibjohaa.K
end
section
namespace Go.Proofs.Ytnebjbgcibjohaa.K
open Go.RowKit Go.Rill Go.Proofs
set_option linter.unusedVariables false
set_option linter.unusedSimpArgs false
def mn3 (x y z : Int) : Int := if z < (if y < x then y else x) then z else (if y < x then y else x)
def mx2 (x y : Int) : Int := if y > x then y else x
set_option maxRecDepth 100000 in
theorem Equal_ne {a b : Value} {l k : List UInt8} {w0 : World} (ha : Bytes w0 a l) (hb : Bytes w0 b k) (hn : l.length ≠ k.length) : Gives Try.prog 107 [a, b] w0 (.bool false) := by
  refine enter (n := 26) Try.func107 rfl rfl rfl ?_
  intro fr E
  have M : Mem w0 (feet []) [] (fun w' => Bytes w' a l ∧ Bytes w' b k) w0 := Mem.begin (Has.nil w0) (fun w' h => ⟨ha.held0 h, hb.held0 h⟩)
  refine code_region ?_
  refine sw E (run_assignC rfl) fun fr E => ?_
  refine seq_nil' ?_
  refine wp_seq ?_
  refine code_region ?_
  refine mv E fun fr E => ?_
  refine sw (v := .int .i64 _) E (run_lenR rfl rfl rfl rfl T.slice54 M.fact.1) fun fr E => ?_
  refine mv E fun fr E => ?_
  refine sw (v := .int .i64 _) E (run_lenR rfl rfl rfl rfl T.slice54 M.fact.2) fun fr E => ?_
  refine sw (v := .bool true) E (tst rfl (by simp <;> omega)) fun fr E => ?_
  refine seq_nil' ?_
  refine cond_true E rfl (rfl) ?_
  refine code_region ?_
  refine sw E (run_assignC rfl) fun fr E => ?_
  refine seq_nil' ?_
  refine wp_ret ?_
  refine then_ret ?_
  refine ret1 E rfl rfl ?_
  exact given M

set_option maxRecDepth 100000 in
theorem Equal_eq {a b : Value} {l k : List UInt8} {w0 : World} (ha : Bytes w0 a l) (hb : Bytes w0 b k) (hl : l.length = k.length) (hz : l.length ≤ 35184372088832) : Gives Try.prog 107 [a, b] w0 (.bool (decide (l = k))) := by
  refine enter (n := 26) Try.func107 rfl rfl rfl ?_
  intro fr E
  have M : Mem w0 (feet []) [] (fun w' => Bytes w' a l ∧ Bytes w' b k) w0 := Mem.begin (Has.nil w0) (fun w' h => ⟨ha.held0 h, hb.held0 h⟩)
  refine code_region ?_
  refine sw E (run_assignC rfl) fun fr E => ?_
  refine seq_nil' ?_
  refine wp_seq ?_
  refine code_region ?_
  refine mv E fun fr E => ?_
  refine sw (v := .int .i64 _) E (run_lenR rfl rfl rfl rfl T.slice54 M.fact.1) fun fr E => ?_
  refine mv E fun fr E => ?_
  refine sw (v := .int .i64 _) E (run_lenR rfl rfl rfl rfl T.slice54 M.fact.2) fun fr E => ?_
  refine sw (v := .bool false) E (tst rfl (by simp <;> omega)) fun fr E => ?_
  refine seq_nil' ?_
  refine cond_false E rfl (rfl) ?_
  refine wp_skip ?_
  refine then_normal ?_
  refine wp_seq ?_
  refine code_region ?_
  refine mv E fun fr E => ?_
  refine sw (v := .int .i64 _) E (run_lenR rfl rfl rfl rfl T.slice54 M.fact.1) fun fr E => ?_
  refine sw E (run_moveC rfl) fun fr E => ?_
  refine seq_nil' ?_
  refine wp_block ?_
  refine loop_dec (fun d fr w => ∃ i : Nat, d = l.length - i ∧ i ≤ l.length ∧ (∀ j, j < i → l[j]? = k[j]?) ∧ Env [(13, .int .i64 i), (12, .int .i64 l.length), (1, b), (0, a)] 26 fr ∧ Mem w0 (feet []) [] (fun w' => Bytes w' a l ∧ Bytes w' b k) w) (l.length) ?_ ?_
  · refine ⟨0, rfl, Nat.zero_le _, fun j hj => absurd hj (by omega), ((((Env.nil E).add E (t := 0) rfl).add E (t := 1) rfl).add E (t := 12) rfl).add E (t := 13) rfl, M⟩
  · clear E M
    rintro d fr w ⟨i, rfl, hle, heq, E, M⟩
    by_cases hi : i < l.length
    · by_cases hc : l[i] = k[i]'(hl ▸ hi)
      · refine code_region ?_
        refine sw (v := .bool true) E (tst rfl (decide_eq_true (by omega))) fun fr E => ?_
        refine seq_nil' ?_
        refine wp_seq ?_
        refine cond_true E rfl (rfl) ?_
        refine wp_skip ?_
        refine then_normal ?_
        refine wp_seq ?_
        refine wp_block ?_
        refine code_region ?_
        refine mv E fun fr E => ?_
        refine ma E fun fr E => ?_
        refine seq_nil' ?_
        refine wp_seq (free_reg (B := T.tab107_6_b) (Vs := (.exact _ :: .exact _ :: .exact (cellAt a (i * 1)) :: .exact (.int .u8 ((l[i]).toNat : Int)) :: .exact _ :: .exact _ :: .exact (cellAt b (i * 1)) :: .exact (.int .u8 ((k[i]'(hl ▸ hi)).toNat : Int)) :: .exact (.bool false) :: [])) T.tab107_6_i E T.mixed T.tab107_6 rfl (AllS.lasts ⟨trivial, trivial, trivial, trivial, trivial, trivial, trivial, trivial, trivial, trivial⟩) ⟨fv rfl rfl (fun x w hx hk => run_move rfl rfl),
      fv rfl rfl (fun x w hx hk => run_move rfl rfl),
      fv rfl rfl (fun x w hx hk => run_indexR (i := i) rfl (M.ext ((Ext.drew _).trans hx)).fact.1 rfl rfl (rfl) (hi) T.slice54 T.size5),
      fv rfl rfl (fun x w hx hk => run_loadR rfl (M.ext ((Ext.drew _).trans hx)).fact.1 rfl T.one5 (by rw [Nat.mul_one]; exact bc_get hi)),
      fv rfl rfl (fun x w hx hk => run_move rfl rfl),
      fv rfl rfl (fun x w hx hk => run_move rfl rfl),
      fv rfl rfl (fun x w hx hk => run_indexR (i := i) rfl (M.ext ((Ext.drew _).trans hx)).fact.2 rfl rfl (rfl) ((by omega)) T.slice54 T.size5),
      fv rfl rfl (fun x w hx hk => run_loadR rfl (M.ext ((Ext.drew _).trans hx)).fact.2 rfl T.one5 (by rw [Nat.mul_one]; exact bc_get (l := k) (by omega))),
      fv rfl rfl (fun x w hx hk => tst rfl (by simp [hc])), trivial⟩ ?_)
        intro x fr w hx hk E
        have M := M.ext hx
        refine then_normal ?_
        refine cond_false E rfl (rfl) ?_
        refine wp_skip ?_
        refine block_normal ?_
        refine then_normal ?_
        refine code_last ?_
        refine sw (v := .int _ (((i + 1 : Nat) : Int))) E (num rfl ((i64_id (by omega) (by omega)).trans (by omega))) fun fr E => ?_
        refine mv E fun fr E => ?_
        refine seq_nil ?_
        refine then_any ?_
        refine ⟨l.length - (i + 1), by omega, i + 1, rfl, by omega, fun j hj => ?_, ((((Env.nil E).add E (t := 0) rfl).add E (t := 1) rfl).add E (t := 12) rfl).add E (t := 13) rfl, M⟩
        rcases Nat.lt_or_eq_of_le (Nat.le_of_lt_succ hj) with h | rfl
        · exact heq j h
        · rw [List.getElem?_eq_getElem hi, List.getElem?_eq_getElem (hl ▸ hi), hc]
      · refine code_region ?_
        refine sw (v := .bool true) E (tst rfl (decide_eq_true (by omega))) fun fr E => ?_
        refine seq_nil' ?_
        refine wp_seq ?_
        refine cond_true E rfl (rfl) ?_
        refine wp_skip ?_
        refine then_normal ?_
        refine wp_seq ?_
        refine wp_block ?_
        refine code_region ?_
        refine mv E fun fr E => ?_
        refine ma E fun fr E => ?_
        refine seq_nil' ?_
        refine wp_seq (free_reg (B := T.tab107_6_b) (Vs := (.exact _ :: .exact _ :: .exact (cellAt a (i * 1)) :: .exact (.int .u8 ((l[i]).toNat : Int)) :: .exact _ :: .exact _ :: .exact (cellAt b (i * 1)) :: .exact (.int .u8 ((k[i]'(hl ▸ hi)).toNat : Int)) :: .exact (.bool true) :: [])) T.tab107_6_i E T.mixed T.tab107_6 rfl (AllS.lasts ⟨trivial, trivial, trivial, trivial, trivial, trivial, trivial, trivial, trivial, trivial⟩) ⟨fv rfl rfl (fun x w hx hk => run_move rfl rfl),
      fv rfl rfl (fun x w hx hk => run_move rfl rfl),
      fv rfl rfl (fun x w hx hk => run_indexR (i := i) rfl (M.ext ((Ext.drew _).trans hx)).fact.1 rfl rfl (rfl) (hi) T.slice54 T.size5),
      fv rfl rfl (fun x w hx hk => run_loadR rfl (M.ext ((Ext.drew _).trans hx)).fact.1 rfl T.one5 (by rw [Nat.mul_one]; exact bc_get hi)),
      fv rfl rfl (fun x w hx hk => run_move rfl rfl),
      fv rfl rfl (fun x w hx hk => run_move rfl rfl),
      fv rfl rfl (fun x w hx hk => run_indexR (i := i) rfl (M.ext ((Ext.drew _).trans hx)).fact.2 rfl rfl (rfl) ((by omega)) T.slice54 T.size5),
      fv rfl rfl (fun x w hx hk => run_loadR rfl (M.ext ((Ext.drew _).trans hx)).fact.2 rfl T.one5 (by rw [Nat.mul_one]; exact bc_get (l := k) (by omega))),
      fv rfl rfl (fun x w hx hk => tst rfl (by simp; exact fun h => hc (UInt8.toNat_inj.1 (Int.ofNat_inj.1 h)))), trivial⟩ ?_)
        intro x fr w hx hk E
        have M := M.ext hx
        refine then_normal ?_
        refine cond_true E rfl (rfl) ?_
        refine code_region ?_
        refine sw E (run_assignC rfl) fun fr E => ?_
        refine seq_nil' ?_
        refine wp_ret ?_
        refine block_ret ?_
        refine then_ret ?_
        refine then_ret ?_
        refine block_ret ?_
        refine then_ret ?_
        refine ret1 E rfl rfl ?_
        have e : decide (l = k) = false := decide_eq_false (fun h => hc (by subst h; rfl))
        rw [e]
        exact given M
    · refine code_region ?_
      refine sw (v := .bool false) E (tst rfl (decide_eq_false (by omega))) fun fr E => ?_
      refine seq_nil' ?_
      refine wp_seq ?_
      refine cond_false E rfl (rfl) ?_
      refine wp_exit ?_
      refine then_exit ?_
      refine then_exit ?_
      refine block_exit ?_
      refine then_normal ?_
      refine code_region ?_
      refine sw E (run_assignC rfl) fun fr E => ?_
      refine seq_nil' ?_
      refine wp_ret ?_
      refine ret1 E rfl rfl ?_
      have e : decide (l = k) = true := decide_eq_true (List.ext_getElem? fun j => by by_cases hj : j < i; exact heq j hj; rw [List.getElem?_eq_none (by omega), List.getElem?_eq_none (by omega)])
      rw [e]
      exact given M

theorem Equal_x {a b : Value} {l k : List UInt8} {w0 : World} (ha : Bytes w0 a l) (hb : Bytes w0 b k) (hz : l.length ≤ 35184372088832) : Gives Try.prog 107 [a, b] w0 (.bool (decide (l = k))) := by
  by_cases hl : l.length = k.length
  · exact Equal_eq ha hb hl hz
  · rw [decide_eq_false (fun h => hl (by rw [h]))]; exact Equal_ne ha hb hl

set_option maxRecDepth 100000 in
theorem head_x (k n : Int) (w0 : World) : Does Try.prog 55 [.int .i64 k, .int .i64 n] w0 [] (fun s : Value => s) (fun s => [.bytes 5 s ([UInt8.ofInt k] ++ be8 n)]) (fun _ => True) := by
  refine enter (n := 10) Try.func55 rfl rfl rfl ?_
  intro fr E
  have M : Mem w0 (feet []) [] (fun _ => True) w0 := Mem.begin (Has.nil w0) (fun _ _ => trivial)
  refine code_region ?_
  refine sw E (run_assignC rfl) fun fr E => ?_
  refine seq_nil' ?_
  refine code_region ?_
  refine mv E fun fr E => ?_
  refine sw (v := .int _ (((UInt8.ofInt k).toNat : Int))) E (num rfl ((ofInt_toNat k).symm)) fun fr E => ?_
  refine srow (sz := 1) (xs := bc [UInt8.ofInt k]) E M rfl rfl rfl rfl rfl (run_buildSliceA (us := [_]) (vs := [_]) rfl rfl rfl T.slice54 T.size5 T.zl5 rfl rfl rfl rfl rfl) (rfl) (Nat.le_refl _) (by decide) (rfl) fun t fr w M E => ?_
  refine mv E fun fr E => ?_
  refine scall E M rfl rfl rfl rfl rfl (run_call rfl rfl T.fn48) (Int_x n (M.reads 0 rfl : Bytes _ _ [UInt8.ofInt k]) (by simp)) rfl ?_
  rintro r fr w - M E
  refine ma E fun fr E => ?_
  refine seq_nil' ?_
  refine wp_ret ?_
  refine ret1 E rfl rfl ?_
  exact ⟨_, rfl, M.fin (sub1 (i := 0) rfl) trivial⟩

set_option maxRecDepth 100000 in
theorem Kind_short {b : Value} {l : List UInt8} {w0 : World} (hb : Bytes w0 b l) (hz : l.length ≤ 35184372088832) (h1 : l.length < 17) : Gives Try.prog 24 [b] w0 (.int .i64 0) := by
  refine enter (n := 22) Try.func24 rfl rfl rfl ?_
  intro fr E
  have M : Mem w0 (feet []) [] (fun w' => Bytes w' b l) w0 := Mem.begin (Has.nil w0) (fun w' h => hb.held0 h)
  refine code_region ?_
  refine sw E (run_assignC rfl) fun fr E => ?_
  refine seq_nil' ?_
  refine wp_seq ?_
  refine code_region ?_
  refine mv E fun fr E => ?_
  refine sw (v := .int .i64 _) E (run_lenR rfl rfl rfl rfl T.slice54 M.fact) fun fr E => ?_
  refine sw (v := .bool true) E (tst rfl (decide_eq_true (by omega))) fun fr E => ?_
  refine mv E fun fr E => ?_
  refine sno E rfl rfl rfl rfl fun fr E => ?_
  refine sno E rfl rfl rfl rfl fun fr E => ?_
  refine sno E rfl rfl rfl rfl fun fr E => ?_
  refine sno E rfl rfl rfl rfl fun fr E => ?_
  refine sw (v := .bool _) E (rfl) fun fr E => ?_
  refine mv E fun fr E => ?_
  refine sno E rfl rfl rfl rfl fun fr E => ?_
  refine sno E rfl rfl rfl rfl fun fr E => ?_
  refine sno E rfl rfl rfl rfl fun fr E => ?_
  refine sno E rfl rfl rfl rfl fun fr E => ?_
  refine sw (v := .bool _) E (rfl) fun fr E => ?_
  refine seq_nil' ?_
  refine cond_true E rfl (rfl) ?_
  refine code_region ?_
  refine sw E (run_assignC rfl) fun fr E => ?_
  refine seq_nil' ?_
  refine wp_ret ?_
  refine then_ret ?_
  refine ret1 E rfl rfl ?_
  exact given M

set_option maxRecDepth 100000 in
theorem Kind_low {b : Value} {l : List UInt8} {w0 : World} (hb : Bytes w0 b l) (hz : l.length ≤ 35184372088832) (h1 : 17 ≤ l.length) (h2 : (l[0]'(by omega)).toNat < 1) : Gives Try.prog 24 [b] w0 (.int .i64 0) := by
  refine enter (n := 22) Try.func24 rfl rfl rfl ?_
  intro fr E
  have M : Mem w0 (feet []) [] (fun w' => Bytes w' b l) w0 := Mem.begin (Has.nil w0) (fun w' h => hb.held0 h)
  refine code_region ?_
  refine sw E (run_assignC rfl) fun fr E => ?_
  refine seq_nil' ?_
  refine wp_seq ?_
  refine code_region ?_
  refine mv E fun fr E => ?_
  refine sw (v := .int .i64 _) E (run_lenR rfl rfl rfl rfl T.slice54 M.fact) fun fr E => ?_
  refine sw (v := .bool false) E (tst rfl (decide_eq_false (by omega))) fun fr E => ?_
  refine mv E fun fr E => ?_
  refine mv E fun fr E => ?_
  refine sw E (run_indexR (i := 0) rfl M.fact rfl rfl (rfl) ((by omega)) T.slice54 T.size5) fun fr E => ?_
  refine sw (v := .int .u8 ((l[0]'(by omega)).toNat : Int)) E (run_loadR rfl M.fact rfl T.one5 (by rw [Nat.mul_one]; exact bc_get (by omega))) fun fr E => ?_
  refine sw (v := .bool true) E (tst rfl (decide_eq_true (by omega))) fun fr E => ?_
  refine sw (v := .bool _) E (rfl) fun fr E => ?_
  refine mv E fun fr E => ?_
  refine sno E rfl rfl rfl rfl fun fr E => ?_
  refine sno E rfl rfl rfl rfl fun fr E => ?_
  refine sno E rfl rfl rfl rfl fun fr E => ?_
  refine sno E rfl rfl rfl rfl fun fr E => ?_
  refine sw (v := .bool _) E (rfl) fun fr E => ?_
  refine seq_nil' ?_
  refine cond_true E rfl (rfl) ?_
  refine code_region ?_
  refine sw E (run_assignC rfl) fun fr E => ?_
  refine seq_nil' ?_
  refine wp_ret ?_
  refine then_ret ?_
  refine ret1 E rfl rfl ?_
  exact given M

set_option maxRecDepth 100000 in
theorem Kind_high {b : Value} {l : List UInt8} {w0 : World} (hb : Bytes w0 b l) (hz : l.length ≤ 35184372088832) (h1 : 17 ≤ l.length) (h2 : ¬ (l[0]'(by omega)).toNat < 1) (h3 : 5 < (l[0]'(by omega)).toNat) : Gives Try.prog 24 [b] w0 (.int .i64 0) := by
  refine enter (n := 22) Try.func24 rfl rfl rfl ?_
  intro fr E
  have M : Mem w0 (feet []) [] (fun w' => Bytes w' b l) w0 := Mem.begin (Has.nil w0) (fun w' h => hb.held0 h)
  refine code_region ?_
  refine sw E (run_assignC rfl) fun fr E => ?_
  refine seq_nil' ?_
  refine wp_seq ?_
  refine code_region ?_
  refine mv E fun fr E => ?_
  refine sw (v := .int .i64 _) E (run_lenR rfl rfl rfl rfl T.slice54 M.fact) fun fr E => ?_
  refine sw (v := .bool false) E (tst rfl (decide_eq_false (by omega))) fun fr E => ?_
  refine mv E fun fr E => ?_
  refine mv E fun fr E => ?_
  refine sw E (run_indexR (i := 0) rfl M.fact rfl rfl (rfl) ((by omega)) T.slice54 T.size5) fun fr E => ?_
  refine sw (v := .int .u8 ((l[0]'(by omega)).toNat : Int)) E (run_loadR rfl M.fact rfl T.one5 (by rw [Nat.mul_one]; exact bc_get (by omega))) fun fr E => ?_
  refine sw (v := .bool false) E (tst rfl (decide_eq_false (by omega))) fun fr E => ?_
  refine sw (v := .bool _) E (rfl) fun fr E => ?_
  refine mv E fun fr E => ?_
  refine mv E fun fr E => ?_
  refine sw E (run_indexR (i := 0) rfl M.fact rfl rfl (rfl) ((by omega)) T.slice54 T.size5) fun fr E => ?_
  refine sw (v := .int .u8 ((l[0]'(by omega)).toNat : Int)) E (run_loadR rfl M.fact rfl T.one5 (by rw [Nat.mul_one]; exact bc_get (by omega))) fun fr E => ?_
  refine sw (v := .bool true) E (tst rfl (decide_eq_true (by omega))) fun fr E => ?_
  refine sw (v := .bool _) E (rfl) fun fr E => ?_
  refine seq_nil' ?_
  refine cond_true E rfl (rfl) ?_
  refine code_region ?_
  refine sw E (run_assignC rfl) fun fr E => ?_
  refine seq_nil' ?_
  refine wp_ret ?_
  refine then_ret ?_
  refine ret1 E rfl rfl ?_
  exact given M

set_option maxRecDepth 100000 in
theorem Kind_ok {b : Value} {l : List UInt8} {w0 : World} (hb : Bytes w0 b l) (hz : l.length ≤ 35184372088832) (h1 : 17 ≤ l.length) (h2 : ¬ (l[0]'(by omega)).toNat < 1) (h3 : ¬ 5 < (l[0]'(by omega)).toNat) : Gives Try.prog 24 [b] w0 (.int .i64 ((l[0]'(by omega)).toNat : Int)) := by
  refine enter (n := 22) Try.func24 rfl rfl rfl ?_
  intro fr E
  have M : Mem w0 (feet []) [] (fun w' => Bytes w' b l) w0 := Mem.begin (Has.nil w0) (fun w' h => hb.held0 h)
  refine code_region ?_
  refine sw E (run_assignC rfl) fun fr E => ?_
  refine seq_nil' ?_
  refine wp_seq ?_
  refine code_region ?_
  refine mv E fun fr E => ?_
  refine sw (v := .int .i64 _) E (run_lenR rfl rfl rfl rfl T.slice54 M.fact) fun fr E => ?_
  refine sw (v := .bool false) E (tst rfl (decide_eq_false (by omega))) fun fr E => ?_
  refine mv E fun fr E => ?_
  refine mv E fun fr E => ?_
  refine sw E (run_indexR (i := 0) rfl M.fact rfl rfl (rfl) ((by omega)) T.slice54 T.size5) fun fr E => ?_
  refine sw (v := .int .u8 ((l[0]'(by omega)).toNat : Int)) E (run_loadR rfl M.fact rfl T.one5 (by rw [Nat.mul_one]; exact bc_get (by omega))) fun fr E => ?_
  refine sw (v := .bool false) E (tst rfl (decide_eq_false (by omega))) fun fr E => ?_
  refine sw (v := .bool _) E (rfl) fun fr E => ?_
  refine mv E fun fr E => ?_
  refine mv E fun fr E => ?_
  refine sw E (run_indexR (i := 0) rfl M.fact rfl rfl (rfl) ((by omega)) T.slice54 T.size5) fun fr E => ?_
  refine sw (v := .int .u8 ((l[0]'(by omega)).toNat : Int)) E (run_loadR rfl M.fact rfl T.one5 (by rw [Nat.mul_one]; exact bc_get (by omega))) fun fr E => ?_
  refine sw (v := .bool false) E (tst rfl (decide_eq_false (by omega))) fun fr E => ?_
  refine sw (v := .bool _) E (rfl) fun fr E => ?_
  refine seq_nil' ?_
  refine cond_false E rfl (rfl) ?_
  refine wp_skip ?_
  refine then_normal ?_
  refine code_region ?_
  refine mv E fun fr E => ?_
  refine sw E (run_indexR (i := 0) rfl M.fact rfl rfl (rfl) ((by omega)) T.slice54 T.size5) fun fr E => ?_
  refine sw (v := .int .u8 ((l[0]'(by omega)).toNat : Int)) E (run_loadR rfl M.fact rfl T.one5 (by rw [Nat.mul_one]; exact bc_get (by omega))) fun fr E => ?_
  refine sw (v := .int _ (((l[0]'(by omega)).toNat : Int))) E (num rfl (i64_id (by omega) (by have := (l[0]'(by omega)).toNat_lt; omega))) fun fr E => ?_
  refine ma E fun fr E => ?_
  refine seq_nil' ?_
  refine wp_ret ?_
  refine ret1 E rfl rfl ?_
  exact given M

set_option maxRecDepth 100000 in
theorem right_neg {e n a : Int} {w0 : World} (h1 : ¬ (0 ≤ e ∧ 0 ≤ n ∧ 0 ≤ a)) : Gives Try.prog 54 [.int .i64 e, .int .i64 n, .int .i64 a] w0 (.bool false) := by
  refine enter (n := 22) Try.func54 rfl rfl rfl ?_
  intro fr E
  have M : Mem w0 (feet []) [] (fun _ => True) w0 := Mem.begin (Has.nil w0) (fun _ _ => trivial)
  refine code_region ?_
  refine sw E (run_assignC rfl) fun fr E => ?_
  refine seq_nil' ?_
  refine code_region ?_
  refine mv E fun fr E => ?_
  refine mv E fun fr E => ?_
  refine mv E fun fr E => ?_
  refine sw (v := .int .i64 (mn3 e n a)) E (num (run_min3 rfl rfl rfl rfl rfl) rfl) fun fr E => ?_
  refine sw (v := .bool false) E (tst rfl (decide_eq_false (by unfold mn3; (repeat' split) <;> omega))) fun fr E => ?_
  refine mv E fun fr E => ?_
  refine sno E rfl rfl rfl rfl fun fr E => ?_
  refine sno E rfl rfl rfl rfl fun fr E => ?_
  refine sno E rfl rfl rfl rfl fun fr E => ?_
  refine sno E rfl rfl rfl rfl fun fr E => ?_
  refine sw (v := .bool _) E (rfl) fun fr E => ?_
  refine mv E fun fr E => ?_
  refine sno E rfl rfl rfl rfl fun fr E => ?_
  refine sno E rfl rfl rfl rfl fun fr E => ?_
  refine sw (v := .bool _) E (rfl) fun fr E => ?_
  refine ma E fun fr E => ?_
  refine seq_nil' ?_
  refine wp_ret ?_
  refine ret1 E rfl rfl ?_
  exact given M

set_option maxRecDepth 100000 in
theorem right_big {e n a : Int} {w0 : World} (h1 : 0 ≤ e ∧ 0 ≤ n ∧ 0 ≤ a) (h2 : ¬ (e ≤ 1099511627776 ∧ n ≤ 1099511627776)) : Gives Try.prog 54 [.int .i64 e, .int .i64 n, .int .i64 a] w0 (.bool false) := by
  refine enter (n := 22) Try.func54 rfl rfl rfl ?_
  intro fr E
  have M : Mem w0 (feet []) [] (fun _ => True) w0 := Mem.begin (Has.nil w0) (fun _ _ => trivial)
  refine code_region ?_
  refine sw E (run_assignC rfl) fun fr E => ?_
  refine seq_nil' ?_
  refine code_region ?_
  refine mv E fun fr E => ?_
  refine mv E fun fr E => ?_
  refine mv E fun fr E => ?_
  refine sw (v := .int .i64 (mn3 e n a)) E (num (run_min3 rfl rfl rfl rfl rfl) rfl) fun fr E => ?_
  refine sw (v := .bool true) E (tst rfl (decide_eq_true (by unfold mn3; (repeat' split) <;> omega))) fun fr E => ?_
  refine mv E fun fr E => ?_
  refine mv E fun fr E => ?_
  refine mv E fun fr E => ?_
  refine sw (v := .int .i64 (mx2 e n)) E (num (run_max2 rfl rfl rfl rfl) rfl) fun fr E => ?_
  refine sw (v := .bool false) E (tst rfl (decide_eq_false (by unfold mx2; (repeat' split) <;> omega))) fun fr E => ?_
  refine sw (v := .bool _) E (rfl) fun fr E => ?_
  refine mv E fun fr E => ?_
  refine sno E rfl rfl rfl rfl fun fr E => ?_
  refine sno E rfl rfl rfl rfl fun fr E => ?_
  refine sw (v := .bool _) E (rfl) fun fr E => ?_
  refine ma E fun fr E => ?_
  refine seq_nil' ?_
  refine wp_ret ?_
  refine ret1 E rfl rfl ?_
  exact given M

set_option maxRecDepth 100000 in
theorem right_ok {e n a : Int} {w0 : World} (h1 : 0 ≤ e ∧ 0 ≤ n ∧ 0 ≤ a) (h2 : e ≤ 1099511627776 ∧ n ≤ 1099511627776) : Gives Try.prog 54 [.int .i64 e, .int .i64 n, .int .i64 a] w0 (.bool (decide (a < 4096))) := by
  refine enter (n := 22) Try.func54 rfl rfl rfl ?_
  intro fr E
  have M : Mem w0 (feet []) [] (fun _ => True) w0 := Mem.begin (Has.nil w0) (fun _ _ => trivial)
  refine code_region ?_
  refine sw E (run_assignC rfl) fun fr E => ?_
  refine seq_nil' ?_
  refine code_region ?_
  refine mv E fun fr E => ?_
  refine mv E fun fr E => ?_
  refine mv E fun fr E => ?_
  refine sw (v := .int .i64 (mn3 e n a)) E (num (run_min3 rfl rfl rfl rfl rfl) rfl) fun fr E => ?_
  refine sw (v := .bool true) E (tst rfl (decide_eq_true (by unfold mn3; (repeat' split) <;> omega))) fun fr E => ?_
  refine mv E fun fr E => ?_
  refine mv E fun fr E => ?_
  refine mv E fun fr E => ?_
  refine sw (v := .int .i64 (mx2 e n)) E (num (run_max2 rfl rfl rfl rfl) rfl) fun fr E => ?_
  refine sw (v := .bool true) E (tst rfl (decide_eq_true (by unfold mx2; (repeat' split) <;> omega))) fun fr E => ?_
  refine sw (v := .bool _) E (rfl) fun fr E => ?_
  refine mv E fun fr E => ?_
  refine mv E fun fr E => ?_
  refine sw (v := .bool _) E (rfl) fun fr E => ?_
  refine sw (v := .bool _) E (rfl) fun fr E => ?_
  refine ma E fun fr E => ?_
  refine seq_nil' ?_
  refine wp_ret ?_
  refine ret1 E rfl rfl ?_
  exact given M

def SRight (e n a : Int) : Prop := (0 ≤ e ∧ 0 ≤ n ∧ 0 ≤ a) ∧ (e ≤ 1099511627776 ∧ n ≤ 1099511627776) ∧ a < 4096
instance (e n a : Int) : Decidable (SRight e n a) := by unfold SRight; infer_instance
theorem right_x (e n a : Int) (w0 : World) : Gives Try.prog 54 [.int .i64 e, .int .i64 n, .int .i64 a] w0 (.bool (decide (SRight e n a))) := by
  by_cases h1 : 0 ≤ e ∧ 0 ≤ n ∧ 0 ≤ a
  · by_cases h2 : e ≤ 1099511627776 ∧ n ≤ 1099511627776
    · have e1 : decide (SRight e n a) = decide (a < 4096) := decide_eq_decide.2 ⟨fun h => h.2.2, fun h => ⟨h1, h2, h⟩⟩
      rw [e1]; exact right_ok h1 h2
    · rw [decide_eq_false (fun h => h2 h.2.1)]; exact right_big h1 h2
  · rw [decide_eq_false (fun h => h1 h.1)]; exact right_neg h1
end Go.Proofs.Ytnebjbgcibjohaa.K
end
section
namespace Go.Proofs.Ytnebjbgcibjohaa.K
open Go.RowKit Go.Rill Go.Proofs
set_option linter.unusedVariables false
set_option linter.unusedSimpArgs false
/-- A disk: what lasts, what its cache has, its power, how often it was written and read; ps: the bytes of all slices that it has. -/
structure Dsk where
  n : Nat
  lasts : List Value
  cache : List IE
  clock : Nat
  armed : Bool
  left : Int
  off : Bool
  writes : Int
  reads : List Int
  ps : List (Value × List UInt8)
def w64 (x : Int) : Int := IntKind.i64.wrap x
theorem ic_set (l : List Int) (j : Nat) (x : Int) : (ic l).set (j * 1) (.int .i64 x) = ic (l.set j x) := by
  rw [Nat.mul_one]
  simp only [ic, List.map_set]
theorem perm5 {α : Type} (a b c d e : α) : [a, b, c, d, e].Perm [e, a, b, c, d] := by
  have := List.perm_append_comm (l₁ := [a, b, c, d]) (l₂ := [e])
  exact this
structure Dsk.Ok (S : Dsk) : Prop where
  len : S.lasts.length = S.n
  rlen : S.reads.length = S.n
  max : S.n ≤ 4096
  lasts : ∀ v ∈ S.lasts, ∃ l, (v, l) ∈ S.ps ∧ l.length ≤ 1024
  cache : ∀ e ∈ S.cache, ∃ l, (e.val, l) ∈ S.ps ∧ l.length ≤ 1024
abbrev dsk (gd gm : Nat) (lv rv : Value) (S : Dsk) : List Ent := [.blk gd (.cells #[lv, .map (some gm), .bool S.armed, .int .i64 S.left, .bool S.off, .int .i64 S.writes, rv] 78 (0, 0)), .row 54 1 lv S.n S.lasts, .blk gm (.map (imap S.cache) S.clock), .row 3 1 rv S.n (ic S.reads), .pool S.ps]
set_option maxRecDepth 100000 in
theorem there_1 {gd gm : Nat} {lv rv : Value} {S : Dsk} {w0 : World} (H : Has w0 (dsk gd gm lv rv S)) (hS : S.Ok) {i : Int} (h : 0 ≤ i) : Does Try.prog 27 [.pointer (some ⟨gd, 0, none⟩), .int .i64 i] w0 (dsk gd gm lv rv S) (fun _ : Unit => .bool (decide (i < (S.n : Int)))) (fun _ => dsk gd gm lv rv S) (fun _ => True) := by
  refine enter (n := 16) Try.func27 rfl rfl rfl ?_
  intro fr E
  have M : Mem w0 (feet (dsk gd gm lv rv S)) (dsk gd gm lv rv S) (fun _ => True) w0 := Mem.begin H (fun _ _ => trivial)
  refine code_region ?_
  refine sw E (run_assignC rfl) fun fr E => ?_
  refine seq_nil' ?_
  refine code_region ?_
  refine mv E fun fr E => ?_
  refine sw (v := .bool true) E (tst rfl (decide_eq_true h)) fun fr E => ?_
  refine mv E fun fr E => ?_
  refine mv E fun fr E => ?_
  refine mv E fun fr E => ?_
  refine sw E (run_nilCheck rfl rfl) fun fr E => ?_
  refine sw (v := .pointer (some ⟨_, 0, none⟩)) E (run_fieldAddr rfl rfl T.fld78_0) fun fr E => ?_
  refine sw E (run_loadB rfl rfl T.one52 (M.row (i := 0) rfl) rfl) fun fr E => ?_
  refine sw (v := .int .i64 _) E (run_lenR rfl rfl rfl rfl T.slice52 (M.reads 1 rfl)) fun fr E => ?_
  refine sw (v := .bool _) E (rfl) fun fr E => ?_
  refine sw (v := .bool _) E (rfl) fun fr E => ?_
  refine ma E fun fr E => ?_
  refine seq_nil' ?_
  refine wp_ret ?_
  refine ret1 E rfl rfl ?_
  exact ⟨(), rfl, M.fin (List.Sublist.refl _) trivial⟩

set_option maxRecDepth 100000 in
theorem there_2 {gd gm : Nat} {lv rv : Value} {S : Dsk} {w0 : World} (H : Has w0 (dsk gd gm lv rv S)) (hS : S.Ok) {i : Int} (h : ¬ 0 ≤ i) : Does Try.prog 27 [.pointer (some ⟨gd, 0, none⟩), .int .i64 i] w0 (dsk gd gm lv rv S) (fun _ : Unit => .bool false) (fun _ => dsk gd gm lv rv S) (fun _ => True) := by
  refine enter (n := 16) Try.func27 rfl rfl rfl ?_
  intro fr E
  have M : Mem w0 (feet (dsk gd gm lv rv S)) (dsk gd gm lv rv S) (fun _ => True) w0 := Mem.begin H (fun _ _ => trivial)
  refine code_region ?_
  refine sw E (run_assignC rfl) fun fr E => ?_
  refine seq_nil' ?_
  refine code_region ?_
  refine mv E fun fr E => ?_
  refine sw (v := .bool false) E (tst rfl (decide_eq_false h)) fun fr E => ?_
  refine mv E fun fr E => ?_
  refine sno E rfl rfl rfl rfl fun fr E => ?_
  refine sno E rfl rfl rfl rfl fun fr E => ?_
  refine sno E rfl rfl rfl rfl fun fr E => ?_
  refine sno E rfl rfl rfl rfl fun fr E => ?_
  refine sno E rfl rfl rfl rfl fun fr E => ?_
  refine sno E rfl rfl rfl rfl fun fr E => ?_
  refine sno E rfl rfl rfl rfl fun fr E => ?_
  refine sw (v := .bool _) E (rfl) fun fr E => ?_
  refine ma E fun fr E => ?_
  refine seq_nil' ?_
  refine wp_ret ?_
  refine ret1 E rfl rfl ?_
  exact ⟨(), rfl, M.fin (List.Sublist.refl _) trivial⟩

theorem there_x {gd gm : Nat} {lv rv : Value} {S : Dsk} {w0 : World} (H : Has w0 (dsk gd gm lv rv S)) (hS : S.Ok) (i : Int) : Does Try.prog 27 [.pointer (some ⟨gd, 0, none⟩), .int .i64 i] w0 (dsk gd gm lv rv S) (fun _ : Unit => .bool (decide (0 ≤ i ∧ i < (S.n : Int)))) (fun _ => dsk gd gm lv rv S) (fun _ => True) := by
  by_cases h : 0 ≤ i
  · have e : decide (0 ≤ i ∧ i < (S.n : Int)) = decide (i < (S.n : Int)) := by simp [h]
    rw [e]; exact there_1 H hS h
  · have e : decide (0 ≤ i ∧ i < (S.n : Int)) = false := by simp [h]
    rw [e]; exact there_2 H hS h

set_option maxRecDepth 100000 in
theorem wrong_out {gd gm : Nat} {lv rv : Value} {S : Dsk} {w0 : World} (H : Has w0 (dsk gd gm lv rv S)) (hS : S.Ok) {i : Int} {b : Value} {l : List UInt8} (hb : Bytes w0 b l) (hap : ∀ g, b.ownBlock = some g → ¬ feet (dsk gd gm lv rv S) g) (h : ¬ (0 ≤ i ∧ i < (S.n : Int))) : Does Try.prog 29 [.pointer (some ⟨gd, 0, none⟩), .int .i64 i, b] w0 (dsk gd gm lv rv S) (fun _ : Unit => .int .i64 7) (fun _ => dsk gd gm lv rv S) (fun _ => True) := by
  refine enter (n := 16) Try.func29 rfl rfl rfl ?_
  intro fr E
  have M : Mem w0 (feet (dsk gd gm lv rv S)) (dsk gd gm lv rv S) (fun w' => Bytes w' b l) w0 := Mem.begin H (fun w' h => Reads.held hb h hap)
  refine code_region ?_
  refine sw E (run_assignC rfl) fun fr E => ?_
  refine seq_nil' ?_
  refine wp_seq ?_
  refine wp_block ?_
  refine code_region ?_
  refine mv E fun fr E => ?_
  refine mv E fun fr E => ?_
  refine scallI (dsk gd gm lv rv S) E M rfl rfl rfl rfl rfl (run_call rfl rfl T.fn27) rfl (fun H => there_x H hS i) ?_
  rintro _ fr w - M E
  rw [decide_eq_false h] at E
  refine sw (v := .bool _) E (rfl) fun fr E => ?_
  refine ma E fun fr E => ?_
  refine seq_nil' ?_
  refine cond_true E rfl (rfl) ?_
  refine code_region ?_
  refine sw E (run_assignC rfl) fun fr E => ?_
  refine seq_nil' ?_
  refine wp_ret ?_
  refine block_ret ?_
  refine then_ret ?_
  refine ret1 E rfl rfl ?_
  exact ⟨(), rfl, M.fin (List.Sublist.refl _) trivial⟩

set_option maxRecDepth 100000 in
theorem wrong_long {gd gm : Nat} {lv rv : Value} {S : Dsk} {w0 : World} (H : Has w0 (dsk gd gm lv rv S)) (hS : S.Ok) {i : Int} {b : Value} {l : List UInt8} (hb : Bytes w0 b l) (hap : ∀ g, b.ownBlock = some g → ¬ feet (dsk gd gm lv rv S) g) (h : 0 ≤ i ∧ i < (S.n : Int)) (hl : 1024 < l.length) : Does Try.prog 29 [.pointer (some ⟨gd, 0, none⟩), .int .i64 i, b] w0 (dsk gd gm lv rv S) (fun _ : Unit => .int .i64 3) (fun _ => dsk gd gm lv rv S) (fun _ => True) := by
  refine enter (n := 16) Try.func29 rfl rfl rfl ?_
  intro fr E
  have M : Mem w0 (feet (dsk gd gm lv rv S)) (dsk gd gm lv rv S) (fun w' => Bytes w' b l) w0 := Mem.begin H (fun w' h => Reads.held hb h hap)
  refine code_region ?_
  refine sw E (run_assignC rfl) fun fr E => ?_
  refine seq_nil' ?_
  refine wp_seq ?_
  refine wp_block ?_
  refine code_region ?_
  refine mv E fun fr E => ?_
  refine mv E fun fr E => ?_
  refine scallI (dsk gd gm lv rv S) E M rfl rfl rfl rfl rfl (run_call rfl rfl T.fn27) rfl (fun H => there_x H hS i) ?_
  rintro _ fr w - M E
  rw [decide_eq_true h] at E
  refine sw (v := .bool _) E (rfl) fun fr E => ?_
  refine ma E fun fr E => ?_
  refine seq_nil' ?_
  refine cond_false E rfl (rfl) ?_
  refine code_region ?_
  refine mv E fun fr E => ?_
  refine sw (v := .int .i64 _) E (run_lenR rfl rfl rfl rfl T.slice54 M.fact) fun fr E => ?_
  refine sw (v := .bool true) E (tst rfl (decide_eq_true (by omega))) fun fr E => ?_
  refine ma E fun fr E => ?_
  refine seq_nil' ?_
  refine cond_true E rfl (rfl) ?_
  refine code_region ?_
  refine sw E (run_assignC rfl) fun fr E => ?_
  refine seq_nil' ?_
  refine wp_ret ?_
  refine block_ret ?_
  refine then_ret ?_
  refine ret1 E rfl rfl ?_
  exact ⟨(), rfl, M.fin (List.Sublist.refl _) trivial⟩

set_option maxRecDepth 100000 in
theorem wrong_ok {gd gm : Nat} {lv rv : Value} {S : Dsk} {w0 : World} (H : Has w0 (dsk gd gm lv rv S)) (hS : S.Ok) {i : Int} {b : Value} {l : List UInt8} (hb : Bytes w0 b l) (hap : ∀ g, b.ownBlock = some g → ¬ feet (dsk gd gm lv rv S) g) (h : 0 ≤ i ∧ i < (S.n : Int)) (hl : ¬ 1024 < l.length) : Does Try.prog 29 [.pointer (some ⟨gd, 0, none⟩), .int .i64 i, b] w0 (dsk gd gm lv rv S) (fun _ : Unit => .int .i64 0) (fun _ => dsk gd gm lv rv S) (fun _ => True) := by
  refine enter (n := 16) Try.func29 rfl rfl rfl ?_
  intro fr E
  have M : Mem w0 (feet (dsk gd gm lv rv S)) (dsk gd gm lv rv S) (fun w' => Bytes w' b l) w0 := Mem.begin H (fun w' h => Reads.held hb h hap)
  refine code_region ?_
  refine sw E (run_assignC rfl) fun fr E => ?_
  refine seq_nil' ?_
  refine wp_seq ?_
  refine wp_block ?_
  refine code_region ?_
  refine mv E fun fr E => ?_
  refine mv E fun fr E => ?_
  refine scallI (dsk gd gm lv rv S) E M rfl rfl rfl rfl rfl (run_call rfl rfl T.fn27) rfl (fun H => there_x H hS i) ?_
  rintro _ fr w - M E
  rw [decide_eq_true h] at E
  refine sw (v := .bool _) E (rfl) fun fr E => ?_
  refine ma E fun fr E => ?_
  refine seq_nil' ?_
  refine cond_false E rfl (rfl) ?_
  refine code_region ?_
  refine mv E fun fr E => ?_
  refine sw (v := .int .i64 _) E (run_lenR rfl rfl rfl rfl T.slice54 M.fact) fun fr E => ?_
  refine sw (v := .bool false) E (tst rfl (decide_eq_false (by omega))) fun fr E => ?_
  refine ma E fun fr E => ?_
  refine seq_nil' ?_
  refine cond_false E rfl (rfl) ?_
  refine wp_skip ?_
  refine block_normal ?_
  refine then_normal ?_
  refine code_region ?_
  refine sw E (run_assignC rfl) fun fr E => ?_
  refine seq_nil' ?_
  refine wp_ret ?_
  refine ret1 E rfl rfl ?_
  exact ⟨(), rfl, M.fin (List.Sublist.refl _) trivial⟩

set_option maxRecDepth 100000 in
theorem Read_cached {gd gm : Nat} {lv rv : Value} {S : Dsk} {w0 : World} (H : Has w0 (dsk gd gm lv rv S)) (hS : S.Ok) {j : Nat} {v : Value} {l : List UInt8} (hj : j < S.n) (hp : (v, l) ∈ S.ps) (hl : l.length ≤ 1024) (hc : iget S.cache (j : Int) = some v) : Does Try.prog 12 [.pointer (some ⟨gd, 0, none⟩), .int .i64 (j : Int)] w0 (dsk gd gm lv rv S) (fun c : Value => .tuple #[c, .int .i64 0]) (fun c => .bytes 5 c l :: dsk gd gm lv rv { S with reads := S.reads.set j (w64 ((S.reads[j]'(by rw [hS.rlen]; exact hj)) + 1)) }) (fun _ => True) := by
  refine enter (n := 41) Try.func12 rfl rfl rfl ?_
  intro fr E
  have M : Mem w0 (feet (dsk gd gm lv rv S)) (dsk gd gm lv rv S) (fun _ => True) w0 := Mem.begin H (fun _ _ => trivial)
  refine code_region ?_
  refine sw E (run_assignC rfl) fun fr E => ?_
  refine sw E (run_assignC rfl) fun fr E => ?_
  refine seq_nil' ?_
  refine wp_seq ?_
  refine code_region ?_
  refine mv E fun fr E => ?_
  refine mv E fun fr E => ?_
  refine scallI (dsk gd gm lv rv S) E M rfl rfl rfl rfl rfl (run_call rfl rfl T.fn27) rfl (fun H => there_x H hS j) ?_
  rintro _ fr w - M E
  rw [decide_eq_true (by omega)] at E
  refine sw (v := .bool _) E (rfl) fun fr E => ?_
  refine seq_nil' ?_
  refine cond_false E rfl (rfl) ?_
  refine wp_skip ?_
  refine then_normal ?_
  refine code_region ?_
  refine mv E fun fr E => ?_
  refine sw E (run_nilCheck rfl rfl) fun fr E => ?_
  refine sw (v := .pointer (some ⟨_, 6, none⟩)) E (run_fieldAddr rfl rfl T.fld78_6) fun fr E => ?_
  refine sw E (run_loadB rfl rfl T.one51 (M.row (i := 0) rfl) rfl) fun fr E => ?_
  refine mv E fun fr E => ?_
  refine sw E (run_indexR (i := j) rfl (M.reads 3 rfl) rfl rfl (rfl) (hj) T.slice51 T.size3) fun fr E => ?_
  refine sw (v := .int .i64 (S.reads[j]'(by rw [hS.rlen]; exact hj))) E (run_loadR rfl (M.reads 3 rfl) rfl T.one3 (by rw [Nat.mul_one]; exact ic_get (by rw [hS.rlen]; exact hj))) fun fr E => ?_
  refine sw (v := .int _ (w64 ((S.reads[j]'(by rw [hS.rlen]; exact hj)) + 1))) E (num rfl (rfl)) fun fr E => ?_
  refine sw E (run_indexR (i := j) rfl (M.reads 3 rfl) rfl rfl (rfl) (hj) T.slice51 T.size3) fun fr E => ?_
  refine ssetR (i := 3) (k := (j * 1)) (xs' := ic (S.reads.set j (w64 ((S.reads[j]'(by rw [hS.rlen]; exact hj)) + 1)))) E M rfl rfl rfl rfl rfl rfl rfl rfl T.size3 (by omega) rfl (ic_set _ _ _) fun fr w M E => ?_
  refine seq_nil' ?_
  refine wp_seq ?_
  refine code_region ?_
  refine mv E fun fr E => ?_
  refine sw E (run_nilCheck rfl rfl) fun fr E => ?_
  refine sw (v := .pointer (some ⟨_, 1, none⟩)) E (run_fieldAddr rfl rfl T.fld78_1) fun fr E => ?_
  refine sw (v := .map _) E (run_loadB rfl rfl T.one76 (M.row (i := 0) rfl) rfl) fun fr E => ?_
  refine mv E fun fr E => ?_
  refine sw (v := .tuple #[v, .bool true]) E (run_lookupI (v := v) (b := true) rfl rfl rfl T.map76 T.zero54 (M.row (i := 2) rfl) (by rw [hc])) fun fr E => ?_
  refine mv E fun fr E => ?_
  refine sw E (run_extract rfl rfl rfl) fun fr E => ?_
  refine sw E (run_extract rfl rfl rfl) fun fr E => ?_
  refine ma E fun fr E => ?_
  refine ma E fun fr E => ?_
  refine seq_nil' ?_
  refine code_region ?_
  refine mv E fun fr E => ?_
  refine seq_nil' ?_
  refine cond_true E rfl (rfl) ?_
  refine code_region ?_
  refine mv E fun fr E => ?_
  refine scall E M rfl rfl rfl rfl rfl (run_call rfl rfl T.fn28) (Clone_x (b := v) (l := l) (M.pooled (i := 4) rfl hp) (by omega)) rfl ?_
  rintro cl fr w - M E
  refine ma E fun fr E => ?_
  refine sw E (run_assignC rfl) fun fr E => ?_
  refine seq_nil' ?_
  refine wp_ret ?_
  refine then_ret ?_
  refine ret2 E rfl rfl rfl ?_
  exact ⟨_, rfl, M.fin (List.Sublist.refl _) trivial⟩

set_option maxRecDepth 100000 in
theorem Read_lasts {gd gm : Nat} {lv rv : Value} {S : Dsk} {w0 : World} (H : Has w0 (dsk gd gm lv rv S)) (hS : S.Ok) {j : Nat} {v : Value} {l : List UInt8} (hj : j < S.n) (hp : (v, l) ∈ S.ps) (hl : l.length ≤ 1024) (hc : iget S.cache (j : Int) = none) (hv : S.lasts[j]? = some v) : Does Try.prog 12 [.pointer (some ⟨gd, 0, none⟩), .int .i64 (j : Int)] w0 (dsk gd gm lv rv S) (fun c : Value => .tuple #[c, .int .i64 0]) (fun c => .bytes 5 c l :: dsk gd gm lv rv { S with reads := S.reads.set j (w64 ((S.reads[j]'(by rw [hS.rlen]; exact hj)) + 1)) }) (fun _ => True) := by
  refine enter (n := 41) Try.func12 rfl rfl rfl ?_
  intro fr E
  have M : Mem w0 (feet (dsk gd gm lv rv S)) (dsk gd gm lv rv S) (fun _ => True) w0 := Mem.begin H (fun _ _ => trivial)
  refine code_region ?_
  refine sw E (run_assignC rfl) fun fr E => ?_
  refine sw E (run_assignC rfl) fun fr E => ?_
  refine seq_nil' ?_
  refine wp_seq ?_
  refine code_region ?_
  refine mv E fun fr E => ?_
  refine mv E fun fr E => ?_
  refine scallI (dsk gd gm lv rv S) E M rfl rfl rfl rfl rfl (run_call rfl rfl T.fn27) rfl (fun H => there_x H hS j) ?_
  rintro _ fr w - M E
  rw [decide_eq_true (by omega)] at E
  refine sw (v := .bool _) E (rfl) fun fr E => ?_
  refine seq_nil' ?_
  refine cond_false E rfl (rfl) ?_
  refine wp_skip ?_
  refine then_normal ?_
  refine code_region ?_
  refine mv E fun fr E => ?_
  refine sw E (run_nilCheck rfl rfl) fun fr E => ?_
  refine sw (v := .pointer (some ⟨_, 6, none⟩)) E (run_fieldAddr rfl rfl T.fld78_6) fun fr E => ?_
  refine sw E (run_loadB rfl rfl T.one51 (M.row (i := 0) rfl) rfl) fun fr E => ?_
  refine mv E fun fr E => ?_
  refine sw E (run_indexR (i := j) rfl (M.reads 3 rfl) rfl rfl (rfl) (hj) T.slice51 T.size3) fun fr E => ?_
  refine sw (v := .int .i64 (S.reads[j]'(by rw [hS.rlen]; exact hj))) E (run_loadR rfl (M.reads 3 rfl) rfl T.one3 (by rw [Nat.mul_one]; exact ic_get (by rw [hS.rlen]; exact hj))) fun fr E => ?_
  refine sw (v := .int _ (w64 ((S.reads[j]'(by rw [hS.rlen]; exact hj)) + 1))) E (num rfl (rfl)) fun fr E => ?_
  refine sw E (run_indexR (i := j) rfl (M.reads 3 rfl) rfl rfl (rfl) (hj) T.slice51 T.size3) fun fr E => ?_
  refine ssetR (i := 3) (k := (j * 1)) (xs' := ic (S.reads.set j (w64 ((S.reads[j]'(by rw [hS.rlen]; exact hj)) + 1)))) E M rfl rfl rfl rfl rfl rfl rfl rfl T.size3 (by omega) rfl (ic_set _ _ _) fun fr w M E => ?_
  refine seq_nil' ?_
  refine wp_seq ?_
  refine code_region ?_
  refine mv E fun fr E => ?_
  refine sw E (run_nilCheck rfl rfl) fun fr E => ?_
  refine sw (v := .pointer (some ⟨_, 1, none⟩)) E (run_fieldAddr rfl rfl T.fld78_1) fun fr E => ?_
  refine sw (v := .map _) E (run_loadB rfl rfl T.one76 (M.row (i := 0) rfl) rfl) fun fr E => ?_
  refine mv E fun fr E => ?_
  refine sw (v := .tuple #[.slice none 0 0, .bool false]) E (run_lookupI (v := .slice none 0 0) (b := false) rfl rfl rfl T.map76 T.zero54 (M.row (i := 2) rfl) (by rw [hc])) fun fr E => ?_
  refine mv E fun fr E => ?_
  refine sw E (run_extract rfl rfl rfl) fun fr E => ?_
  refine sw E (run_extract rfl rfl rfl) fun fr E => ?_
  refine ma E fun fr E => ?_
  refine ma E fun fr E => ?_
  refine seq_nil' ?_
  refine code_region ?_
  refine mv E fun fr E => ?_
  refine seq_nil' ?_
  refine cond_false E rfl (rfl) ?_
  refine wp_skip ?_
  refine then_normal ?_
  refine code_region ?_
  refine mv E fun fr E => ?_
  refine sw E (run_nilCheck rfl rfl) fun fr E => ?_
  refine sw (v := .pointer (some ⟨_, 0, none⟩)) E (run_fieldAddr rfl rfl T.fld78_0) fun fr E => ?_
  refine sw E (run_loadB rfl rfl T.one52 (M.row (i := 0) rfl) rfl) fun fr E => ?_
  refine mv E fun fr E => ?_
  refine sw E (run_indexR (i := j) rfl (M.reads 1 rfl) rfl rfl (rfl) (hj) T.slice52 T.size54) fun fr E => ?_
  refine sw (v := v) E (run_loadR rfl (M.reads 1 rfl) rfl T.one54 (by rw [Nat.mul_one]; exact hv)) fun fr E => ?_
  refine scall E M rfl rfl rfl rfl rfl (run_call rfl rfl T.fn28) (Clone_x (b := v) (l := l) (M.pooled (i := 4) rfl hp) (by omega)) rfl ?_
  rintro cl fr w - M E
  refine ma E fun fr E => ?_
  refine sw E (run_assignC rfl) fun fr E => ?_
  refine seq_nil' ?_
  refine wp_ret ?_
  refine ret2 E rfl rfl rfl ?_
  exact ⟨_, rfl, M.fin (List.Sublist.refl _) trivial⟩
end Go.Proofs.Ytnebjbgcibjohaa.K
end
section
namespace Go.Proofs.Ytnebjbgcibjohaa.K
open Go.RowKit Go.Rill Go.Proofs
set_option linter.unusedVariables false
set_option linter.unusedSimpArgs false
/-- The first so many of these, one behind the other. -/
def pl (ps : List (Value × List UInt8)) (i : Nat) : List UInt8 := ((ps.take i).map (·.2)).flatten
theorem pl_step {ps : List (Value × List UInt8)} {i : Nat} (h : i < ps.length) : pl ps (i + 1) = pl ps i ++ (ps[i]).2 := by
  unfold pl
  rw [List.take_succ_eq_append_getElem h, List.map_append, List.flatten_append]
  simp
theorem pl_len {ps : List (Value × List UInt8)} {i : Nat} (h : i < ps.length) : (pl ps (i + 1)).length = (pl ps i).length + (ps[i]).2.length := by rw [pl_step h, List.length_append]
theorem pl_le {ps : List (Value × List UInt8)} : ∀ (j i : Nat), i + j ≤ ps.length → (pl ps i).length ≤ (pl ps (i + j)).length
  | 0, i, _ => Nat.le_refl _
  | j + 1, i, h => Nat.le_trans (pl_le j i (by omega)) (by rw [show i + (j + 1) = i + j + 1 by omega, pl_len (by omega)]; omega)
theorem pl_mono {ps : List (Value × List UInt8)} {i : Nat} (h : i < ps.length) : (pl ps (i + 1)).length ≤ (pl ps ps.length).length := by
  have := pl_le (ps := ps) (ps.length - (i + 1)) (i + 1) (by omega)
  rwa [show i + 1 + (ps.length - (i + 1)) = ps.length by omega] at this
theorem tmod_bounds (k : Int) {m : Int} (h : 0 < m) : -m < k.tmod m ∧ k.tmod m < m := by
  have h1 := Int.tmod_lt_of_pos k h
  have h2 := Int.tmod_lt_of_pos (-k) h
  rw [Int.neg_tmod] at h2
  omega
theorem run_remK {P : Program} {ρ : Operand → Value} {o : Oper} {w : World} {t t' : TypeId} {X Y : Operand} {x y : Int} (ho : o.op = .binOp .rem t X Y t') (hX : ρ X = .int .i64 x) (hY : ρ Y = .int .i64 y) (h0 : y ≠ 0) (h1 : 0 < y) : (execOp ρ o).run P w = .ok (.value (.int .i64 (x.tmod y))) w := by
  have hg : (eqGuard .rem t X Y (.int .i64 x) (.int .i64 y)).run P w = .ok () w := rfl
  have hb : (binOp .rem t (.int .i64 x) (.int .i64 y)).run P w = .ok (.int .i64 (x.tmod y)) w := by
    simp [binOp, Op.intDiv, h0]
  simp only [execOp, ho, hX, hY, Sem.run_bind, hg, Result.andThen_ok, hb]
  rfl
set_option maxRecDepth 100000 in
theorem Grow_0 (w0 : World) : Does Try.prog 110 [.slice none 0 0, .int .i64 0] w0 [] (fun s : Value => s) (fun s => [.bytes 5 s []]) (fun _ => True) := by
  refine enter (n := 27) Try.func110 rfl rfl rfl ?_
  intro fr E
  have M : Mem w0 (feet []) [] (fun _ => True) w0 := Mem.begin (Has.nil w0) (fun _ _ => trivial)
  refine code_region ?_
  refine sw E (run_assignC rfl) fun fr E => ?_
  refine seq_nil' ?_
  refine wp_seq ?_
  refine code_region ?_
  refine mv E fun fr E => ?_
  refine sw (v := .bool false) E (tst rfl (decide_eq_false (by omega))) fun fr E => ?_
  refine seq_nil' ?_
  refine cond_false E rfl (rfl) ?_
  refine wp_skip ?_
  refine then_normal ?_
  refine wp_seq ?_
  refine code_region ?_
  refine mv E fun fr E => ?_
  refine mv E fun fr E => ?_
  refine sw (v := .int .i64 0) E (run_capNil rfl rfl rfl rfl T.slice54) fun fr E => ?_
  refine mv E fun fr E => ?_
  refine sw (v := .int .i64 _) E (run_lenR rfl rfl rfl rfl T.slice54 (Bytes.nil _)) fun fr E => ?_
  refine sw (v := .int _ (0)) E (num rfl (rfl)) fun fr E => ?_
  refine sw (v := .int _ (0)) E (num rfl (rfl)) fun fr E => ?_
  refine ma E fun fr E => ?_
  refine seq_nil' ?_
  refine code_region ?_
  refine mv E fun fr E => ?_
  refine sw (v := .bool false) E (tst rfl (decide_eq_false (by omega))) fun fr E => ?_
  refine seq_nil' ?_
  refine cond_false E rfl (rfl) ?_
  refine wp_skip ?_
  refine then_normal ?_
  refine code_region ?_
  refine mv E fun fr E => ?_
  refine ma E fun fr E => ?_
  refine seq_nil' ?_
  refine wp_ret ?_
  refine ret1 E rfl rfl ?_
  have M := M.nilRow 5
  exact ⟨_, rfl, M.fin (.refl _) trivial⟩

set_option maxRecDepth 100000 in
theorem Grow_m {m : Nat} {w0 : World} (h0 : 0 < m) (hz : m ≤ 35184372088832) : Does Try.prog 110 [.slice none 0 0, .int .i64 (m : Int)] w0 [] (fun s : Value => s) (fun s => [.bytes 5 s []]) (fun _ => True) := by
  refine enter (n := 27) Try.func110 rfl rfl rfl ?_
  intro fr E
  have M : Mem w0 (feet []) [] (fun _ => True) w0 := Mem.begin (Has.nil w0) (fun _ _ => trivial)
  refine code_region ?_
  refine sw E (run_assignC rfl) fun fr E => ?_
  refine seq_nil' ?_
  refine wp_seq ?_
  refine code_region ?_
  refine mv E fun fr E => ?_
  refine sw (v := .bool false) E (tst rfl (decide_eq_false (by omega))) fun fr E => ?_
  refine seq_nil' ?_
  refine cond_false E rfl (rfl) ?_
  refine wp_skip ?_
  refine then_normal ?_
  refine wp_seq ?_
  refine code_region ?_
  refine mv E fun fr E => ?_
  refine mv E fun fr E => ?_
  refine sw (v := .int .i64 0) E (run_capNil rfl rfl rfl rfl T.slice54) fun fr E => ?_
  refine mv E fun fr E => ?_
  refine sw (v := .int .i64 _) E (run_lenR rfl rfl rfl rfl T.slice54 (Bytes.nil _)) fun fr E => ?_
  refine sw (v := .int _ (0)) E (num rfl (rfl)) fun fr E => ?_
  refine sw (v := .int _ ((m : Int))) E (num rfl (i64_id (x := (m : Int) - 0) (by omega) (by omega) |>.trans (by omega))) fun fr E => ?_
  refine ma E fun fr E => ?_
  refine seq_nil' ?_
  refine code_region ?_
  refine mv E fun fr E => ?_
  refine sw (v := .bool true) E (tst rfl (decide_eq_true (by omega))) fun fr E => ?_
  refine seq_nil' ?_
  refine cond_true E rfl (rfl) ?_
  refine code_last ?_
  refine mv E fun fr E => ?_
  refine mv E fun fr E => ?_
  refine sw (v := .int .i64 0) E (run_capNil rfl rfl rfl rfl T.slice54) fun fr E => ?_
  refine sw E (run_sliceR (lo := 0) (hi := 0) rfl (Bytes.nil _) rfl T.slice54 T.size5 (rfl) (⟨_, _, rfl, rfl⟩) (Nat.le_refl _) (Nat.le_refl _)) fun fr E => ?_
  refine mv E fun fr E => ?_
  refine sappzB (m := m) E M rfl rfl rfl rfl rfl rfl rfl rfl rfl rfl rfl T.slice54 T.intT T.zt5 T.zc5 T.by5 h0 (by omega) fun z fr w M E => ?_
  refine mv E fun fr E => ?_
  refine sw (v := .int .i64 _) E (run_lenR rfl rfl rfl rfl T.slice54 (Bytes.nil _)) fun fr E => ?_
  refine sw E (run_sliceR (lo := 0) (hi := 0) rfl (M.reads 0 rfl) rfl T.slice54 T.size5 rfl ⟨_, _, rfl, rfl⟩ (Nat.le_refl _) (Nat.zero_le _)) fun fr E => ?_
  refine ma E fun fr E => ?_
  refine seq_nil ?_
  refine then_normal ?_
  refine code_region ?_
  refine mv E fun fr E => ?_
  refine ma E fun fr E => ?_
  refine seq_nil' ?_
  refine wp_ret ?_
  refine ret1 E rfl rfl ?_
  have M := (M.cutRow 0 0 rfl (Nat.zero_le _)).as (L' := [.bytes 5 (cutV 1 z 0 0) []]) rfl
  exact ⟨_, rfl, M.fin (.refl _) trivial⟩

theorem Grow_x (m : Nat) (w0 : World) (hz : m ≤ 35184372088832) : Does Try.prog 110 [.slice none 0 0, .int .i64 (m : Int)] w0 [] (fun s : Value => s) (fun s => [.bytes 5 s []]) (fun _ => True) := by
  rcases Nat.eq_zero_or_pos m with rfl | h
  · exact Grow_0 w0
  · exact Grow_m h hz

set_option maxRecDepth 100000 in
theorem Concat_x {b : Value} {ps : List (Value × List UInt8)} {w0 : World} (hr : Reads 1 w0 b ps.length (ps.map (·.1))) (hb : ∀ p ∈ ps, Bytes w0 p.1 p.2) (hn : ps.length ≤ 1000) (hz : (pl ps ps.length).length ≤ 35184372088832) : Does Try.prog 108 [b] w0 [] (fun s : Value => s) (fun s => [.bytes 5 s (pl ps ps.length)]) (fun _ => True) := by
  refine enter (n := 36) Try.func108 rfl rfl rfl ?_
  intro fr E
  have M : Mem w0 (feet []) [] (fun w' => Reads 1 w' b ps.length (ps.map (·.1)) ∧ ∀ p ∈ ps, Bytes w' p.1 p.2) w0 := Mem.begin (Has.nil w0) (fun w' h => ⟨hr.held0 h, fun p hp => (hb p hp).held0 h⟩)
  refine code_region ?_
  refine sw E (run_assignC rfl) fun fr E => ?_
  refine seq_nil' ?_
  refine code_region ?_
  refine sw E (run_assignC rfl) fun fr E => ?_
  refine seq_nil' ?_
  refine wp_seq ?_
  refine code_region ?_
  refine mv E fun fr E => ?_
  refine sw (v := .int .i64 _) E (run_lenR rfl rfl rfl rfl T.slice52 M.fact.1) fun fr E => ?_
  refine sw E (run_moveC rfl) fun fr E => ?_
  refine seq_nil' ?_
  refine wp_block ?_
  refine loop_dec (fun d fr w => ∃ i : Nat, d = ps.length - i ∧ i ≤ ps.length ∧ Env [(11, .int .i64 i), (10, .int .i64 ps.length), (9, b), (3, .int .i64 ((pl ps i).length : Int)), (0, b)] 36 fr ∧ Mem w0 (feet []) [] (fun w' => Reads 1 w' b ps.length (ps.map (·.1)) ∧ ∀ p ∈ ps, Bytes w' p.1 p.2) w) (ps.length) ?_ ?_
  · refine ⟨0, rfl, Nat.zero_le _, (((((Env.nil E).add E (t := 0) rfl).add E (t := 3) rfl).add E (t := 9) rfl).add E (t := 10) rfl).add E (t := 11) rfl, M⟩
  · clear E M
    rintro d fr w ⟨i, rfl, hle, E, M⟩
    by_cases hi : i < ps.length
    · have hm := pl_mono (ps := ps) hi
      refine code_region ?_
      refine sw (v := .bool true) E (tst rfl (decide_eq_true (by omega))) fun fr E => ?_
      refine seq_nil' ?_
      refine wp_seq ?_
      refine cond_true E rfl (rfl) ?_
      refine wp_skip ?_
      refine then_normal ?_
      refine wp_seq ?_
      refine wp_block ?_
      refine code_region ?_
      refine sw E (run_indexR (i := i) rfl M.fact.1 rfl rfl (rfl) (hi) T.slice52 T.size54) fun fr E => ?_
      refine sw (v := (ps[i]).1) E (run_loadR rfl M.fact.1 rfl T.one54 (by rw [Nat.mul_one, List.getElem?_map, List.getElem?_eq_getElem hi]; rfl)) fun fr E => ?_
      refine ma E fun fr E => ?_
      refine seq_nil' ?_
      refine code_region ?_
      refine mv E fun fr E => ?_
      refine mv E fun fr E => ?_
      refine sw (v := .int .i64 _) E (run_lenR rfl rfl rfl rfl T.slice54 (M.fact.2 _ (List.getElem_mem hi))) fun fr E => ?_
      refine sw (v := .int _ (((pl ps (i + 1)).length : Int))) E (num rfl ((i64_id (by have := pl_len hi; omega) (by have := pl_len hi; omega)).trans (by have := pl_len hi; omega))) fun fr E => ?_
      refine ma E fun fr E => ?_
      refine seq_nil' ?_
      refine code_region ?_
      refine mv E fun fr E => ?_
      refine sw (v := .bool false) E (tst rfl (decide_eq_false (by omega))) fun fr E => ?_
      refine seq_nil' ?_
      refine cond_false E rfl (rfl) ?_
      refine wp_skip ?_
      refine block_normal ?_
      refine then_normal ?_
      refine code_last ?_
      refine sw (v := .int _ (((i + 1 : Nat) : Int))) E (num rfl ((i64_id (by omega) (by omega)).trans (by omega))) fun fr E => ?_
      refine mv E fun fr E => ?_
      refine seq_nil ?_
      refine then_any ?_
      refine ⟨ps.length - (i + 1), by omega, i + 1, rfl, by omega, (((((Env.nil E).add E (t := 0) rfl).add E (t := 3) rfl).add E (t := 9) rfl).add E (t := 10) rfl).add E (t := 11) rfl, M⟩
    · obtain rfl : i = ps.length := by omega
      refine code_region ?_
      refine sw (v := .bool false) E (tst rfl (decide_eq_false (by omega))) fun fr E => ?_
      refine seq_nil' ?_
      refine wp_seq ?_
      refine cond_false E rfl (rfl) ?_
      refine wp_exit ?_
      refine then_exit ?_
      refine then_exit ?_
      refine block_exit ?_
      refine then_normal ?_
      refine code_region ?_
      refine mv E fun fr E => ?_
      refine scall E M rfl rfl rfl rfl rfl (run_call rfl rfl T.fn110) (Grow_x _ _ hz) rfl ?_
      rintro gv fr w - M E
      refine ma E fun fr E => ?_
      refine seq_nil' ?_
      refine wp_seq ?_
      refine code_region ?_
      refine mv E fun fr E => ?_
      refine sw (v := .int .i64 _) E (run_lenR rfl rfl rfl rfl T.slice52 M.fact.1) fun fr E => ?_
      refine sw E (run_moveC rfl) fun fr E => ?_
      refine seq_nil' ?_
      refine wp_block ?_
      refine loop_dec (fun d fr w => ∃ (i : Nat) (v : Value), d = ps.length - i ∧ i ≤ ps.length ∧ Env [(27, .int .i64 i), (26, .int .i64 ps.length), (25, b), (6, v), (0, b)] 36 fr ∧ Mem w0 (feet []) [.bytes 5 v (pl ps i)] (fun w' => Reads 1 w' b ps.length (ps.map (·.1)) ∧ ∀ p ∈ ps, Bytes w' p.1 p.2) w) (ps.length) ?_ ?_
      · refine ⟨0, gv, rfl, Nat.zero_le _, (((((Env.nil E).add E (t := 0) rfl).add E (t := 6) rfl).add E (t := 25) rfl).add E (t := 26) rfl).add E (t := 27) rfl, M⟩
      · clear E M
        rintro d fr w ⟨i, v, rfl, hle, E, M⟩
        by_cases hi : i < ps.length
        · have hm := pl_mono (ps := ps) hi
          have hlen := pl_len hi
          refine code_region ?_
          refine sw (v := .bool true) E (tst rfl (decide_eq_true (by omega))) fun fr E => ?_
          refine seq_nil' ?_
          refine wp_seq ?_
          refine cond_true E rfl (rfl) ?_
          refine wp_skip ?_
          refine then_normal ?_
          refine wp_seq ?_
          refine wp_block ?_
          refine code_region ?_
          refine sw E (run_indexR (i := i) rfl M.fact.1 rfl rfl (rfl) (hi) T.slice52 T.size54) fun fr E => ?_
          refine sw (v := (ps[i]).1) E (run_loadR rfl M.fact.1 rfl T.one54 (by rw [Nat.mul_one, List.getElem?_map, List.getElem?_eq_getElem hi]; rfl)) fun fr E => ?_
          refine ma E fun fr E => ?_
          refine seq_nil' ?_
          refine code_last ?_
          refine mv E fun fr E => ?_
          refine mv E fun fr E => ?_
          refine sappB (i := 0) E M rfl rfl rfl rfl rfl rfl rfl rfl rfl rfl rfl T.slice54 T.slice54 T.zt5 T.by5 (M.fact.2 _ (List.getElem_mem hi)) (by omega) fun v fr w M E => ?_
          refine ma E fun fr E => ?_
          refine seq_nil ?_
          refine block_normal ?_
          refine then_normal ?_
          refine code_last ?_
          refine sw (v := .int _ (((i + 1 : Nat) : Int))) E (num rfl ((i64_id (by omega) (by omega)).trans (by omega))) fun fr E => ?_
          refine mv E fun fr E => ?_
          refine seq_nil ?_
          refine then_any ?_
          refine ⟨ps.length - (i + 1), by omega, i + 1, _, rfl, by omega, (((((Env.nil E).add E (t := 0) rfl).add E (t := 6) rfl).add E (t := 25) rfl).add E (t := 26) rfl).add E (t := 27) rfl, M.as (by rw [pl_step hi]; rfl)⟩
        · obtain rfl : i = ps.length := by omega
          refine code_region ?_
          refine sw (v := .bool false) E (tst rfl (decide_eq_false (by omega))) fun fr E => ?_
          refine seq_nil' ?_
          refine wp_seq ?_
          refine cond_false E rfl (rfl) ?_
          refine wp_exit ?_
          refine then_exit ?_
          refine then_exit ?_
          refine block_exit ?_
          refine then_normal ?_
          refine code_region ?_
          refine mv E fun fr E => ?_
          refine ma E fun fr E => ?_
          refine seq_nil' ?_
          refine wp_ret ?_
          refine ret1 E rfl rfl ?_
          exact ⟨_, rfl, M.fin (.refl _) trivial⟩


set_option maxRecDepth 100000 in
theorem Pick_pos {k m : Int} {w0 : World} (hm : 0 < m) (hz : m ≤ 4611686018427387904) (h2 : ¬ k.tmod m < 0) : Gives Try.prog 13 [.int .i64 k, .int .i64 m] w0 (.int .i64 (k.tmod m)) := by
  refine enter (n := 16) Try.func13 rfl rfl rfl ?_
  intro fr E
  have M : Mem w0 (feet []) [] (fun _ => True) w0 := Mem.begin (Has.nil w0) (fun _ _ => trivial)
  refine code_region ?_
  refine sw E (run_assignC rfl) fun fr E => ?_
  refine seq_nil' ?_
  refine wp_seq ?_
  refine code_region ?_
  refine mv E fun fr E => ?_
  refine sw (v := .bool false) E (tst rfl (decide_eq_false (by omega))) fun fr E => ?_
  refine seq_nil' ?_
  refine cond_false E rfl (rfl) ?_
  refine wp_skip ?_
  refine then_normal ?_
  refine code_region ?_
  refine mv E fun fr E => ?_
  refine mv E fun fr E => ?_
  refine sw (v := .int .i64 (k.tmod m)) E (run_remK rfl rfl rfl (by omega) (by omega)) fun fr E => ?_
  refine ma E fun fr E => ?_
  refine seq_nil' ?_
  refine wp_seq ?_
  refine code_region ?_
  refine mv E fun fr E => ?_
  refine sw (v := .bool false) E (tst rfl (decide_eq_false h2)) fun fr E => ?_
  refine seq_nil' ?_
  refine cond_false E rfl (rfl) ?_
  refine wp_skip ?_
  refine then_normal ?_
  refine code_region ?_
  refine mv E fun fr E => ?_
  refine ma E fun fr E => ?_
  refine seq_nil' ?_
  refine wp_ret ?_
  refine ret1 E rfl rfl ?_
  exact given M

set_option maxRecDepth 100000 in
theorem Pick_neg {k m : Int} {w0 : World} (hm : 0 < m) (hz : m ≤ 4611686018427387904) (h2 : k.tmod m < 0) : Gives Try.prog 13 [.int .i64 k, .int .i64 m] w0 (.int .i64 (k.tmod m + m)) := by
  refine enter (n := 16) Try.func13 rfl rfl rfl ?_
  intro fr E
  have M : Mem w0 (feet []) [] (fun _ => True) w0 := Mem.begin (Has.nil w0) (fun _ _ => trivial)
  refine code_region ?_
  refine sw E (run_assignC rfl) fun fr E => ?_
  refine seq_nil' ?_
  refine wp_seq ?_
  refine code_region ?_
  refine mv E fun fr E => ?_
  refine sw (v := .bool false) E (tst rfl (decide_eq_false (by omega))) fun fr E => ?_
  refine seq_nil' ?_
  refine cond_false E rfl (rfl) ?_
  refine wp_skip ?_
  refine then_normal ?_
  refine code_region ?_
  refine mv E fun fr E => ?_
  refine mv E fun fr E => ?_
  refine sw (v := .int .i64 (k.tmod m)) E (run_remK rfl rfl rfl (by omega) (by omega)) fun fr E => ?_
  refine ma E fun fr E => ?_
  refine seq_nil' ?_
  refine wp_seq ?_
  refine code_region ?_
  refine mv E fun fr E => ?_
  refine sw (v := .bool true) E (tst rfl (decide_eq_true h2)) fun fr E => ?_
  refine seq_nil' ?_
  refine cond_true E rfl (rfl) ?_
  refine code_last ?_
  refine mv E fun fr E => ?_
  refine mv E fun fr E => ?_
  refine sw (v := .int _ (k.tmod m + m)) E (num rfl (i64_id (by have := tmod_bounds k hm; omega) (by have := tmod_bounds k hm; omega))) fun fr E => ?_
  refine ma E fun fr E => ?_
  refine seq_nil ?_
  refine then_normal ?_
  refine code_region ?_
  refine mv E fun fr E => ?_
  refine ma E fun fr E => ?_
  refine seq_nil' ?_
  refine wp_ret ?_
  refine ret1 E rfl rfl ?_
  exact given M
end Go.Proofs.Ytnebjbgcibjohaa.K
end
section
namespace Go.Proofs.Ytnebjbgcibjohaa.K
open Go.RowKit Go.Rill Go.Proofs
set_option linter.unusedVariables false
set_option linter.unusedSimpArgs false
abbrev nmE (N : NV) : Ent := Ent.all (nms 112 175 N)
def inNum (n : Int) : Prop := 0 ≤ n ∧ n ≤ 1099511627776
instance (n : Int) : Decidable (inNum n) := by unfold inNum; infer_instance
def sealKs (ks : List NKey) (k : NKey) : List NKey := if k ∈ ks then ks else ks ++ [k]
def sealNo (ks : List NKey) (k : NKey) : Nat := match nat' k ks 0 with | some m => m + 1 | none => ks.length + 1
def tagOf (j : Nat) : List UInt8 := List.replicate 24 0 ++ be8 (j : Int)
/-- What is sealed: its bytes; what is remembered then. -/
def sealB (ks : List NKey) (e n : Int) (h p : List UInt8) : List UInt8 := if inNum e ∧ inNum n then p ++ tagOf (sealNo ks ⟨e, n, h, p⟩) else []
def sealS (ks : List NKey) (e n : Int) (h p : List UInt8) : List NKey := if inNum e ∧ inNum n then sealKs ks ⟨e, n, h, p⟩ else ks
def openN (ks : List NKey) (e n : Int) (h b : List UInt8) : Option (List UInt8) :=
  if b.length < 32 then none else match nat' (⟨e, n, h, b.take (b.length - 32)⟩ : NKey) ks 0 with
    | none => none
    | some m => if b.drop (b.length - 32) = tagOf (m + 1) then some (b.take (b.length - 32)) else none
theorem Equal_b {a b : Value} {l k : List UInt8} {w0 : World} {r : Bool} (ha : Bytes w0 a l) (hb : Bytes w0 b k) (hz : l.length ≤ 35184372088832) (h : decide (l = k) = r) : Gives Try.prog 107 [a, b] w0 (.bool r) := h ▸ Equal_x ha hb hz
theorem Concat_e {b : Value} {ls : List (List UInt8)} {l : List UInt8} {w0 : World} (h : RowsOf w0 b ls) (hl : ls.flatten = l) (hn : ls.length ≤ 1000) (hz : l.length ≤ 35184372088832) : Does Try.prog 108 [b] w0 [] (fun s : Value => s) (fun s => [.bytes 5 s l]) (fun _ => True) := by
  subst hl
  obtain ⟨ps, rfl, h2, h3⟩ := h
  have e : pl ps ps.length = (ps.map (·.2)).flatten := by unfold pl; rw [List.take_length]
  have := Concat_x h2 h3 (by simpa using hn) (by rw [e]; exact hz)
  rwa [e] at this
theorem ks_row (ks : List NKey) (k : NKey) : ((ks ++ [k]).map NKey.cells).flatten = (ks.map NKey.cells).flatten ++ k.cells := by simp
theorem row_snoc (TS : TypeId) (av : Value) (ks : List NKey) (k : NKey) : Ent.row TS 4 av (ks.length + 1) ((ks.map NKey.cells).flatten ++ k.cells) = Ent.row TS 4 av (ks ++ [k]).length ((ks ++ [k]).map NKey.cells).flatten := by rw [ks_row, List.length_append]; rfl
set_option maxRecDepth 100000 in
theorem nNew_x (w0 : World) : Does Try.prog 33 [] w0 [] (fun N : NV => .pointer (some ⟨N.gn, 0, none⟩)) (fun N => [nmE N]) (fun N => N.ks = [] ∧ N.ts = []) := by
  refine enter (n := 5) Try.func33 rfl rfl rfl ?_
  intro fr E
  have M : Mem w0 (feet []) [] (fun _ => True) w0 := Mem.begin (Has.nil w0) (fun _ _ => trivial)
  refine code_region ?_
  refine sw E (run_assignC rfl) fun fr E => ?_
  refine seq_nil' ?_
  refine code_region ?_
  refine snew (ob := .map #[] 0) (fun g => .map (some g)) E M rfl rfl rfl rfl rfl (run_makeMap rfl) fun gs fr w M E => ?_
  refine snew (ob := .map #[] 0) (fun g => .map (some g)) E M rfl rfl rfl rfl rfl (run_makeMap rfl) fun gt fr w M E => ?_
  refine sw (v := .agg #[.map (some gs), .slice none 0 0, .map (some gt)]) E (run_buildQ (us := #[.map (some gs), .slice none 0 0, .map (some gt)]) rfl rfl T.ts112 T.zeroL112 rfl) fun fr E => ?_
  refine snew (ob := .cells (#[.map (some gs), .slice none 0 0, .map (some gt)]) 112) (fun g => .pointer (some ⟨g, 0, none⟩)) E M rfl rfl rfl rfl rfl (run_boxN (cs := (#[.map (some gs), .slice none 0 0, .map (some gt)])) rfl rfl) fun g0 fr w M E => ?_
  refine ma E fun fr E => ?_
  refine seq_nil' ?_
  refine wp_ret ?_
  refine ret1 E rfl rfl ?_
  have M := M.nilAny 175 4
  have M := ((((M.pull 2 rfl).pull 3 rfl).pull 2 rfl).pull 3 rfl)
  have M : Mem w0 (feet []) (nms 112 175 ⟨g0, gs, gt, .slice none 0 0, [], []⟩ ++ []) (fun _ => True) w := M
  exact ⟨⟨g0, gs, gt, .slice none 0 0, [], []⟩, rfl, M.pack.fin (List.Sublist.refl _) ⟨rfl, rfl⟩⟩

set_option maxRecDepth 100000 in
theorem Seal_o1 {N : NV} {e n : Int} {h p : Value} {hl pl : List UInt8} {w0 : World} (H : Has w0 (nms 112 175 N)) (hh : Bytes w0 h hl) (hp : Bytes w0 p pl) (ah : ∀ g, h.ownBlock = some g → ¬ feet (nms 112 175 N) g) (ap : ∀ g, p.ownBlock = some g → ¬ feet (nms 112 175 N) g) (h1 : ¬ inNum e) : Does Try.prog 106 [.pointer (some ⟨N.gn, 0, none⟩), .int .i64 e, .int .i64 n, h, p] w0 (nms 112 175 N) (fun x : Value × NV => x.1) (fun x => .bytes 5 x.1 [] :: nms 112 175 x.2) (fun x => x.2.gn = N.gn ∧ x.2.ks = N.ks ∧ x.2.ts = N.ts) := by
  refine enter (n := 67) Try.func106 rfl rfl rfl ?_
  intro fr E
  have M : Mem w0 (feet (nms 112 175 N)) (nms 112 175 N) (fun w' => Bytes w' h hl ∧ Bytes w' p pl) w0 := Mem.begin H (fun w' k => ⟨Reads.held hh k ah, Reads.held hp k ap⟩)
  refine code_region ?_
  refine sw E (run_assignC rfl) fun fr E => ?_
  refine seq_nil' ?_
  refine wp_seq ?_
  refine code_region ?_
  refine mv E fun fr E => ?_
  refine sgive E M rfl rfl rfl rfl rfl (run_call rfl rfl T.fn109) (nwithin_x e _) fun fr w M E => ?_
  refine sw (v := .bool true) E (by rw [show decide (0 ≤ e ∧ e ≤ 1099511627776) = false from decide_eq_false h1]; rfl) fun fr E => ?_
  refine mv E fun fr E => ?_
  refine sno E rfl rfl rfl rfl fun fr E => ?_
  refine sno E rfl rfl rfl rfl fun fr E => ?_
  refine sno E rfl rfl rfl rfl fun fr E => ?_
  refine sw (v := .bool _) E (rfl) fun fr E => ?_
  refine seq_nil' ?_
  refine cond_true E rfl (rfl) ?_
  refine code_region ?_
  refine sw E (run_assignC rfl) fun fr E => ?_
  refine seq_nil' ?_
  refine wp_ret ?_
  refine then_ret ?_
  refine ret1 E rfl rfl ?_
  have M := M.nilRow 5
  exact ⟨(.slice none 0 0, N), rfl, M.fin (List.Sublist.refl _) ⟨rfl, rfl, rfl⟩⟩

set_option maxRecDepth 100000 in
theorem Seal_o2 {N : NV} {e n : Int} {h p : Value} {hl pl : List UInt8} {w0 : World} (H : Has w0 (nms 112 175 N)) (hh : Bytes w0 h hl) (hp : Bytes w0 p pl) (ah : ∀ g, h.ownBlock = some g → ¬ feet (nms 112 175 N) g) (ap : ∀ g, p.ownBlock = some g → ¬ feet (nms 112 175 N) g) (h1 : inNum e) (h2 : ¬ inNum n) : Does Try.prog 106 [.pointer (some ⟨N.gn, 0, none⟩), .int .i64 e, .int .i64 n, h, p] w0 (nms 112 175 N) (fun x : Value × NV => x.1) (fun x => .bytes 5 x.1 [] :: nms 112 175 x.2) (fun x => x.2.gn = N.gn ∧ x.2.ks = N.ks ∧ x.2.ts = N.ts) := by
  refine enter (n := 67) Try.func106 rfl rfl rfl ?_
  intro fr E
  have M : Mem w0 (feet (nms 112 175 N)) (nms 112 175 N) (fun w' => Bytes w' h hl ∧ Bytes w' p pl) w0 := Mem.begin H (fun w' k => ⟨Reads.held hh k ah, Reads.held hp k ap⟩)
  refine code_region ?_
  refine sw E (run_assignC rfl) fun fr E => ?_
  refine seq_nil' ?_
  refine wp_seq ?_
  refine code_region ?_
  refine mv E fun fr E => ?_
  refine sgive E M rfl rfl rfl rfl rfl (run_call rfl rfl T.fn109) (nwithin_x e _) fun fr w M E => ?_
  refine sw (v := .bool false) E (by rw [show decide (0 ≤ e ∧ e ≤ 1099511627776) = true from decide_eq_true h1]; rfl) fun fr E => ?_
  refine mv E fun fr E => ?_
  refine mv E fun fr E => ?_
  refine sgive E M rfl rfl rfl rfl rfl (run_call rfl rfl T.fn109) (nwithin_x n _) fun fr w M E => ?_
  refine sw (v := .bool true) E (by rw [show decide (0 ≤ n ∧ n ≤ 1099511627776) = false from decide_eq_false h2]; rfl) fun fr E => ?_
  refine sw (v := .bool _) E (rfl) fun fr E => ?_
  refine seq_nil' ?_
  refine cond_true E rfl (rfl) ?_
  refine code_region ?_
  refine sw E (run_assignC rfl) fun fr E => ?_
  refine seq_nil' ?_
  refine wp_ret ?_
  refine then_ret ?_
  refine ret1 E rfl rfl ?_
  have M := M.nilRow 5
  exact ⟨(.slice none 0 0, N), rfl, M.fin (List.Sublist.refl _) ⟨rfl, rfl, rfl⟩⟩

set_option maxRecDepth 100000 in
theorem Seal_old {N : NV} {e n : Int} {h p : Value} {hl pl : List UInt8} {w0 : World} (H : Has w0 (nms 112 175 N)) (hh : Bytes w0 h hl) (hp : Bytes w0 p pl) (ah : ∀ g, h.ownBlock = some g → ¬ feet (nms 112 175 N) g) (ap : ∀ g, p.ownBlock = some g → ¬ feet (nms 112 175 N) g) (h1 : inNum e) (h2 : inNum n) (hz : pl.length ≤ 1099511627776) (hkz : N.ks.length ≤ 1099511627776) {m : Nat} (hm : nat' (⟨e, n, hl, pl⟩ : NKey) N.ks 0 = some m) : Does Try.prog 106 [.pointer (some ⟨N.gn, 0, none⟩), .int .i64 e, .int .i64 n, h, p] w0 (nms 112 175 N) (fun x : Value × NV => x.1) (fun x => .bytes 5 x.1 (pl ++ (List.replicate 24 0 ++ be8 ((m + 1 : Nat) : Int))) :: nms 112 175 x.2) (fun x => x.2.gn = N.gn ∧ x.2.ks = N.ks ∧ x.2.ts = N.ts) := by
  refine enter (n := 67) Try.func106 rfl rfl rfl ?_
  intro fr E
  have M : Mem w0 (feet (nms 112 175 N)) (nms 112 175 N) (fun w' => Bytes w' h hl ∧ Bytes w' p pl) w0 := Mem.begin H (fun w' k => ⟨Reads.held hh k ah, Reads.held hp k ap⟩)
  refine code_region ?_
  refine sw E (run_assignC rfl) fun fr E => ?_
  refine seq_nil' ?_
  refine wp_seq ?_
  refine code_region ?_
  refine mv E fun fr E => ?_
  refine sgive E M rfl rfl rfl rfl rfl (run_call rfl rfl T.fn109) (nwithin_x e _) fun fr w M E => ?_
  refine sw (v := .bool false) E (by rw [show decide (0 ≤ e ∧ e ≤ 1099511627776) = true from decide_eq_true h1]; rfl) fun fr E => ?_
  refine mv E fun fr E => ?_
  refine mv E fun fr E => ?_
  refine sgive E M rfl rfl rfl rfl rfl (run_call rfl rfl T.fn109) (nwithin_x n _) fun fr w M E => ?_
  refine sw (v := .bool false) E (by rw [show decide (0 ≤ n ∧ n ≤ 1099511627776) = true from decide_eq_true h2]; rfl) fun fr E => ?_
  refine sw (v := .bool _) E (rfl) fun fr E => ?_
  refine seq_nil' ?_
  refine cond_false E rfl (rfl) ?_
  refine wp_skip ?_
  refine then_normal ?_
  refine code_region ?_
  refine mv E fun fr E => ?_
  refine mv E fun fr E => ?_
  refine mv E fun fr E => ?_
  refine sw (v := strV hl) E (run_b2s rfl rfl M.fact.1 T.slice54 T.u8T T.strT) fun fr E => ?_
  refine mv E fun fr E => ?_
  refine sw (v := strV pl) E (run_b2s rfl rfl M.fact.2 T.slice54 T.u8T T.strT) fun fr E => ?_
  refine sw (v := .agg ([_, _, _, _]).toArray) E (run_buildP (vs := [_, _, _, _]) (us := [_, _, _, _]) rfl rfl T.ts175 T.zeroL175 rfl rfl rfl rfl) fun fr E => ?_
  refine snew (ob := .cells #[_, _, _, _] 175) (fun g => .pointer (some ⟨g, 0, none⟩)) E M rfl rfl rfl rfl rfl (run_allocN rfl T.zero175) fun g0 fr w M E => ?_
  refine sset (i := 0) (cs' := #[.int .i64 e, .int .i64 n, strV hl, strV pl]) E M rfl rfl rfl rfl rfl (run_storeN' (vs := #[_, _, _, _]) rfl rfl rfl T.size175 rfl (M.row (i := 0) rfl) rfl rfl rfl) rfl fun fr w M E => ?_
  refine seq_nil' ?_
  refine wp_seq (free_reg (B := T.tab106_4_b) (Vs := (.exact _ :: .exact _ :: .exact (.pointer (some ⟨_, 0, none⟩)) :: .exact (.map _) :: .exact (.agg #[_, _, _, _]) :: .exact (.tuple #[(.int .i64 ((m + 1 : Nat) : Int)), .bool true]) :: .exact _ :: .exact ((.int .i64 ((m + 1 : Nat) : Int))) :: .exact (.bool true) :: .exact ((.int .i64 ((m + 1 : Nat) : Int))) :: .exact (.bool true) :: [])) T.tab106_4_i E T.mixed T.tab106_4 rfl (AllS.lasts ⟨trivial, trivial, trivial, trivial, trivial, trivial, trivial, trivial, trivial, trivial, trivial, trivial⟩) ⟨fv rfl rfl (fun x w hx hk => run_move rfl rfl),
      fv rfl rfl (fun x w hx hk => run_nilCheck rfl rfl),
      fv rfl rfl (fun x w hx hk => run_fieldAddr rfl rfl T.fld112_0),
      fv rfl rfl (fun x w hx hk => run_loadB rfl rfl T.one108 ((M.ext ((Ext.drew _).trans hx)).row (i := 1) rfl) rfl),
      fv rfl rfl (fun x w hx hk => run_loadAll rfl rfl T.agg175 ((M.ext ((Ext.drew _).trans hx)).row (i := 0) rfl) rfl),
      fv rfl rfl (fun x w hx hk => run_lookupN (V := sealK) (ks := N.ks) (k := (⟨e, n, hl, pl⟩ : NKey)) (v := (.int .i64 ((m + 1 : Nat) : Int))) (b := true) rfl rfl rfl (names_fits T.namesM) T.zero3 ((M.ext ((Ext.drew _).trans hx)).row (i := 3) rfl) (by rw [hm])),
      fv rfl rfl (fun x w hx hk => run_move rfl rfl),
      fv rfl rfl (fun x w hx hk => run_extract rfl rfl rfl),
      fv rfl rfl (fun x w hx hk => run_extract rfl rfl rfl),
      fv rfl rfl (fun x w hx hk => run_assign rfl rfl),
      fv rfl rfl (fun x w hx hk => run_assign rfl rfl), trivial⟩ ?_)
  intro x fr w hx hk E
  have M := M.ext hx
  refine then_normal ?_
  refine wp_seq ?_
  refine code_region ?_
  refine mv E fun fr E => ?_
  refine sw (v := .bool _) E (rfl) fun fr E => ?_
  refine seq_nil' ?_
  refine cond_false E rfl (rfl) ?_
  refine wp_skip ?_
  refine then_normal ?_
  refine wp_seq (free_reg (B := T.tab106_9_b) (Vs := (.exact _ :: (.rel fun w v => Bytes w v (List.replicate 24 0)) :: .exact _ :: CameV w.heap.size (fun v => [.bytes 5 v (be8 ((m + 1 : Nat) : Int))]) (fun _ => True) :: (.rel fun w v => RowsOf w v [pl, List.replicate 24 0, be8 ((m + 1 : Nat) : Int)]) :: CameV w.heap.size (fun v => [.bytes 5 v (pl ++ (List.replicate 24 0 ++ be8 ((m + 1 : Nat) : Int)))]) (fun _ => True) :: CameV w.heap.size (fun v => [.bytes 5 v (pl ++ (List.replicate 24 0 ++ be8 ((m + 1 : Nat) : Int)))]) (fun _ => True) :: [])) T.tab106_9_i E T.mixed T.tab106_9 rfl (AllS.lasts ⟨trivial, (fun w w' v hx h => Reads.ext h hx), trivial, LastsS.cameV, (fun w w' v hx h => h.ext hx), LastsS.cameV, LastsS.cameV, trivial⟩) ⟨fv rfl rfl (fun x w hx hk => run_move rfl rfl),
      fs_rel rfl rfl (fun x w hx hk => ⟨rfl, rfl, rfl, made_fs (k := 24) rfl rfl rfl rfl rfl T.slice54 T.zt5 T.zc5 T.by5 (by decide)⟩),
      fv rfl rfl (fun x w hx hk => run_move rfl rfl),
      fs_ext rfl rfl (fun x w hx hk => ⟨_, _, rfl, rfl, rfl, run_call rfl rfl T.fn63, (nnumber_x ((m + 1 : Nat) : Int) _).extV hx.size⟩),
      fs_rel rfl rfl (fun x w hx hk => ⟨rfl, rfl, rfl, rows_fs [(p, pl), (x 1, List.replicate 24 0), (x 3, be8 ((m + 1 : Nat) : Int))] rfl rfl rfl rfl T.slice52 T.size54 T.zl54 rfl (rows3 (M.ext ((Ext.drew _).trans hx)).fact.2 (hk 1 rfl) ((hk 3 rfl).1.reads 0 rfl)) rfl rfl⟩),
      fs_ext rfl rfl (fun x w hx hk => ⟨_, _, rfl, rfl, rfl, run_call rfl rfl T.fn108, (Concat_e (ls := [pl, List.replicate 24 0, be8 ((m + 1 : Nat) : Int)]) (hk 4 rfl) (by simp) (by simp) (by simp [be8]; omega)).extV hx.size⟩),
      fs_val rfl rfl (fun x w hx hk => ⟨_, _, rfl, rfl, rfl, run_assign rfl rfl, Ext.refl _, hk 5 rfl⟩), trivial⟩ ?_)
  intro x fr w hx hk E
  have M := M.adopts hx (hk 6 (by decide)).1 (hk 6 (by decide)).2.1
  refine then_normal ?_
  refine wp_ret ?_
  refine ret1 E rfl rfl ?_
  have M := M.pull 5 rfl
  have M := M.pull 5 rfl
  have M := M.pull 5 rfl
  have M := M.pull 5 rfl
  have M := M.pull 4 rfl
  exact ⟨(_, (⟨N.gn, N.gs, N.gt, N.av, N.ks, N.ts⟩ : NV)), rfl, Mem.fin (L := .bytes 5 _ (pl ++ (List.replicate 24 0 ++ be8 ((m + 1 : Nat) : Int))) :: nms 112 175 (⟨N.gn, N.gs, N.gt, N.av, N.ks, N.ts⟩ : NV) ++ _) M (List.sublist_append_left _ _) ⟨rfl, rfl, rfl⟩⟩

set_option maxRecDepth 100000 in
theorem Seal_new {N : NV} {e n : Int} {h p : Value} {hl pl : List UInt8} {w0 : World} (H : Has w0 (nms 112 175 N)) (hh : Bytes w0 h hl) (hp : Bytes w0 p pl) (ah : ∀ g, h.ownBlock = some g → ¬ feet (nms 112 175 N) g) (ap : ∀ g, p.ownBlock = some g → ¬ feet (nms 112 175 N) g) (h1 : inNum e) (h2 : inNum n) (hz : pl.length ≤ 1099511627776) (hkz : N.ks.length ≤ 1099511627776) (hn : (⟨e, n, hl, pl⟩ : NKey) ∉ N.ks) : Does Try.prog 106 [.pointer (some ⟨N.gn, 0, none⟩), .int .i64 e, .int .i64 n, h, p] w0 (nms 112 175 N) (fun x : Value × NV => x.1) (fun x => .bytes 5 x.1 (pl ++ (List.replicate 24 0 ++ be8 ((N.ks.length + 1 : Nat) : Int))) :: nms 112 175 x.2) (fun x => x.2.gn = N.gn ∧ x.2.ks = N.ks ++ [(⟨e, n, hl, pl⟩ : NKey)] ∧ x.2.ts = N.ts) := by
  refine enter (n := 67) Try.func106 rfl rfl rfl ?_
  intro fr E
  have M : Mem w0 (feet (nms 112 175 N)) (nms 112 175 N) (fun w' => Bytes w' h hl ∧ Bytes w' p pl) w0 := Mem.begin H (fun w' k => ⟨Reads.held hh k ah, Reads.held hp k ap⟩)
  refine code_region ?_
  refine sw E (run_assignC rfl) fun fr E => ?_
  refine seq_nil' ?_
  refine wp_seq ?_
  refine code_region ?_
  refine mv E fun fr E => ?_
  refine sgive E M rfl rfl rfl rfl rfl (run_call rfl rfl T.fn109) (nwithin_x e _) fun fr w M E => ?_
  refine sw (v := .bool false) E (by rw [show decide (0 ≤ e ∧ e ≤ 1099511627776) = true from decide_eq_true h1]; rfl) fun fr E => ?_
  refine mv E fun fr E => ?_
  refine mv E fun fr E => ?_
  refine sgive E M rfl rfl rfl rfl rfl (run_call rfl rfl T.fn109) (nwithin_x n _) fun fr w M E => ?_
  refine sw (v := .bool false) E (by rw [show decide (0 ≤ n ∧ n ≤ 1099511627776) = true from decide_eq_true h2]; rfl) fun fr E => ?_
  refine sw (v := .bool _) E (rfl) fun fr E => ?_
  refine seq_nil' ?_
  refine cond_false E rfl (rfl) ?_
  refine wp_skip ?_
  refine then_normal ?_
  refine code_region ?_
  refine mv E fun fr E => ?_
  refine mv E fun fr E => ?_
  refine mv E fun fr E => ?_
  refine sw (v := strV hl) E (run_b2s rfl rfl M.fact.1 T.slice54 T.u8T T.strT) fun fr E => ?_
  refine mv E fun fr E => ?_
  refine sw (v := strV pl) E (run_b2s rfl rfl M.fact.2 T.slice54 T.u8T T.strT) fun fr E => ?_
  refine sw (v := .agg ([_, _, _, _]).toArray) E (run_buildP (vs := [_, _, _, _]) (us := [_, _, _, _]) rfl rfl T.ts175 T.zeroL175 rfl rfl rfl rfl) fun fr E => ?_
  refine snew (ob := .cells #[_, _, _, _] 175) (fun g => .pointer (some ⟨g, 0, none⟩)) E M rfl rfl rfl rfl rfl (run_allocN rfl T.zero175) fun g0 fr w M E => ?_
  refine sset (i := 0) (cs' := #[.int .i64 e, .int .i64 n, strV hl, strV pl]) E M rfl rfl rfl rfl rfl (run_storeN' (vs := #[_, _, _, _]) rfl rfl rfl T.size175 rfl (M.row (i := 0) rfl) rfl rfl rfl) rfl fun fr w M E => ?_
  refine seq_nil' ?_
  refine wp_seq (free_reg (B := T.tab106_4_b) (Vs := (.exact _ :: .exact _ :: .exact (.pointer (some ⟨_, 0, none⟩)) :: .exact (.map _) :: .exact (.agg #[_, _, _, _]) :: .exact (.tuple #[(.int .i64 0), .bool false]) :: .exact _ :: .exact ((.int .i64 0)) :: .exact (.bool false) :: .exact ((.int .i64 0)) :: .exact (.bool false) :: [])) T.tab106_4_i E T.mixed T.tab106_4 rfl (AllS.lasts ⟨trivial, trivial, trivial, trivial, trivial, trivial, trivial, trivial, trivial, trivial, trivial, trivial⟩) ⟨fv rfl rfl (fun x w hx hk => run_move rfl rfl),
      fv rfl rfl (fun x w hx hk => run_nilCheck rfl rfl),
      fv rfl rfl (fun x w hx hk => run_fieldAddr rfl rfl T.fld112_0),
      fv rfl rfl (fun x w hx hk => run_loadB rfl rfl T.one108 ((M.ext ((Ext.drew _).trans hx)).row (i := 1) rfl) rfl),
      fv rfl rfl (fun x w hx hk => run_loadAll rfl rfl T.agg175 ((M.ext ((Ext.drew _).trans hx)).row (i := 0) rfl) rfl),
      fv rfl rfl (fun x w hx hk => run_lookupN (V := sealK) (ks := N.ks) (k := (⟨e, n, hl, pl⟩ : NKey)) (v := (.int .i64 0)) (b := false) rfl rfl rfl (names_fits T.namesM) T.zero3 ((M.ext ((Ext.drew _).trans hx)).row (i := 3) rfl) (by rw [nat_none hn])),
      fv rfl rfl (fun x w hx hk => run_move rfl rfl),
      fv rfl rfl (fun x w hx hk => run_extract rfl rfl rfl),
      fv rfl rfl (fun x w hx hk => run_extract rfl rfl rfl),
      fv rfl rfl (fun x w hx hk => run_assign rfl rfl),
      fv rfl rfl (fun x w hx hk => run_assign rfl rfl), trivial⟩ ?_)
  intro x fr w hx hk E
  have M := M.ext hx
  refine then_normal ?_
  refine wp_seq ?_
  refine code_region ?_
  refine mv E fun fr E => ?_
  refine sw (v := .bool _) E (rfl) fun fr E => ?_
  refine seq_nil' ?_
  refine cond_true E rfl (rfl) ?_
  have M := M.pull 2 rfl
  have M : Mem _ _ ([.row 175 4 N.av N.ks.length (N.ks.map NKey.cells).flatten] ++ _) _ _ := M
  refine wp_seq (free_lastR (B := T.tab106_6_b) (Vs := (.exact _ :: .exact _ :: .exact _ :: .exact (.pointer (some ⟨_, 1, none⟩)) :: .exact _ :: .exact (.agg #[_, _, _, _]) :: NewR w.heap.size 4 1 (⟨e, n, hl, pl⟩ : NKey).cells :: CameI w.heap.size ([.row 175 4 N.av N.ks.length (N.ks.map NKey.cells).flatten]) (fun v : Value => v) ((fun v' : Value => [Ent.row 175 4 v' (N.ks ++ [(⟨e, n, hl, pl⟩ : NKey)]).length ((N.ks ++ [(⟨e, n, hl, pl⟩ : NKey)]).map NKey.cells).flatten])) (fun _ => True) :: .exact _ :: .exact (.pointer (some ⟨_, 1, none⟩)) :: [])) (ownRoad (oneFs 7 ([.row 175 4 N.av N.ks.length (N.ks.map NKey.cells).flatten])) w.drew) T.tab106_6_j 10 E T.mixed T.tab106_6 rfl rfl rfl ?_ ⟨fr_val rfl rfl M (fun i g h => h.2) (fun x w' M' hB hk => ⟨_, _, rfl, rfl, rfl, run_move rfl rfl, Ext.refl _, rfl⟩),
      fr_val rfl rfl M (fun i g h => h.2) (fun x w' M' hB hk => ⟨_, _, rfl, rfl, rfl, run_move rfl rfl, Ext.refl _, rfl⟩),
      fr_val rfl rfl M (fun i g h => h.2) (fun x w' M' hB hk => ⟨_, _, rfl, rfl, rfl, run_nilCheck rfl rfl, Ext.refl _, rfl⟩),
      fr_val rfl rfl M (fun i g h => h.2) (fun x w' M' hB hk => ⟨_, _, rfl, rfl, rfl, run_fieldAddr rfl rfl T.fld112_1, Ext.refl _, rfl⟩),
      fr_val rfl rfl M (fun i g h => h.2) (fun x w' M' hB hk => ⟨_, _, rfl, rfl, rfl, run_loadB rfl rfl T.one110 (M'.row (i := 1) rfl) rfl, Ext.refl _, rfl⟩),
      fr_val rfl rfl M (fun i g h => h.2) (fun x w' M' hB hk => ⟨_, _, rfl, rfl, rfl, run_loadAll rfl rfl T.agg175 (M'.row (i := 0) rfl) rfl, Ext.refl _, rfl⟩),
      fr_rel rfl rfl M (fun i g h => h.2) (fun x w' M' hB hk => ⟨rfl, rfl, rfl, built1_fs (cs := (⟨e, n, hl, pl⟩ : NKey).cells) hB rfl rfl rfl T.slice110 T.size175 T.zl175 rfl rfl rfl⟩),
      fr_app (y := undef) rfl (by rw [show (fun v' : Value => [Ent.row 175 4 v' (N.ks.length + 1) ((N.ks.map NKey.cells).flatten ++ (⟨e, n, hl, pl⟩ : NKey).cells)]) = (fun v' : Value => [Ent.row 175 4 v' (N.ks ++ [(⟨e, n, hl, pl⟩ : NKey)]).length ((N.ks ++ [(⟨e, n, hl, pl⟩ : NKey)]).map NKey.cells).flatten]) from funext fun v' => by rw [row_snoc]]; rfl) M rfl rfl rfl T.slice110 T.slice110 T.zt175 T.by175 (by decide) (NKey.ones _) (by omega) (fun x w' hk => ⟨rfl, rfl, rfl, rfl, _, rfl, (hk 6 rfl).1⟩),
      fr_val rfl rfl M (fun i g h => h.2) (fun x w' M' hB hk => ⟨_, _, rfl, rfl, rfl, run_nilCheck rfl rfl, Ext.refl _, rfl⟩),
      fr_val rfl rfl M (fun i g h => h.2) (fun x w' M' hB hk => ⟨_, _, rfl, rfl, rfl, run_fieldAddr rfl rfl T.fld112_1, Ext.refl _, rfl⟩), trivial⟩ ?_)
  · exact one_okW rfl ((allY_ex (allY_ex (allY_ex (allY_ex (allY_ex (allY_ex (allY_any (LastsR.newR (fun g h => M.old g h)) (allY_in rfl LastsR.came1 (allY_ex (allY_ex allY_nil)))))))))))
  intro x fr w ⟨b, hb, hI⟩ hk E
  obtain ⟨av', hy, -, M⟩ := M.behind (val := fun v : Value => v) (outs := (fun v' : Value => [Ent.row 175 4 v' (N.ks ++ [(⟨e, n, hl, pl⟩ : NKey)]).length ((N.ks ++ [(⟨e, n, hl, pl⟩ : NKey)]).map NKey.cells).flatten])) (p := fun _ => True) hI (hk 7 (by decide))
  have E := Env.say (t := 47) E rfl hy
  refine last_set (i := 2) (cs' := #[.map (some N.gs), av', .map (some N.gt)]) E M rfl rfl rfl rfl rfl rfl (run_store1' (v := _) rfl rfl rfl T.size110 (M.row (i := 2) rfl) (rfl) (Reads.one (M.reads 0 rfl)) (rfl)) rfl fun fr w M E => ?_
  refine then_normal ?_
  skip
  refine code_region ?_
  refine mv E fun fr E => ?_
  refine sw E (run_nilCheck rfl rfl) fun fr E => ?_
  refine sw (v := .pointer (some ⟨_, 1, none⟩)) E (run_fieldAddr rfl rfl T.fld112_1) fun fr E => ?_
  refine sw E (run_loadB rfl rfl T.one110 (M.row (i := 2) rfl) rfl) fun fr E => ?_
  refine sw (v := .int .i64 ((N.ks.length + 1 : Nat) : Int)) E ((run_lenR rfl rfl rfl rfl T.slice110 (M.reads 0 rfl)).trans (by rw [List.length_append]; rfl)) fun fr E => ?_
  refine ma E fun fr E => ?_
  refine seq_nil' ?_
  refine (free_last (B := T.tab106_8_b) (Vs := (.exact _ :: .exact _ :: .exact (.pointer (some ⟨_, 0, none⟩)) :: .exact (.map _) :: .exact (.agg #[_, _, _, _]) :: .exact _ :: [])) T.tab106_8_j 6 E T.mixed T.tab106_8 rfl rfl rfl (AllS.lasts ⟨trivial, trivial, trivial, trivial, trivial, trivial, trivial⟩) ⟨fv rfl rfl (fun x w hx hk => run_move rfl rfl),
      fv rfl rfl (fun x w hx hk => run_nilCheck rfl rfl),
      fv rfl rfl (fun x w hx hk => run_fieldAddr rfl rfl T.fld112_0),
      fv rfl rfl (fun x w hx hk => run_loadB rfl rfl T.one108 ((M.ext ((Ext.drew _).trans hx)).row (i := 2) rfl) rfl),
      fv rfl rfl (fun x w hx hk => run_loadAll rfl rfl T.agg175 ((M.ext ((Ext.drew _).trans hx)).row (i := 1) rfl) rfl),
      fv rfl rfl (fun x w hx hk => run_move rfl rfl), trivial⟩ ?_)
  intro x fr w hx hk E
  have M := M.ext hx
  refine last_mapN (i := 3) (V := sealK) (k := (⟨e, n, hl, pl⟩ : NKey)) E M rfl rfl rfl rfl rfl rfl rfl rfl rfl rfl (names_fits T.namesM) hn rfl fun fr w M E => ?_
  refine then_normal ?_
  refine wp_seq (free_reg (B := T.tab106_9_b) (Vs := (.exact _ :: (.rel fun w v => Bytes w v (List.replicate 24 0)) :: .exact _ :: CameV w.heap.size (fun v => [.bytes 5 v (be8 ((N.ks.length + 1 : Nat) : Int))]) (fun _ => True) :: (.rel fun w v => RowsOf w v [pl, List.replicate 24 0, be8 ((N.ks.length + 1 : Nat) : Int)]) :: CameV w.heap.size (fun v => [.bytes 5 v (pl ++ (List.replicate 24 0 ++ be8 ((N.ks.length + 1 : Nat) : Int)))]) (fun _ => True) :: CameV w.heap.size (fun v => [.bytes 5 v (pl ++ (List.replicate 24 0 ++ be8 ((N.ks.length + 1 : Nat) : Int)))]) (fun _ => True) :: [])) T.tab106_9_i E T.mixed T.tab106_9 rfl (AllS.lasts ⟨trivial, (fun w w' v hx h => Reads.ext h hx), trivial, LastsS.cameV, (fun w w' v hx h => h.ext hx), LastsS.cameV, LastsS.cameV, trivial⟩) ⟨fv rfl rfl (fun x w hx hk => run_move rfl rfl),
      fs_rel rfl rfl (fun x w hx hk => ⟨rfl, rfl, rfl, made_fs (k := 24) rfl rfl rfl rfl rfl T.slice54 T.zt5 T.zc5 T.by5 (by decide)⟩),
      fv rfl rfl (fun x w hx hk => run_move rfl rfl),
      fs_ext rfl rfl (fun x w hx hk => ⟨_, _, rfl, rfl, rfl, run_call rfl rfl T.fn63, (nnumber_x ((N.ks.length + 1 : Nat) : Int) _).extV hx.size⟩),
      fs_rel rfl rfl (fun x w hx hk => ⟨rfl, rfl, rfl, rows_fs [(p, pl), (x 1, List.replicate 24 0), (x 3, be8 ((N.ks.length + 1 : Nat) : Int))] rfl rfl rfl rfl T.slice52 T.size54 T.zl54 rfl (rows3 (M.ext ((Ext.drew _).trans hx)).fact.2 (hk 1 rfl) ((hk 3 rfl).1.reads 0 rfl)) rfl rfl⟩),
      fs_ext rfl rfl (fun x w hx hk => ⟨_, _, rfl, rfl, rfl, run_call rfl rfl T.fn108, (Concat_e (ls := [pl, List.replicate 24 0, be8 ((N.ks.length + 1 : Nat) : Int)]) (hk 4 rfl) (by simp) (by simp) (by simp [be8]; omega)).extV hx.size⟩),
      fs_val rfl rfl (fun x w hx hk => ⟨_, _, rfl, rfl, rfl, run_assign rfl rfl, Ext.refl _, hk 5 rfl⟩), trivial⟩ ?_)
  intro x fr w hx hk E
  have M := M.adopts hx (hk 6 (by decide)).1 (hk 6 (by decide)).2.1
  refine then_normal ?_
  refine wp_ret ?_
  refine ret1 E rfl rfl ?_
  have M := M.pull 5 rfl
  have M := M.pull 5 rfl
  have M := M.pull 3 rfl
  have M := M.pull 5 rfl
  have M := M.pull 4 rfl
  exact ⟨(_, (⟨N.gn, N.gs, N.gt, av', N.ks ++ [(⟨e, n, hl, pl⟩ : NKey)], N.ts⟩ : NV)), rfl, Mem.fin (L := .bytes 5 _ (pl ++ (List.replicate 24 0 ++ be8 ((N.ks.length + 1 : Nat) : Int))) :: nms 112 175 (⟨N.gn, N.gs, N.gt, av', N.ks ++ [(⟨e, n, hl, pl⟩ : NKey)], N.ts⟩ : NV) ++ _) M (List.sublist_append_left _ _) ⟨rfl, rfl, rfl⟩⟩

theorem Seal_x {N : NV} {e n : Int} {h p : Value} {hl pl : List UInt8} {w0 : World} (H : Has w0 (nms 112 175 N)) (hh : Bytes w0 h hl) (hp : Bytes w0 p pl) (ah : ∀ g, h.ownBlock = some g → ¬ feet (nms 112 175 N) g) (ap : ∀ g, p.ownBlock = some g → ¬ feet (nms 112 175 N) g) (hz : pl.length ≤ 1099511627776) (hkz : N.ks.length ≤ 1099511627776) : Does Try.prog 106 [.pointer (some ⟨N.gn, 0, none⟩), .int .i64 e, .int .i64 n, h, p] w0 (nms 112 175 N) (fun x : Value × NV => x.1) (fun x => .bytes 5 x.1 (sealB N.ks e n hl pl) :: nms 112 175 x.2) (fun x => x.2.gn = N.gn ∧ x.2.ks = sealS N.ks e n hl pl ∧ x.2.ts = N.ts) := by
  by_cases h1 : inNum e
  · by_cases h2 : inNum n
    · have e1 : sealS N.ks e n hl pl = sealKs N.ks ⟨e, n, hl, pl⟩ := if_pos ⟨h1, h2⟩
      have e2 : sealB N.ks e n hl pl = pl ++ tagOf (sealNo N.ks ⟨e, n, hl, pl⟩) := if_pos ⟨h1, h2⟩
      rw [e1, e2]
      by_cases hk : (⟨e, n, hl, pl⟩ : NKey) ∈ N.ks
      · obtain ⟨m, hm⟩ := nat_mem hk
        have e3 : sealKs N.ks ⟨e, n, hl, pl⟩ = N.ks := if_pos hk
        have e4 : sealNo N.ks ⟨e, n, hl, pl⟩ = m + 1 := by unfold sealNo; rw [hm]
        rw [e3, e4]
        exact Seal_old H hh hp ah ap h1 h2 hz hkz hm
      · have e3 : sealKs N.ks ⟨e, n, hl, pl⟩ = N.ks ++ [⟨e, n, hl, pl⟩] := if_neg hk
        have e4 : sealNo N.ks ⟨e, n, hl, pl⟩ = N.ks.length + 1 := by unfold sealNo; rw [nat_none hk]
        rw [e3, e4]
        exact Seal_new H hh hp ah ap h1 h2 hz hkz hk
    · have e1 : sealS N.ks e n hl pl = N.ks := if_neg fun c => h2 c.2
      have e2 : sealB N.ks e n hl pl = [] := if_neg fun c => h2 c.2
      rw [e1, e2]
      exact Seal_o2 H hh hp ah ap h1 h2
  · have e1 : sealS N.ks e n hl pl = N.ks := if_neg fun c => h1 c.1
    have e2 : sealB N.ks e n hl pl = [] := if_neg fun c => h1 c.1
    rw [e1, e2]
    exact Seal_o1 H hh hp ah ap h1
theorem Seal_p {N : NV} {e n : Int} {h p : Value} {hl pl : List UInt8} {w0 : World} (H : Has w0 [nmE N]) (hh : Bytes w0 h hl) (hp : Bytes w0 p pl) (ah : ∀ g, h.ownBlock = some g → g ∉ (nmE N).foot) (ap : ∀ g, p.ownBlock = some g → g ∉ (nmE N).foot) (hz : pl.length ≤ 1099511627776) (hkz : N.ks.length ≤ 1099511627776) :
    Does Try.prog 106 [.pointer (some ⟨N.gn, 0, none⟩), .int .i64 e, .int .i64 n, h, p] w0 [nmE N] (fun x : Value × NV => x.1) (fun x => [.bytes 5 x.1 (sealB N.ks e n hl pl)] ++ [nmE x.2]) (fun x => x.2.gn = N.gn ∧ x.2.ks = sealS N.ks e n hl pl ∧ x.2.ts = N.ts) :=
  Does.packed (B := fun x : Value × NV => [.bytes 5 x.1 (sealB N.ks e n hl pl)]) (C := fun x => nms 112 175 x.2) (fun H' => Seal_x H' hh hp (fun g hg c => ah g hg (Ent.mem_all.2 c)) (fun g hg c => ap g hg (Ent.mem_all.2 c)) hz hkz) H fun x hx => ⟨x, rfl, rfl, hx⟩

set_option maxRecDepth 100000 in
theorem Open_short {N : NV} {e n : Int} {h b : Value} {hl bl : List UInt8} {w0 : World} (H : Has w0 (nms 112 175 N)) (hh : Bytes w0 h hl) (hb : Bytes w0 b bl) (hz : bl.length ≤ 1099511627776) (hs : bl.length < 32) : Gives Try.prog 105 [.pointer (some ⟨N.gn, 0, none⟩), .int .i64 e, .int .i64 n, h, b] w0 (.tuple #[.slice none 0 0, .bool false]) := by
  refine enter (n := 58) Try.func105 rfl rfl rfl ?_
  intro fr E
  have M : Mem w0 (feet []) [] (fun w' => Has w' (nms 112 175 N) ∧ Bytes w' h hl ∧ Bytes w' b bl) w0 := Mem.begin (Has.nil w0) (fun w' hw => ⟨H.held hw fun g hg c => feet_nil c, hh.held0 hw, hb.held0 hw⟩)
  refine code_region ?_
  refine sw E (run_assignC rfl) fun fr E => ?_
  refine sw E (run_assignC rfl) fun fr E => ?_
  refine seq_nil' ?_
  refine wp_seq ?_
  refine code_region ?_
  refine mv E fun fr E => ?_
  refine sw (v := .int .i64 _) E (run_lenR rfl rfl rfl rfl T.slice54 M.fact.2.2) fun fr E => ?_
  refine sw (v := .bool true) E (tst rfl (decide_eq_true (by omega))) fun fr E => ?_
  refine seq_nil' ?_
  refine cond_true E rfl (rfl) ?_
  refine code_region ?_
  refine sw E (run_assignC rfl) fun fr E => ?_
  refine sw E (run_assignC rfl) fun fr E => ?_
  refine seq_nil' ?_
  refine wp_ret ?_
  refine then_ret ?_
  refine ret2 E rfl rfl rfl ?_
  exact given M

set_option maxRecDepth 100000 in
theorem Open_none {N : NV} {e n : Int} {h b : Value} {hl bl : List UInt8} {w0 : World} (H : Has w0 (nms 112 175 N)) (hh : Bytes w0 h hl) (hb : Bytes w0 b bl) (hz : bl.length ≤ 1099511627776) (hs : ¬ bl.length < 32) (hm : nat' (⟨e, n, hl, bl.take (bl.length - 32)⟩ : NKey) N.ks 0 = none) : Gives Try.prog 105 [.pointer (some ⟨N.gn, 0, none⟩), .int .i64 e, .int .i64 n, h, b] w0 (.tuple #[.slice none 0 0, .bool false]) := by
  refine enter (n := 58) Try.func105 rfl rfl rfl ?_
  intro fr E
  have M : Mem w0 (feet []) [] (fun w' => Has w' (nms 112 175 N) ∧ Bytes w' h hl ∧ Bytes w' b bl) w0 := Mem.begin (Has.nil w0) (fun w' hw => ⟨H.held hw fun g hg c => feet_nil c, hh.held0 hw, hb.held0 hw⟩)
  refine code_region ?_
  refine sw E (run_assignC rfl) fun fr E => ?_
  refine sw E (run_assignC rfl) fun fr E => ?_
  refine seq_nil' ?_
  refine wp_seq ?_
  refine code_region ?_
  refine mv E fun fr E => ?_
  refine sw (v := .int .i64 _) E (run_lenR rfl rfl rfl rfl T.slice54 M.fact.2.2) fun fr E => ?_
  refine sw (v := .bool false) E (tst rfl (decide_eq_false (by omega))) fun fr E => ?_
  refine seq_nil' ?_
  refine cond_false E rfl (rfl) ?_
  refine wp_skip ?_
  refine then_normal ?_
  refine wp_seq (free_reg (B := T.tab105_3_b) (Vs := (.exact _ :: .exact _ :: .exact (.int .i64 _) :: .exact (.int _ (((bl.length - 32 : Nat) : Int))) :: .exact _ :: .exact _ :: .exact _ :: .exact (.int .i64 _) :: .exact (.int _ (((bl.length - 32 : Nat) : Int))) :: .exact _ :: .exact _ :: .exact _ :: [])) T.tab105_3_i E T.mixed T.tab105_3 rfl (AllS.lasts ⟨trivial, trivial, trivial, trivial, trivial, trivial, trivial, trivial, trivial, trivial, trivial, trivial, trivial⟩) ⟨fv rfl rfl (fun x w hx hk => run_move rfl rfl),
      fv rfl rfl (fun x w hx hk => run_move rfl rfl),
      fv rfl rfl (fun x w hx hk => run_lenR rfl rfl rfl rfl T.slice54 (M.ext ((Ext.drew _).trans hx)).fact.2.2),
      fv rfl rfl (fun x w hx hk => num rfl ((i64_id (by omega) (by omega)).trans (by omega))),
      fv rfl rfl (fun x w hx hk => run_sliceR (lo := 0) (hi := (bl.length - 32)) rfl (M.ext ((Ext.drew _).trans hx)).fact.2.2 rfl T.slice54 T.size5 (rfl) (⟨_, _, rfl, rfl⟩) (Nat.zero_le _) (Nat.sub_le _ _)),
      fv rfl rfl (fun x w hx hk => run_move rfl rfl),
      fv rfl rfl (fun x w hx hk => run_move rfl rfl),
      fv rfl rfl (fun x w hx hk => run_lenR rfl rfl rfl rfl T.slice54 (M.ext ((Ext.drew _).trans hx)).fact.2.2),
      fv rfl rfl (fun x w hx hk => num rfl ((i64_id (by omega) (by omega)).trans (by omega))),
      fv rfl rfl (fun x w hx hk => run_sliceR (lo := (bl.length - 32)) (hi := bl.length) rfl (M.ext ((Ext.drew _).trans hx)).fact.2.2 rfl T.slice54 T.size5 (⟨_, _, rfl, rfl⟩) (rfl) (Nat.sub_le _ _) (Nat.le_refl _)),
      fv rfl rfl (fun x w hx hk => run_assign rfl rfl),
      fv rfl rfl (fun x w hx hk => run_assign rfl rfl), trivial⟩ ?_)
  intro x fr w hx hk E
  have M := M.ext hx
  refine then_normal ?_
  refine wp_seq (free_reg (B := T.tab105_4_b) (Vs := (.exact _ :: .exact _ :: .exact (.pointer (some ⟨_, 0, none⟩)) :: .exact (.map _) :: .exact _ :: .exact _ :: .exact _ :: .exact (strV hl) :: .exact _ :: .exact (strV (bl.take (bl.length - 32))) :: .exact (.agg ([_, _, _, _]).toArray) :: .exact (.tuple #[(.int .i64 0), .bool false]) :: .exact _ :: .exact ((.int .i64 0)) :: .exact (.bool false) :: .exact ((.int .i64 0)) :: .exact (.bool false) :: [])) T.tab105_4_i E T.mixed T.tab105_4 rfl (AllS.lasts ⟨trivial, trivial, trivial, trivial, trivial, trivial, trivial, trivial, trivial, trivial, trivial, trivial, trivial, trivial, trivial, trivial, trivial, trivial⟩) ⟨fv rfl rfl (fun x w hx hk => run_move rfl rfl),
      fv rfl rfl (fun x w hx hk => run_nilCheck rfl rfl),
      fv rfl rfl (fun x w hx hk => run_fieldAddr rfl rfl T.fld112_0),
      fv rfl rfl (fun x w hx hk => run_loadB rfl rfl T.one108 ((M.ext ((Ext.drew _).trans hx)).fact.1.ent 0 rfl) rfl),
      fv rfl rfl (fun x w hx hk => run_move rfl rfl),
      fv rfl rfl (fun x w hx hk => run_move rfl rfl),
      fv rfl rfl (fun x w hx hk => run_move rfl rfl),
      fv rfl rfl (fun x w hx hk => run_b2s rfl rfl (M.ext ((Ext.drew _).trans hx)).fact.2.1 T.slice54 T.u8T T.strT),
      fv rfl rfl (fun x w hx hk => run_move rfl rfl),
      fv rfl rfl (fun x w hx hk => run_b2s rfl rfl (Bytes.pre (k := bl.length - 32) (M.ext ((Ext.drew _).trans hx)).fact.2.2 (Nat.sub_le _ _)) T.slice54 T.u8T T.strT),
      fv rfl rfl (fun x w hx hk => run_buildP (vs := [_, _, _, _]) (us := [_, _, _, _]) rfl rfl T.ts175 T.zeroL175 rfl rfl rfl rfl),
      fv rfl rfl (fun x w hx hk => run_lookupN (V := sealK) (ks := N.ks) (k := (⟨e, n, hl, bl.take (bl.length - 32)⟩ : NKey)) (v := (.int .i64 0)) (b := false) rfl rfl rfl (names_fits T.namesM) T.zero3 ((M.ext ((Ext.drew _).trans hx)).fact.1.ent 2 rfl) (by rw [hm])),
      fv rfl rfl (fun x w hx hk => run_move rfl rfl),
      fv rfl rfl (fun x w hx hk => run_extract rfl rfl rfl),
      fv rfl rfl (fun x w hx hk => run_extract rfl rfl rfl),
      fv rfl rfl (fun x w hx hk => run_assign rfl rfl),
      fv rfl rfl (fun x w hx hk => run_assign rfl rfl), trivial⟩ ?_)
  intro x fr w hx hk E
  have M := M.ext hx
  refine then_normal ?_
  refine wp_seq ?_
  refine wp_seq (free_reg (B := T.tab105_5_b) (Vs := (.exact _ :: .exact (.bool _) :: .exact _ :: .exact undef :: .exact undef :: .exact undef :: .exact undef :: .exact undef :: .exact undef :: .exact undef :: .exact undef :: .exact (.bool _) :: [])) T.tab105_5_i E T.mixed T.tab105_5 rfl (AllS.lasts ⟨trivial, trivial, trivial, trivial, trivial, trivial, trivial, trivial, trivial, trivial, trivial, trivial, trivial⟩) ⟨fv rfl rfl (fun x w hx hk => run_move rfl rfl),
      fv rfl rfl (fun x w hx hk => rfl),
      fv rfl rfl (fun x w hx hk => run_move rfl rfl),
      fs_no rfl rfl (fun x => ⟨rfl, rfl⟩),
      fs_no rfl rfl (fun x => ⟨rfl, rfl⟩),
      fs_no rfl rfl (fun x => ⟨rfl, rfl⟩),
      fs_no rfl rfl (fun x => ⟨rfl, rfl⟩),
      fs_no rfl rfl (fun x => ⟨rfl, rfl⟩),
      fs_no rfl rfl (fun x => ⟨rfl, rfl⟩),
      fs_no rfl rfl (fun x => ⟨rfl, rfl⟩),
      fs_no rfl rfl (fun x => ⟨rfl, rfl⟩),
      fv rfl rfl (fun x w hx hk => rfl), trivial⟩ ?_)
  intro x fr w hx hk E
  have M := M.ext hx
  refine then_normal ?_
  refine cond_true E rfl (rfl) ?_
  refine code_region ?_
  refine sw E (run_assignC rfl) fun fr E => ?_
  refine sw E (run_assignC rfl) fun fr E => ?_
  refine seq_nil' ?_
  refine wp_ret ?_
  refine then_ret ?_
  refine ret2 E rfl rfl rfl ?_
  exact given M

set_option maxRecDepth 100000 in
theorem Open_bad {N : NV} {e n : Int} {h b : Value} {hl bl : List UInt8} {w0 : World} (H : Has w0 (nms 112 175 N)) (hh : Bytes w0 h hl) (hb : Bytes w0 b bl) (hz : bl.length ≤ 1099511627776) (hs : ¬ bl.length < 32) {m : Nat} (hm : nat' (⟨e, n, hl, bl.take (bl.length - 32)⟩ : NKey) N.ks 0 = some m) (hkz : N.ks.length ≤ 1099511627776) (ht : ¬ bl.drop (bl.length - 32) = (tagOf (m + 1))) : Gives Try.prog 105 [.pointer (some ⟨N.gn, 0, none⟩), .int .i64 e, .int .i64 n, h, b] w0 (.tuple #[.slice none 0 0, .bool false]) := by
  refine enter (n := 58) Try.func105 rfl rfl rfl ?_
  intro fr E
  have M : Mem w0 (feet []) [] (fun w' => Has w' (nms 112 175 N) ∧ Bytes w' h hl ∧ Bytes w' b bl) w0 := Mem.begin (Has.nil w0) (fun w' hw => ⟨H.held hw fun g hg c => feet_nil c, hh.held0 hw, hb.held0 hw⟩)
  refine code_region ?_
  refine sw E (run_assignC rfl) fun fr E => ?_
  refine sw E (run_assignC rfl) fun fr E => ?_
  refine seq_nil' ?_
  refine wp_seq ?_
  refine code_region ?_
  refine mv E fun fr E => ?_
  refine sw (v := .int .i64 _) E (run_lenR rfl rfl rfl rfl T.slice54 M.fact.2.2) fun fr E => ?_
  refine sw (v := .bool false) E (tst rfl (decide_eq_false (by omega))) fun fr E => ?_
  refine seq_nil' ?_
  refine cond_false E rfl (rfl) ?_
  refine wp_skip ?_
  refine then_normal ?_
  refine wp_seq (free_reg (B := T.tab105_3_b) (Vs := (.exact _ :: .exact _ :: .exact (.int .i64 _) :: .exact (.int _ (((bl.length - 32 : Nat) : Int))) :: .exact _ :: .exact _ :: .exact _ :: .exact (.int .i64 _) :: .exact (.int _ (((bl.length - 32 : Nat) : Int))) :: .exact _ :: .exact _ :: .exact _ :: [])) T.tab105_3_i E T.mixed T.tab105_3 rfl (AllS.lasts ⟨trivial, trivial, trivial, trivial, trivial, trivial, trivial, trivial, trivial, trivial, trivial, trivial, trivial⟩) ⟨fv rfl rfl (fun x w hx hk => run_move rfl rfl),
      fv rfl rfl (fun x w hx hk => run_move rfl rfl),
      fv rfl rfl (fun x w hx hk => run_lenR rfl rfl rfl rfl T.slice54 (M.ext ((Ext.drew _).trans hx)).fact.2.2),
      fv rfl rfl (fun x w hx hk => num rfl ((i64_id (by omega) (by omega)).trans (by omega))),
      fv rfl rfl (fun x w hx hk => run_sliceR (lo := 0) (hi := (bl.length - 32)) rfl (M.ext ((Ext.drew _).trans hx)).fact.2.2 rfl T.slice54 T.size5 (rfl) (⟨_, _, rfl, rfl⟩) (Nat.zero_le _) (Nat.sub_le _ _)),
      fv rfl rfl (fun x w hx hk => run_move rfl rfl),
      fv rfl rfl (fun x w hx hk => run_move rfl rfl),
      fv rfl rfl (fun x w hx hk => run_lenR rfl rfl rfl rfl T.slice54 (M.ext ((Ext.drew _).trans hx)).fact.2.2),
      fv rfl rfl (fun x w hx hk => num rfl ((i64_id (by omega) (by omega)).trans (by omega))),
      fv rfl rfl (fun x w hx hk => run_sliceR (lo := (bl.length - 32)) (hi := bl.length) rfl (M.ext ((Ext.drew _).trans hx)).fact.2.2 rfl T.slice54 T.size5 (⟨_, _, rfl, rfl⟩) (rfl) (Nat.sub_le _ _) (Nat.le_refl _)),
      fv rfl rfl (fun x w hx hk => run_assign rfl rfl),
      fv rfl rfl (fun x w hx hk => run_assign rfl rfl), trivial⟩ ?_)
  intro x fr w hx hk E
  have M := M.ext hx
  refine then_normal ?_
  refine wp_seq (free_reg (B := T.tab105_4_b) (Vs := (.exact _ :: .exact _ :: .exact (.pointer (some ⟨_, 0, none⟩)) :: .exact (.map _) :: .exact _ :: .exact _ :: .exact _ :: .exact (strV hl) :: .exact _ :: .exact (strV (bl.take (bl.length - 32))) :: .exact (.agg ([_, _, _, _]).toArray) :: .exact (.tuple #[(.int .i64 ((m + 1 : Nat) : Int)), .bool true]) :: .exact _ :: .exact ((.int .i64 ((m + 1 : Nat) : Int))) :: .exact (.bool true) :: .exact ((.int .i64 ((m + 1 : Nat) : Int))) :: .exact (.bool true) :: [])) T.tab105_4_i E T.mixed T.tab105_4 rfl (AllS.lasts ⟨trivial, trivial, trivial, trivial, trivial, trivial, trivial, trivial, trivial, trivial, trivial, trivial, trivial, trivial, trivial, trivial, trivial, trivial⟩) ⟨fv rfl rfl (fun x w hx hk => run_move rfl rfl),
      fv rfl rfl (fun x w hx hk => run_nilCheck rfl rfl),
      fv rfl rfl (fun x w hx hk => run_fieldAddr rfl rfl T.fld112_0),
      fv rfl rfl (fun x w hx hk => run_loadB rfl rfl T.one108 ((M.ext ((Ext.drew _).trans hx)).fact.1.ent 0 rfl) rfl),
      fv rfl rfl (fun x w hx hk => run_move rfl rfl),
      fv rfl rfl (fun x w hx hk => run_move rfl rfl),
      fv rfl rfl (fun x w hx hk => run_move rfl rfl),
      fv rfl rfl (fun x w hx hk => run_b2s rfl rfl (M.ext ((Ext.drew _).trans hx)).fact.2.1 T.slice54 T.u8T T.strT),
      fv rfl rfl (fun x w hx hk => run_move rfl rfl),
      fv rfl rfl (fun x w hx hk => run_b2s rfl rfl (Bytes.pre (k := bl.length - 32) (M.ext ((Ext.drew _).trans hx)).fact.2.2 (Nat.sub_le _ _)) T.slice54 T.u8T T.strT),
      fv rfl rfl (fun x w hx hk => run_buildP (vs := [_, _, _, _]) (us := [_, _, _, _]) rfl rfl T.ts175 T.zeroL175 rfl rfl rfl rfl),
      fv rfl rfl (fun x w hx hk => run_lookupN (V := sealK) (ks := N.ks) (k := (⟨e, n, hl, bl.take (bl.length - 32)⟩ : NKey)) (v := (.int .i64 ((m + 1 : Nat) : Int))) (b := true) rfl rfl rfl (names_fits T.namesM) T.zero3 ((M.ext ((Ext.drew _).trans hx)).fact.1.ent 2 rfl) (by rw [hm])),
      fv rfl rfl (fun x w hx hk => run_move rfl rfl),
      fv rfl rfl (fun x w hx hk => run_extract rfl rfl rfl),
      fv rfl rfl (fun x w hx hk => run_extract rfl rfl rfl),
      fv rfl rfl (fun x w hx hk => run_assign rfl rfl),
      fv rfl rfl (fun x w hx hk => run_assign rfl rfl), trivial⟩ ?_)
  intro x fr w hx hk E
  have M := M.ext hx
  refine then_normal ?_
  refine wp_seq ?_
  refine wp_seq (free_reg (B := T.tab105_5_b) (Vs := (.exact _ :: .exact (.bool _) :: .exact _ :: .exact _ :: (.rel fun w v => Bytes w v (List.replicate 24 0)) :: .exact _ :: CameV w.heap.size (fun v => [.bytes 5 v (be8 ((m + 1 : Nat) : Int))]) (fun _ => True) :: (.rel fun w v => RowsOf w v [List.replicate 24 0, be8 ((m + 1 : Nat) : Int)]) :: CameV w.heap.size (fun v => [.bytes 5 v (tagOf (m + 1))]) (fun _ => True) :: .exact (.bool false) :: .exact (.bool _) :: .exact (.bool _) :: [])) T.tab105_5_i E T.mixed T.tab105_5 rfl (AllS.lasts ⟨trivial, trivial, trivial, trivial, (fun w w' v hx h => Reads.ext h hx), trivial, LastsS.cameV, (fun w w' v hx h => h.ext hx), LastsS.cameV, trivial, trivial, trivial, trivial⟩) ⟨fv rfl rfl (fun x w hx hk => run_move rfl rfl),
      fv rfl rfl (fun x w hx hk => rfl),
      fv rfl rfl (fun x w hx hk => run_move rfl rfl),
      fv rfl rfl (fun x w hx hk => run_move rfl rfl),
      fs_rel rfl rfl (fun x w hx hk => ⟨rfl, rfl, rfl, made_fs (k := 24) rfl rfl rfl rfl rfl T.slice54 T.zt5 T.zc5 T.by5 (by decide)⟩),
      fv rfl rfl (fun x w hx hk => run_move rfl rfl),
      fs_ext rfl rfl (fun x w hx hk => ⟨_, _, rfl, rfl, rfl, run_call rfl rfl T.fn63, (nnumber_x ((m + 1 : Nat) : Int) _).extV hx.size⟩),
      fs_rel rfl rfl (fun x w hx hk => ⟨rfl, rfl, rfl, rows_fs [(x 4, List.replicate 24 0), (x 6, be8 ((m + 1 : Nat) : Int))] rfl rfl rfl rfl T.slice52 T.size54 T.zl54 rfl (rows2 (hk 4 rfl) ((hk 6 rfl).1.reads 0 rfl)) rfl rfl⟩),
      fs_ext rfl rfl (fun x w hx hk => ⟨_, _, rfl, rfl, rfl, run_call rfl rfl T.fn108, (Concat_e (ls := [List.replicate 24 0, be8 ((m + 1 : Nat) : Int)]) (hk 7 rfl) (by simp [tagOf]) (by simp) (by simp [tagOf, be8])).extV hx.size⟩),
      fs_ext rfl rfl (fun x w hx hk => ⟨_, _, rfl, rfl, rfl, run_call rfl rfl T.fn107, (Equal_b (r := false) (Bytes.suf (k := bl.length - 32) (M.ext ((Ext.drew _).trans hx)).fact.2.2 (Nat.sub_le _ _)) ((hk 8 rfl).1.reads 0 rfl) (by simp; omega) (decide_eq_false ht)).ext⟩),
      fv rfl rfl (fun x w hx hk => rfl),
      fv rfl rfl (fun x w hx hk => rfl), trivial⟩ ?_)
  intro x fr w hx hk E
  have M := M.ext hx
  refine then_normal ?_
  refine cond_true E rfl (rfl) ?_
  refine code_region ?_
  refine sw E (run_assignC rfl) fun fr E => ?_
  refine sw E (run_assignC rfl) fun fr E => ?_
  refine seq_nil' ?_
  refine wp_ret ?_
  refine then_ret ?_
  refine ret2 E rfl rfl rfl ?_
  exact given M

set_option maxRecDepth 100000 in
theorem Open_ok {N : NV} {e n : Int} {h b : Value} {hl bl : List UInt8} {w0 : World} (H : Has w0 (nms 112 175 N)) (hh : Bytes w0 h hl) (hb : Bytes w0 b bl) (hz : bl.length ≤ 1099511627776) (hs : ¬ bl.length < 32) {m : Nat} (hm : nat' (⟨e, n, hl, bl.take (bl.length - 32)⟩ : NKey) N.ks 0 = some m) (hkz : N.ks.length ≤ 1099511627776) (ht : bl.drop (bl.length - 32) = (tagOf (m + 1))) : Does Try.prog 105 [.pointer (some ⟨N.gn, 0, none⟩), .int .i64 e, .int .i64 n, h, b] w0 [] (fun c : Value => .tuple #[c, .bool true]) (fun c => [.bytes 5 c (bl.take (bl.length - 32))]) (fun _ => True) := by
  refine enter (n := 58) Try.func105 rfl rfl rfl ?_
  intro fr E
  have M : Mem w0 (feet []) [] (fun w' => Has w' (nms 112 175 N) ∧ Bytes w' h hl ∧ Bytes w' b bl) w0 := Mem.begin (Has.nil w0) (fun w' hw => ⟨H.held hw fun g hg c => feet_nil c, hh.held0 hw, hb.held0 hw⟩)
  refine code_region ?_
  refine sw E (run_assignC rfl) fun fr E => ?_
  refine sw E (run_assignC rfl) fun fr E => ?_
  refine seq_nil' ?_
  refine wp_seq ?_
  refine code_region ?_
  refine mv E fun fr E => ?_
  refine sw (v := .int .i64 _) E (run_lenR rfl rfl rfl rfl T.slice54 M.fact.2.2) fun fr E => ?_
  refine sw (v := .bool false) E (tst rfl (decide_eq_false (by omega))) fun fr E => ?_
  refine seq_nil' ?_
  refine cond_false E rfl (rfl) ?_
  refine wp_skip ?_
  refine then_normal ?_
  refine wp_seq (free_reg (B := T.tab105_3_b) (Vs := (.exact _ :: .exact _ :: .exact (.int .i64 _) :: .exact (.int _ (((bl.length - 32 : Nat) : Int))) :: .exact _ :: .exact _ :: .exact _ :: .exact (.int .i64 _) :: .exact (.int _ (((bl.length - 32 : Nat) : Int))) :: .exact _ :: .exact _ :: .exact _ :: [])) T.tab105_3_i E T.mixed T.tab105_3 rfl (AllS.lasts ⟨trivial, trivial, trivial, trivial, trivial, trivial, trivial, trivial, trivial, trivial, trivial, trivial, trivial⟩) ⟨fv rfl rfl (fun x w hx hk => run_move rfl rfl),
      fv rfl rfl (fun x w hx hk => run_move rfl rfl),
      fv rfl rfl (fun x w hx hk => run_lenR rfl rfl rfl rfl T.slice54 (M.ext ((Ext.drew _).trans hx)).fact.2.2),
      fv rfl rfl (fun x w hx hk => num rfl ((i64_id (by omega) (by omega)).trans (by omega))),
      fv rfl rfl (fun x w hx hk => run_sliceR (lo := 0) (hi := (bl.length - 32)) rfl (M.ext ((Ext.drew _).trans hx)).fact.2.2 rfl T.slice54 T.size5 (rfl) (⟨_, _, rfl, rfl⟩) (Nat.zero_le _) (Nat.sub_le _ _)),
      fv rfl rfl (fun x w hx hk => run_move rfl rfl),
      fv rfl rfl (fun x w hx hk => run_move rfl rfl),
      fv rfl rfl (fun x w hx hk => run_lenR rfl rfl rfl rfl T.slice54 (M.ext ((Ext.drew _).trans hx)).fact.2.2),
      fv rfl rfl (fun x w hx hk => num rfl ((i64_id (by omega) (by omega)).trans (by omega))),
      fv rfl rfl (fun x w hx hk => run_sliceR (lo := (bl.length - 32)) (hi := bl.length) rfl (M.ext ((Ext.drew _).trans hx)).fact.2.2 rfl T.slice54 T.size5 (⟨_, _, rfl, rfl⟩) (rfl) (Nat.sub_le _ _) (Nat.le_refl _)),
      fv rfl rfl (fun x w hx hk => run_assign rfl rfl),
      fv rfl rfl (fun x w hx hk => run_assign rfl rfl), trivial⟩ ?_)
  intro x fr w hx hk E
  have M := M.ext hx
  refine then_normal ?_
  refine wp_seq (free_reg (B := T.tab105_4_b) (Vs := (.exact _ :: .exact _ :: .exact (.pointer (some ⟨_, 0, none⟩)) :: .exact (.map _) :: .exact _ :: .exact _ :: .exact _ :: .exact (strV hl) :: .exact _ :: .exact (strV (bl.take (bl.length - 32))) :: .exact (.agg ([_, _, _, _]).toArray) :: .exact (.tuple #[(.int .i64 ((m + 1 : Nat) : Int)), .bool true]) :: .exact _ :: .exact ((.int .i64 ((m + 1 : Nat) : Int))) :: .exact (.bool true) :: .exact ((.int .i64 ((m + 1 : Nat) : Int))) :: .exact (.bool true) :: [])) T.tab105_4_i E T.mixed T.tab105_4 rfl (AllS.lasts ⟨trivial, trivial, trivial, trivial, trivial, trivial, trivial, trivial, trivial, trivial, trivial, trivial, trivial, trivial, trivial, trivial, trivial, trivial⟩) ⟨fv rfl rfl (fun x w hx hk => run_move rfl rfl),
      fv rfl rfl (fun x w hx hk => run_nilCheck rfl rfl),
      fv rfl rfl (fun x w hx hk => run_fieldAddr rfl rfl T.fld112_0),
      fv rfl rfl (fun x w hx hk => run_loadB rfl rfl T.one108 ((M.ext ((Ext.drew _).trans hx)).fact.1.ent 0 rfl) rfl),
      fv rfl rfl (fun x w hx hk => run_move rfl rfl),
      fv rfl rfl (fun x w hx hk => run_move rfl rfl),
      fv rfl rfl (fun x w hx hk => run_move rfl rfl),
      fv rfl rfl (fun x w hx hk => run_b2s rfl rfl (M.ext ((Ext.drew _).trans hx)).fact.2.1 T.slice54 T.u8T T.strT),
      fv rfl rfl (fun x w hx hk => run_move rfl rfl),
      fv rfl rfl (fun x w hx hk => run_b2s rfl rfl (Bytes.pre (k := bl.length - 32) (M.ext ((Ext.drew _).trans hx)).fact.2.2 (Nat.sub_le _ _)) T.slice54 T.u8T T.strT),
      fv rfl rfl (fun x w hx hk => run_buildP (vs := [_, _, _, _]) (us := [_, _, _, _]) rfl rfl T.ts175 T.zeroL175 rfl rfl rfl rfl),
      fv rfl rfl (fun x w hx hk => run_lookupN (V := sealK) (ks := N.ks) (k := (⟨e, n, hl, bl.take (bl.length - 32)⟩ : NKey)) (v := (.int .i64 ((m + 1 : Nat) : Int))) (b := true) rfl rfl rfl (names_fits T.namesM) T.zero3 ((M.ext ((Ext.drew _).trans hx)).fact.1.ent 2 rfl) (by rw [hm])),
      fv rfl rfl (fun x w hx hk => run_move rfl rfl),
      fv rfl rfl (fun x w hx hk => run_extract rfl rfl rfl),
      fv rfl rfl (fun x w hx hk => run_extract rfl rfl rfl),
      fv rfl rfl (fun x w hx hk => run_assign rfl rfl),
      fv rfl rfl (fun x w hx hk => run_assign rfl rfl), trivial⟩ ?_)
  intro x fr w hx hk E
  have M := M.ext hx
  refine then_normal ?_
  refine wp_seq ?_
  refine wp_seq (free_reg (B := T.tab105_5_b) (Vs := (.exact _ :: .exact (.bool _) :: .exact _ :: .exact _ :: (.rel fun w v => Bytes w v (List.replicate 24 0)) :: .exact _ :: CameV w.heap.size (fun v => [.bytes 5 v (be8 ((m + 1 : Nat) : Int))]) (fun _ => True) :: (.rel fun w v => RowsOf w v [List.replicate 24 0, be8 ((m + 1 : Nat) : Int)]) :: CameV w.heap.size (fun v => [.bytes 5 v (tagOf (m + 1))]) (fun _ => True) :: .exact (.bool true) :: .exact (.bool _) :: .exact (.bool _) :: [])) T.tab105_5_i E T.mixed T.tab105_5 rfl (AllS.lasts ⟨trivial, trivial, trivial, trivial, (fun w w' v hx h => Reads.ext h hx), trivial, LastsS.cameV, (fun w w' v hx h => h.ext hx), LastsS.cameV, trivial, trivial, trivial, trivial⟩) ⟨fv rfl rfl (fun x w hx hk => run_move rfl rfl),
      fv rfl rfl (fun x w hx hk => rfl),
      fv rfl rfl (fun x w hx hk => run_move rfl rfl),
      fv rfl rfl (fun x w hx hk => run_move rfl rfl),
      fs_rel rfl rfl (fun x w hx hk => ⟨rfl, rfl, rfl, made_fs (k := 24) rfl rfl rfl rfl rfl T.slice54 T.zt5 T.zc5 T.by5 (by decide)⟩),
      fv rfl rfl (fun x w hx hk => run_move rfl rfl),
      fs_ext rfl rfl (fun x w hx hk => ⟨_, _, rfl, rfl, rfl, run_call rfl rfl T.fn63, (nnumber_x ((m + 1 : Nat) : Int) _).extV hx.size⟩),
      fs_rel rfl rfl (fun x w hx hk => ⟨rfl, rfl, rfl, rows_fs [(x 4, List.replicate 24 0), (x 6, be8 ((m + 1 : Nat) : Int))] rfl rfl rfl rfl T.slice52 T.size54 T.zl54 rfl (rows2 (hk 4 rfl) ((hk 6 rfl).1.reads 0 rfl)) rfl rfl⟩),
      fs_ext rfl rfl (fun x w hx hk => ⟨_, _, rfl, rfl, rfl, run_call rfl rfl T.fn108, (Concat_e (ls := [List.replicate 24 0, be8 ((m + 1 : Nat) : Int)]) (hk 7 rfl) (by simp [tagOf]) (by simp) (by simp [tagOf, be8])).extV hx.size⟩),
      fs_ext rfl rfl (fun x w hx hk => ⟨_, _, rfl, rfl, rfl, run_call rfl rfl T.fn107, (Equal_b (r := true) (Bytes.suf (k := bl.length - 32) (M.ext ((Ext.drew _).trans hx)).fact.2.2 (Nat.sub_le _ _)) ((hk 8 rfl).1.reads 0 rfl) (by simp; omega) (decide_eq_true ht)).ext⟩),
      fv rfl rfl (fun x w hx hk => rfl),
      fv rfl rfl (fun x w hx hk => rfl), trivial⟩ ?_)
  intro x fr w hx hk E
  have M := M.ext hx
  refine then_normal ?_
  refine cond_false E rfl (rfl) ?_
  refine wp_skip ?_
  refine then_normal ?_
  refine code_region ?_
  refine mv E fun fr E => ?_
  refine scall E M rfl rfl rfl rfl rfl (run_call rfl rfl T.fn28) (Clone_x (Bytes.pre (k := bl.length - 32) M.fact.2.2 (Nat.sub_le _ _)) (by simp; omega)) rfl ?_
  rintro c fr w - M E
  refine ma E fun fr E => ?_
  refine sw E (run_assignC rfl) fun fr E => ?_
  refine seq_nil' ?_
  refine wp_ret ?_
  refine ret2 E rfl rfl rfl ?_
  exact ⟨_, rfl, M.fin (.refl _) trivial⟩

theorem Open_no {N : NV} {e n : Int} {h b : Value} {hl bl : List UInt8} {w0 : World} (H : Has w0 [nmE N]) (hh : Bytes w0 h hl) (hb : Bytes w0 b bl) (hz : bl.length ≤ 1099511627776) (hkz : N.ks.length ≤ 1099511627776) (ho : openN N.ks e n hl bl = none) : Gives Try.prog 105 [.pointer (some ⟨N.gn, 0, none⟩), .int .i64 e, .int .i64 n, h, b] w0 (.tuple #[.slice none 0 0, .bool false]) := by
  have H := H.unpack1
  by_cases hs : bl.length < 32
  · exact Open_short H hh hb hz hs
  · unfold openN at ho
    rw [if_neg hs] at ho
    cases hm : nat' (⟨e, n, hl, bl.take (bl.length - 32)⟩ : NKey) N.ks 0 with
    | none => exact Open_none H hh hb hz hs hm
    | some m =>
      rw [hm] at ho
      simp only at ho
      split at ho
      · cases ho
      · rename_i ht
        exact Open_bad H hh hb hz hs hm hkz ht
theorem Open_yes {N : NV} {e n : Int} {h b : Value} {hl bl q : List UInt8} {w0 : World} (H : Has w0 [nmE N]) (hh : Bytes w0 h hl) (hb : Bytes w0 b bl) (hz : bl.length ≤ 1099511627776) (hkz : N.ks.length ≤ 1099511627776) (ho : openN N.ks e n hl bl = some q) : Does Try.prog 105 [.pointer (some ⟨N.gn, 0, none⟩), .int .i64 e, .int .i64 n, h, b] w0 [] (fun c : Value => .tuple #[c, .bool true]) (fun c => [.bytes 5 c q]) (fun _ => True) := by
  have H := H.unpack1
  by_cases hs : bl.length < 32
  · unfold openN at ho
    rw [if_pos hs] at ho
    cases ho
  · unfold openN at ho
    rw [if_neg hs] at ho
    cases hm : nat' (⟨e, n, hl, bl.take (bl.length - 32)⟩ : NKey) N.ks 0 with
    | none => rw [hm] at ho; cases ho
    | some m =>
      rw [hm] at ho
      simp only at ho
      split at ho
      · rename_i ht
        injection ho with ho
        subst ho
        exact Open_ok H hh hb hz hs hm hkz ht
      · cases ho
end Go.Proofs.Ytnebjbgcibjohaa.K
end

/- Facts on this translation's types and functions. -/
import Derived.Test.YtnebjbgcibjohaaGreatProg
import Derived.Test.YtnebjbgcibjohaaGreatRR
import Derived.Test.YtnebjbgcibjohaaGreatRS
section
namespace Go.Rill.T
open Go.Proofs
theorem fn18 : goFn Tryz.prog 18 = true := by kernel_rfl
theorem fn22 : goFn Tryz.prog 22 = true := by kernel_rfl
abbrev tab4_13_b : List Nat := [0, 0, 0, 4, 0, 31, 63, 127, 255, 255, 255, 1279, 255, 8191, 16383, 32767, 65535, 131071, 262143, 524287, 1048575]
abbrev tab4_13_i : List Nat := [0, 1, 2, 3, 4, 5, 6, 7, 8, 9, 10, 11, 12, 13, 14, 15, 16, 17, 18, 19, 20]
theorem tab4_13 : tabOk (regOps Tryz.f4 13) tab4_13_b 136 = true := by kernel_rfl
end Go.Rill.T
end
section
namespace Go.Rill.T
open Go.Proofs
theorem fn19 : goFn Tryz.prog 19 = true := by kernel_rfl
end Go.Rill.T
end
section
namespace Go.Rill.T
open Go.Proofs
theorem fn10 : goFn Tryz.prog 10 = true := by kernel_rfl
theorem fn20 : goFn Tryz.prog 20 = true := by kernel_rfl
theorem fn23 : goFn Tryz.prog 23 = true := by kernel_rfl
theorem fn26 : goFn Tryz.prog 26 = true := by kernel_rfl
theorem fn27 : goFn Tryz.prog 27 = true := by kernel_rfl
theorem fn28 : goFn Tryz.prog 28 = true := by kernel_rfl
theorem fn6 : goFn Tryz.prog 6 = true := by kernel_rfl
theorem fn9 : goFn Tryz.prog 9 = true := by kernel_rfl
end Go.Rill.T
end
section
namespace Go.Rill.T
open Go.Proofs
theorem fn33 : goFn Tryz.prog 33 = true := by kernel_rfl
theorem fn35 : goFn Tryz.prog 35 = true := by kernel_rfl
theorem fn36 : goFn Tryz.prog 36 = true := by kernel_rfl
theorem fn38 : goFn Tryz.prog 38 = true := by kernel_rfl
theorem fn40 : goFn Tryz.prog 40 = true := by kernel_rfl
theorem fn41 : goFn Tryz.prog 41 = true := by kernel_rfl
theorem one90 : tyOne Tryz.prog 90 = true := by kernel_rfl
theorem size90 : tySize Tryz.prog 90 1 = true := by kernel_rfl
theorem slice94 : tySlice Tryz.prog 94 90 = true := by kernel_rfl
theorem zl90 : (zeroOf Tryz.prog 90).map (·.cells.toList) = some [.nilFunc] := by kernel_rfl
end Go.Rill.T
end
section
namespace Go.Rill.T
open Go.Proofs
theorem fn37 : goFn Tryz.prog 37 = true := by kernel_rfl
theorem fn39 : goFn Tryz.prog 39 = true := by kernel_rfl
theorem fn42 : goFn Tryz.prog 42 = true := by kernel_rfl
theorem one84 : tyOne Tryz.prog 84 = true := by kernel_rfl
abbrev tab41_1_b : List Nat := [0, 0, 2, 7, 15]
abbrev tab41_1_i : List Nat := [0, 1, 2, 3, 4]
theorem tab41_1 : tabOk (regOps Tryz.f41 1) tab41_1_b 7 = true := by kernel_rfl
end Go.Rill.T
end
section
namespace Go.Rill.T
open Go.Proofs
theorem fn11 : goFn Tryz.prog 11 = true := by kernel_rfl
theorem fn14 : goFn Tryz.prog 14 = true := by kernel_rfl
theorem fn15 : goFn Tryz.prog 15 = true := by kernel_rfl
theorem fn17 : goFn Tryz.prog 17 = true := by kernel_rfl
theorem fn29 : goFn Tryz.prog 29 = true := by kernel_rfl
theorem fn34 : goFn Tryz.prog 34 = true := by kernel_rfl
theorem fn55 : goFn Tryz.prog 55 = true := by kernel_rfl
theorem one29 : tyOne Tryz.prog 29 = true := by kernel_rfl
abbrev tab33_4_b : List Nat := [0, 1, 0, 7, 15, 31]
abbrev tab33_4_i : List Nat := [0, 1, 2, 3, 4, 5]
theorem tab33_4 : tabOk (regOps Tryz.f33 4) tab33_4_b 30 = true := by kernel_rfl
abbrev tab35_1_b : List Nat := [0, 0, 2, 6, 15, 31]
abbrev tab35_1_i : List Nat := [0, 1, 2, 3, 4, 5]
theorem tab35_1 : tabOk (regOps Tryz.f35 1) tab35_1_b 7 = true := by kernel_rfl
end Go.Rill.T
end
section
namespace Go.Rill.T
open Go.Proofs
theorem fn133 : goFn Tryz.prog 133 = true := by kernel_rfl
theorem fn16 : goFn Tryz.prog 16 = true := by kernel_rfl
theorem fn56 : goFn Tryz.prog 56 = true := by kernel_rfl
theorem meth31_Sum : tyMeth Tryz.prog 31 "Sum" 133 = true := by kernel_rfl
abbrev tab56_4_b : List Nat := [0, 1, 3, 0, 8, 31, 0, 64, 255, 511, 1023]
abbrev tab56_4_i : List Nat := [0, 1, 2, 3, 4, 5, 6, 7, 8, 9, 10]
theorem tab56_4 : tabOk (regOps Tryz.f56 4) tab56_4_b 19 = true := by kernel_rfl
end Go.Rill.T
end
section
namespace Go.Rill.T
open Go.Proofs
theorem fld82_2 : tyFld Tryz.prog 82 2 2 = true := by kernel_rfl
theorem one79 : tyOne Tryz.prog 79 = true := by kernel_rfl
abbrev tab133_1_b : List Nat := [0, 1, 3, 7, 0, 16, 63, 127, 255, 255, 511, 2047]
abbrev tab133_1_i : List Nat := [0, 1, 2, 3, 4, 5, 6, 7, 8, 9, 10, 11]
theorem tab133_1 : tabOk (regOps Tryz.f133 1) tab133_1_b 45 = true := by kernel_rfl
abbrev tab133_11_b : List Nat := [0, 0, 2, 7]
abbrev tab133_11_i : List Nat := [0, 1, 2, 3]
theorem tab133_11 : tabOk (regOps Tryz.f133 11) tab133_11_b 45 = true := by kernel_rfl
abbrev tab133_4_b : List Nat := [0, 1, 3, 7, 0, 16, 0, 127]
theorem tab133_4 : tabOk (regOps Tryz.f133 4) tab133_4_b 45 = true := by kernel_rfl
abbrev tab133_4_j : List Nat := [0, 1, 2, 3, 4, 5, 6]
theorem textsM : tyTexts Tryz.prog 79 9 3 = true := by kernel_rfl
end Go.Rill.T
end
section
namespace Go.Rill.T
open Go.Proofs
theorem agg75 : tyAgg Tryz.prog 75 1 = true := by kernel_rfl
theorem fld75_0 : tyFld Tryz.prog 75 0 0 = true := by kernel_rfl
theorem fld77_0 : tyFld Tryz.prog 77 0 0 = true := by kernel_rfl
theorem fld77_1 : tyFld Tryz.prog 77 1 1 = true := by kernel_rfl
theorem fn51 : goFn Tryz.prog 51 = true := by kernel_rfl
theorem one23 : tyOne Tryz.prog 23 = true := by kernel_rfl
theorem ts75 : tyStruct Tryz.prog 75 [1] [.pointer none] = true := by kernel_rfl
theorem ts77 : tyStruct Tryz.prog 77 [1, 1] [.pointer none, .int .i64 0] = true := by kernel_rfl
theorem zeroL75 : zeroOf Tryz.prog 75 = some (.agg [.pointer none].toArray) := by kernel_rfl
theorem zeroL77 : zeroOf Tryz.prog 77 = some (.agg [.pointer none, .int .i64 0].toArray) := by kernel_rfl
end Go.Rill.T
end
section
namespace Go.Rill.T
open Go.Proofs
theorem agg111 : tyAgg Tryz.prog 111 3 = true := by kernel_rfl
theorem agg35 : tyAgg Tryz.prog 35 3 = true := by kernel_rfl
theorem fld111_0 : tyFld Tryz.prog 111 0 0 = true := by kernel_rfl
theorem fld111_1 : tyFld Tryz.prog 111 1 1 = true := by kernel_rfl
theorem fld111_2 : tyFld Tryz.prog 111 2 2 = true := by kernel_rfl
theorem fld35_0 : tyFld Tryz.prog 35 0 0 = true := by kernel_rfl
theorem fld35_1 : tyFld Tryz.prog 35 1 1 = true := by kernel_rfl
theorem fld35_2 : tyFld Tryz.prog 35 2 2 = true := by kernel_rfl
theorem fn30 : goFn Tryz.prog 30 = true := by kernel_rfl
theorem fn52 : goFn Tryz.prog 52 = true := by kernel_rfl
theorem fn53 : goFn Tryz.prog 53 = true := by kernel_rfl
theorem fn54 : goFn Tryz.prog 54 = true := by kernel_rfl
theorem size111 : tySize Tryz.prog 111 3 = true := by kernel_rfl
theorem size35 : tySize Tryz.prog 35 3 = true := by kernel_rfl
theorem slice130 : tySlice Tryz.prog 130 111 = true := by kernel_rfl
abbrev tab30_1_b : List Nat := [0, 1, 3, 0, 8, 24, 0, 64, 192, 511, 1023, 2047, 4095, 8191, 16383, 4095, 36863, 4095, 4095, 266239, 921599, 2068479, 4165631, 4095, 10358783, 27135999, 67080191, 134217727, 268435455, 536870911]
abbrev tab30_1_i : List Nat := [0, 1, 2, 3, 4, 5, 6, 7, 8, 9, 10, 11, 12, 13, 14, 15, 16, 17, 18, 19, 20, 21, 22, 23, 24, 25, 26, 27, 28, 29]
theorem tab30_1 : tabOk (regOps Tryz.f30 1) tab30_1_b 32 = true := by kernel_rfl
theorem ts111 : tyStruct Tryz.prog 111 [1, 1, 1] [.int .i64 0, .int .i64 0, .int .i64 0] = true := by kernel_rfl
theorem ts35 : tyStruct Tryz.prog 35 [1, 1, 1] [.int .i64 0, .int .i64 0, .int .i64 0] = true := by kernel_rfl
theorem zero111 : zeroOf Tryz.prog 111 = some (.agg #[.int .i64 0, .int .i64 0, .int .i64 0]) := by kernel_rfl
theorem zero35 : zeroOf Tryz.prog 35 = some (.agg #[.int .i64 0, .int .i64 0, .int .i64 0]) := by kernel_rfl
theorem zeroL111 : zeroOf Tryz.prog 111 = some (.agg [.int .i64 0, .int .i64 0, .int .i64 0].toArray) := by kernel_rfl
theorem zeroL35 : zeroOf Tryz.prog 35 = some (.agg [.int .i64 0, .int .i64 0, .int .i64 0].toArray) := by kernel_rfl
theorem zl111 : (zeroOf Tryz.prog 111).map (·.cells.toList) = some [.int .i64 0, .int .i64 0, .int .i64 0] := by kernel_rfl
end Go.Rill.T
end
section
namespace Go.Rill.T
open Go.Proofs
theorem fn21 : goFn Tryz.prog 21 = true := by kernel_rfl
theorem fn45 : goFn Tryz.prog 45 = true := by kernel_rfl
theorem fn50 : goFn Tryz.prog 50 = true := by kernel_rfl
theorem fn57 : goFn Tryz.prog 57 = true := by kernel_rfl
theorem fn58 : goFn Tryz.prog 58 = true := by kernel_rfl
theorem fn59 : goFn Tryz.prog 59 = true := by kernel_rfl
theorem fn60 : goFn Tryz.prog 60 = true := by kernel_rfl
theorem fn71 : goFn Tryz.prog 71 = true := by kernel_rfl
abbrev tab39_4_b : List Nat := [0, 0, 2, 0, 0, 16, 0, 126, 255, 511, 1023, 1023, 2047, 8191]
abbrev tab39_4_i : List Nat := [0, 1, 2, 3, 4, 5, 6, 7, 8, 9, 10, 11, 12, 13]
theorem tab39_4 : tabOk (regOps Tryz.f39 4) tab39_4_b 40 = true := by kernel_rfl
abbrev tab50_8_b : List Nat := [0, 0, 2, 6, 14, 30, 14, 78, 254, 510, 1022, 2046, 4094, 2046, 16382, 32766, 8191, 131071]
abbrev tab50_8_i : List Nat := [0, 1, 2, 3, 4, 5, 6, 7, 8, 9, 10, 11, 12, 13, 14, 15, 16, 17]
theorem tab50_8 : tabOk (regOps Tryz.f50 8) tab50_8_b 53 = true := by kernel_rfl
theorem zl62 : (zeroOf Tryz.prog 62).map (·.cells.toList) = some [.int .i64 0, .int .i64 0, .int .i64 0, .int .u8 0, .int .u8 0, .int .u8 0, .int .u8 0, .int .u8 0, .int .u8 0, .int .u8 0, .int .u8 0, .int .u8 0, .int .u8 0, .int .u8 0, .int .u8 0, .int .u8 0, .int .u8 0, .int .u8 0, .int .u8 0, .int .u8 0, .int .u8 0, .int .u8 0, .int .u8 0, .int .u8 0, .int .u8 0, .int .u8 0, .int .u8 0, .int .u8 0, .int .u8 0, .int .u8 0, .int .u8 0, .int .u8 0, .int .u8 0, .int .u8 0, .int .u8 0, .int .i64 0, .int .u8 0, .int .u8 0, .int .u8 0, .int .u8 0, .int .u8 0, .int .u8 0, .int .u8 0, .int .u8 0, .int .u8 0, .int .u8 0, .int .u8 0, .int .u8 0, .int .u8 0, .int .u8 0, .int .u8 0, .int .u8 0, .int .u8 0, .int .u8 0, .int .u8 0, .int .u8 0, .int .u8 0, .int .u8 0, .int .u8 0, .int .u8 0, .int .u8 0, .int .u8 0, .int .u8 0, .int .u8 0, .int .u8 0, .int .u8 0, .int .u8 0, .int .u8 0, .int .i64 0, .int .i64 0, .int .i64 0, .int .i64 0, .int .u8 0, .int .u8 0, .int .u8 0, .int .u8 0, .int .u8 0, .int .u8 0, .int .u8 0, .int .u8 0, .int .u8 0, .int .u8 0, .int .u8 0, .int .u8 0, .int .u8 0, .int .u8 0, .int .u8 0, .int .u8 0, .int .u8 0, .int .u8 0, .int .u8 0, .int .u8 0, .int .u8 0, .int .u8 0, .int .u8 0, .int .u8 0, .int .u8 0, .int .u8 0, .int .u8 0, .int .u8 0, .int .u8 0, .int .u8 0, .int .u8 0, .int .u8 0, .int .u8 0, .int .u8 0, .int .u8 0, .int .u8 0, .int .u8 0, .int .u8 0, .int .u8 0, .int .u8 0, .int .u8 0, .int .u8 0, .int .u8 0, .int .u8 0, .int .u8 0, .int .u8 0, .int .u8 0, .int .u8 0, .int .u8 0, .int .u8 0, .int .u8 0, .int .u8 0, .int .u8 0, .int .u8 0, .int .u8 0, .int .u8 0, .int .u8 0, .int .u8 0, .int .u8 0, .int .u8 0, .int .u8 0, .int .u8 0, .int .u8 0, .int .u8 0] := by kernel_rfl
end Go.Rill.T
end
section
namespace Go.Rill.T
open Go.Proofs
theorem by3 : tyBytes' Tryz.prog 3 8 = true := by kernel_rfl
theorem by36 : tyBytes' Tryz.prog 36 24 = true := by kernel_rfl
abbrev tab6_3_b : List Nat := [0, 1, 0, 0, 8, 31, 63, 127, 255]
abbrev tab6_3_i : List Nat := [0, 1, 2, 3, 4, 5, 6, 7, 8]
theorem tab6_3 : tabOk (regOps Tryz.f6 3) tab6_3_b 17 = true := by kernel_rfl
theorem ts71 : tyStruct Tryz.prog 71 [1, 1, 1, 1, 1, 1, 1] [.slice none 0 0, .map none, .bool false, .int .i64 0, .bool false, .int .i64 0, .slice none 0 0] = true := by kernel_rfl
theorem zc3 : (zeroOf Tryz.prog 3).map (·.cells) = some #[.int .i64 0] := by kernel_rfl
theorem zc36 : (zeroOf Tryz.prog 36).map (·.cells) = some #[.slice none 0 0] := by kernel_rfl
theorem zeroL71 : zeroOf Tryz.prog 71 = some (.agg [.slice none 0 0, .map none, .bool false, .int .i64 0, .bool false, .int .i64 0, .slice none 0 0].toArray) := by kernel_rfl
theorem zt3 : tyZero Tryz.prog 3 1 = true := by kernel_rfl
theorem zt36 : tyZero Tryz.prog 36 1 = true := by kernel_rfl
end Go.Rill.T
end
section
namespace Go.Rill.T
open Go.Proofs
theorem agg99 : tyAgg Tryz.prog 99 5 = true := by kernel_rfl
theorem fld99_0 : tyFld Tryz.prog 99 0 0 = true := by kernel_rfl
theorem fld99_1 : tyFld Tryz.prog 99 1 1 = true := by kernel_rfl
theorem fld99_2 : tyFld Tryz.prog 99 2 2 = true := by kernel_rfl
theorem fld99_3 : tyFld Tryz.prog 99 3 3 = true := by kernel_rfl
theorem fld99_4 : tyFld Tryz.prog 99 4 4 = true := by kernel_rfl
theorem fn131 : goFn Tryz.prog 131 = true := by kernel_rfl
theorem fn132 : goFn Tryz.prog 132 = true := by kernel_rfl
theorem fn64 : goFn Tryz.prog 64 = true := by kernel_rfl
theorem fn67 : goFn Tryz.prog 67 = true := by kernel_rfl
theorem fn68 : goFn Tryz.prog 68 = true := by kernel_rfl
theorem meth31_Open : tyMeth Tryz.prog 31 "Open" 131 = true := by kernel_rfl
theorem meth31_Seal : tyMeth Tryz.prog 31 "Seal" 132 = true := by kernel_rfl
theorem size99 : tySize Tryz.prog 99 5 = true := by kernel_rfl
abbrev tab45_11_b : List Nat := [0, 0, 2, 0, 8, 0, 0, 96, 0, 256, 1, 1025, 3073, 8191, 16383, 32767, 32767, 65535, 262143]
abbrev tab45_11_i : List Nat := [0, 1, 2, 3, 4, 5, 6, 7, 8, 9, 10, 11, 12, 13, 14, 15, 16, 17, 18]
theorem tab45_11 : tabOk (regOps Tryz.f45 11) tab45_11_b 75 = true := by kernel_rfl
abbrev tab57_8_b : List Nat := [0, 1, 3, 7, 0, 16, 63, 0, 128, 511, 1023]
abbrev tab57_8_i : List Nat := [0, 1, 2, 3, 4, 5, 6, 7, 8, 9, 10]
theorem tab57_8 : tabOk (regOps Tryz.f57 8) tab57_8_b 56 = true := by kernel_rfl
abbrev tab57_9_b : List Nat := [0, 0, 0, 4, 0, 16, 0, 64, 0, 256, 960, 0, 2048, 2, 8194, 24578, 65534, 131071, 262143, 524287]
abbrev tab57_9_i : List Nat := [0, 1, 2, 3, 4, 5, 6, 7, 8, 9, 10, 11, 12, 13, 14, 15, 16, 17, 18, 19]
theorem tab57_9 : tabOk (regOps Tryz.f57 9) tab57_9_b 56 = true := by kernel_rfl
theorem ts99 : tyStruct Tryz.prog 99 [1, 1, 1, 1, 1] [.int .i64 0, .int .i64 0, .int .i64 0, .int .i64 0, .slice none 0 0] = true := by kernel_rfl
theorem zero99 : zeroOf Tryz.prog 99 = some (.agg #[.int .i64 0, .int .i64 0, .int .i64 0, .int .i64 0, .slice none 0 0]) := by kernel_rfl
theorem zeroL99 : zeroOf Tryz.prog 99 = some (.agg [.int .i64 0, .int .i64 0, .int .i64 0, .int .i64 0, .slice none 0 0].toArray) := by kernel_rfl
end Go.Rill.T
end
section
namespace Go.Rill.T
open Go.Proofs
theorem agg189 : tyAgg Tryz.prog 189 4 = true := by kernel_rfl
theorem by189 : tyBytes' Tryz.prog 189 48 = true := by kernel_rfl
theorem fld82_0 : tyFld Tryz.prog 82 0 0 = true := by kernel_rfl
theorem fld82_1 : tyFld Tryz.prog 82 1 1 = true := by kernel_rfl
theorem fn134 : goFn Tryz.prog 134 = true := by kernel_rfl
theorem fn135 : goFn Tryz.prog 135 = true := by kernel_rfl
theorem fn136 : goFn Tryz.prog 136 = true := by kernel_rfl
theorem fn137 : goFn Tryz.prog 137 = true := by kernel_rfl
theorem namesM : tyNames Tryz.prog 78 189 3 = true := by kernel_rfl
theorem one78 : tyOne Tryz.prog 78 = true := by kernel_rfl
theorem one80 : tyOne Tryz.prog 80 = true := by kernel_rfl
theorem size189 : tySize Tryz.prog 189 4 = true := by kernel_rfl
theorem size80 : tySize Tryz.prog 80 1 = true := by kernel_rfl
theorem slice80 : tySlice Tryz.prog 80 189 = true := by kernel_rfl
theorem strT : Tryz.prog.underlying 9 = some .string := by kernel_rfl
abbrev tab131_3_b : List Nat := [0, 0, 2, 6, 15, 0, 0, 64, 192, 480, 31, 2047]
abbrev tab131_3_i : List Nat := [0, 1, 2, 3, 4, 5, 6, 7, 8, 9, 10, 11]
theorem tab131_3 : tabOk (regOps Tryz.f131 3) tab131_3_b 58 = true := by kernel_rfl
abbrev tab131_4_b : List Nat := [0, 1, 3, 7, 0, 0, 0, 64, 0, 256, 1008, 2047, 4095, 8191, 8191, 16383, 65535]
abbrev tab131_4_i : List Nat := [0, 1, 2, 3, 4, 5, 6, 7, 8, 9, 10, 11, 12, 13, 14, 15, 16]
theorem tab131_4 : tabOk (regOps Tryz.f131 4) tab131_4_b 58 = true := by kernel_rfl
abbrev tab131_5_b : List Nat := [0, 1, 3, 7, 7, 7, 39, 119, 247, 511, 1023, 2047]
abbrev tab131_5_i : List Nat := [0, 1, 2, 3, 4, 5, 6, 7, 8, 9, 10, 11]
theorem tab131_5 : tabOk (regOps Tryz.f131 5) tab131_5_b 58 = true := by kernel_rfl
abbrev tab132_4_b : List Nat := [0, 1, 3, 7, 0, 31, 63, 127, 127, 255, 1023]
abbrev tab132_4_i : List Nat := [0, 1, 2, 3, 4, 5, 6, 7, 8, 9, 10]
theorem tab132_4 : tabOk (regOps Tryz.f132 4) tab132_4_b 67 = true := by kernel_rfl
abbrev tab132_6_b : List Nat := [0, 0, 2, 6, 14, 0, 32, 126, 255, 511, 1023]
theorem tab132_6 : tabOk (regOps Tryz.f132 6) tab132_6_b 67 = true := by kernel_rfl
abbrev tab132_6_j : List Nat := [0, 1, 2, 3, 4, 5, 6, 7, 8, 9]
abbrev tab132_8_b : List Nat := [0, 1, 3, 7, 0, 0, 63]
theorem tab132_8 : tabOk (regOps Tryz.f132 8) tab132_8_b 67 = true := by kernel_rfl
abbrev tab132_8_j : List Nat := [0, 1, 2, 3, 4, 5]
abbrev tab132_9_b : List Nat := [0, 0, 0, 4, 15, 31, 63]
abbrev tab132_9_i : List Nat := [0, 1, 2, 3, 4, 5, 6]
theorem tab132_9 : tabOk (regOps Tryz.f132 9) tab132_9_b 67 = true := by kernel_rfl
theorem ts189 : tyStruct Tryz.prog 189 [1, 1, 1, 1] [.int .i64 0, .int .i64 0, .string .empty, .string .empty] = true := by kernel_rfl
theorem ts82 : tyStruct Tryz.prog 82 [1, 1, 1] [.map none, .slice none 0 0, .map none] = true := by kernel_rfl
theorem u8T : Tryz.prog.underlying 5 = some (.int .u8) := by kernel_rfl
theorem zero189 : zeroOf Tryz.prog 189 = some (.agg #[.int .i64 0, .int .i64 0, .string .empty, .string .empty]) := by kernel_rfl
theorem zero3 : zeroOf Tryz.prog 3 = some (.int .i64 0) := by kernel_rfl
theorem zeroL189 : zeroOf Tryz.prog 189 = some (.agg [.int .i64 0, .int .i64 0, .string .empty, .string .empty].toArray) := by kernel_rfl
theorem zeroL82 : zeroOf Tryz.prog 82 = some (.agg [.map none, .slice none 0 0, .map none].toArray) := by kernel_rfl
theorem zl189 : (zeroOf Tryz.prog 189).map (·.cells.toList) = some [.int .i64 0, .int .i64 0, .string .empty, .string .empty] := by kernel_rfl
theorem zl36 : (zeroOf Tryz.prog 36).map (·.cells.toList) = some [.slice none 0 0] := by kernel_rfl
theorem zt189 : tyZero Tryz.prog 189 4 = true := by kernel_rfl
end Go.Rill.T
end
section
namespace Go.Rill.T
open Go.Proofs
theorem fn138 : goFn Tryz.prog 138 = true := by kernel_rfl
theorem intT : Tryz.prog.underlying 3 = some (.int .i64) := by kernel_rfl
end Go.Rill.T
end
section
namespace Go.Rill.T
open Go.Proofs
theorem fld71_0 : tyFld Tryz.prog 71 0 0 = true := by kernel_rfl
theorem fld71_1 : tyFld Tryz.prog 71 1 1 = true := by kernel_rfl
theorem fld71_2 : tyFld Tryz.prog 71 2 2 = true := by kernel_rfl
theorem fld71_3 : tyFld Tryz.prog 71 3 3 = true := by kernel_rfl
theorem fld71_4 : tyFld Tryz.prog 71 4 4 = true := by kernel_rfl
theorem fld71_5 : tyFld Tryz.prog 71 5 5 = true := by kernel_rfl
theorem fld71_6 : tyFld Tryz.prog 71 6 6 = true := by kernel_rfl
theorem fn31 : goFn Tryz.prog 31 = true := by kernel_rfl
theorem fn32 : goFn Tryz.prog 32 = true := by kernel_rfl
theorem fn43 : goFn Tryz.prog 43 = true := by kernel_rfl
theorem fn61 : goFn Tryz.prog 61 = true := by kernel_rfl
theorem map69 : tyMap Tryz.prog 69 3 36 = true := by kernel_rfl
theorem one33 : tyOne Tryz.prog 33 = true := by kernel_rfl
theorem one68 : tyOne Tryz.prog 68 = true := by kernel_rfl
theorem one69 : tyOne Tryz.prog 69 = true := by kernel_rfl
theorem slice68 : tySlice Tryz.prog 68 36 = true := by kernel_rfl
abbrev tab58_9_b : List Nat := [0, 1, 3, 7, 0, 0, 32, 127]
theorem tab58_9 : tabOk (regOps Tryz.f58 9) tab58_9_b 39 = true := by kernel_rfl
abbrev tab58_9_j : List Nat := [0, 1, 2, 3, 4, 5, 6]
theorem zero36 : zeroOf Tryz.prog 36 = some (.slice none 0 0) := by kernel_rfl
end Go.Rill.T
end
section
namespace Go.Rill.T
open Go.Proofs
abbrev tab134_6_b : List Nat := [0, 0, 3, 7, 0, 0, 48, 112, 255]
abbrev tab134_6_i : List Nat := [0, 1, 2, 3, 4, 5, 6, 7, 8]
theorem tab134_6 : tabOk (regOps Tryz.f134 6) tab134_6_b 26 = true := by kernel_rfl
end Go.Rill.T
end
section
namespace Go.Rill.T
open Go.Proofs
theorem fn65 : goFn Tryz.prog 65 = true := by kernel_rfl
theorem fn66 : goFn Tryz.prog 66 = true := by kernel_rfl
theorem fn69 : goFn Tryz.prog 69 = true := by kernel_rfl
theorem fn83 : goFn Tryz.prog 83 = true := by kernel_rfl
theorem fn84 : goFn Tryz.prog 84 = true := by kernel_rfl
theorem size60 : tySize Tryz.prog 60 2 = true := by kernel_rfl
theorem size62 : tySize Tryz.prog 62 136 = true := by kernel_rfl
theorem ts60 : tyStruct Tryz.prog 60 [1, 1] [.int .i64 0, .int .i64 0] = true := by kernel_rfl
theorem ts62 : tyStruct Tryz.prog 62 [1, 1, 1, 32, 33, 2, 2, 32, 32] [.int .i64 0, .int .i64 0, .int .i64 0, .int .u8 0, .int .u8 0, .int .u8 0, .int .u8 0, .int .u8 0, .int .u8 0, .int .u8 0, .int .u8 0, .int .u8 0, .int .u8 0, .int .u8 0, .int .u8 0, .int .u8 0, .int .u8 0, .int .u8 0, .int .u8 0, .int .u8 0, .int .u8 0, .int .u8 0, .int .u8 0, .int .u8 0, .int .u8 0, .int .u8 0, .int .u8 0, .int .u8 0, .int .u8 0, .int .u8 0, .int .u8 0, .int .u8 0, .int .u8 0, .int .u8 0, .int .u8 0, .int .i64 0, .int .u8 0, .int .u8 0, .int .u8 0, .int .u8 0, .int .u8 0, .int .u8 0, .int .u8 0, .int .u8 0, .int .u8 0, .int .u8 0, .int .u8 0, .int .u8 0, .int .u8 0, .int .u8 0, .int .u8 0, .int .u8 0, .int .u8 0, .int .u8 0, .int .u8 0, .int .u8 0, .int .u8 0, .int .u8 0, .int .u8 0, .int .u8 0, .int .u8 0, .int .u8 0, .int .u8 0, .int .u8 0, .int .u8 0, .int .u8 0, .int .u8 0, .int .u8 0, .int .i64 0, .int .i64 0, .int .i64 0, .int .i64 0, .int .u8 0, .int .u8 0, .int .u8 0, .int .u8 0, .int .u8 0, .int .u8 0, .int .u8 0, .int .u8 0, .int .u8 0, .int .u8 0, .int .u8 0, .int .u8 0, .int .u8 0, .int .u8 0, .int .u8 0, .int .u8 0, .int .u8 0, .int .u8 0, .int .u8 0, .int .u8 0, .int .u8 0, .int .u8 0, .int .u8 0, .int .u8 0, .int .u8 0, .int .u8 0, .int .u8 0, .int .u8 0, .int .u8 0, .int .u8 0, .int .u8 0, .int .u8 0, .int .u8 0, .int .u8 0, .int .u8 0, .int .u8 0, .int .u8 0, .int .u8 0, .int .u8 0, .int .u8 0, .int .u8 0, .int .u8 0, .int .u8 0, .int .u8 0, .int .u8 0, .int .u8 0, .int .u8 0, .int .u8 0, .int .u8 0, .int .u8 0, .int .u8 0, .int .u8 0, .int .u8 0, .int .u8 0, .int .u8 0, .int .u8 0, .int .u8 0, .int .u8 0, .int .u8 0, .int .u8 0, .int .u8 0, .int .u8 0, .int .u8 0, .int .u8 0] = true := by kernel_rfl
theorem zero62 : zeroOf Tryz.prog 62 = some (.agg #[.int .i64 0, .int .i64 0, .int .i64 0, .int .u8 0, .int .u8 0, .int .u8 0, .int .u8 0, .int .u8 0, .int .u8 0, .int .u8 0, .int .u8 0, .int .u8 0, .int .u8 0, .int .u8 0, .int .u8 0, .int .u8 0, .int .u8 0, .int .u8 0, .int .u8 0, .int .u8 0, .int .u8 0, .int .u8 0, .int .u8 0, .int .u8 0, .int .u8 0, .int .u8 0, .int .u8 0, .int .u8 0, .int .u8 0, .int .u8 0, .int .u8 0, .int .u8 0, .int .u8 0, .int .u8 0, .int .u8 0, .int .i64 0, .int .u8 0, .int .u8 0, .int .u8 0, .int .u8 0, .int .u8 0, .int .u8 0, .int .u8 0, .int .u8 0, .int .u8 0, .int .u8 0, .int .u8 0, .int .u8 0, .int .u8 0, .int .u8 0, .int .u8 0, .int .u8 0, .int .u8 0, .int .u8 0, .int .u8 0, .int .u8 0, .int .u8 0, .int .u8 0, .int .u8 0, .int .u8 0, .int .u8 0, .int .u8 0, .int .u8 0, .int .u8 0, .int .u8 0, .int .u8 0, .int .u8 0, .int .u8 0, .int .i64 0, .int .i64 0, .int .i64 0, .int .i64 0, .int .u8 0, .int .u8 0, .int .u8 0, .int .u8 0, .int .u8 0, .int .u8 0, .int .u8 0, .int .u8 0, .int .u8 0, .int .u8 0, .int .u8 0, .int .u8 0, .int .u8 0, .int .u8 0, .int .u8 0, .int .u8 0, .int .u8 0, .int .u8 0, .int .u8 0, .int .u8 0, .int .u8 0, .int .u8 0, .int .u8 0, .int .u8 0, .int .u8 0, .int .u8 0, .int .u8 0, .int .u8 0, .int .u8 0, .int .u8 0, .int .u8 0, .int .u8 0, .int .u8 0, .int .u8 0, .int .u8 0, .int .u8 0, .int .u8 0, .int .u8 0, .int .u8 0, .int .u8 0, .int .u8 0, .int .u8 0, .int .u8 0, .int .u8 0, .int .u8 0, .int .u8 0, .int .u8 0, .int .u8 0, .int .u8 0, .int .u8 0, .int .u8 0, .int .u8 0, .int .u8 0, .int .u8 0, .int .u8 0, .int .u8 0, .int .u8 0, .int .u8 0, .int .u8 0, .int .u8 0, .int .u8 0, .int .u8 0, .int .u8 0, .int .u8 0]) := by kernel_rfl
theorem zeroL60 : zeroOf Tryz.prog 60 = some (.agg [.int .i64 0, .int .i64 0].toArray) := by kernel_rfl
theorem zeroL62 : zeroOf Tryz.prog 62 = some (.agg [.int .i64 0, .int .i64 0, .int .i64 0, .int .u8 0, .int .u8 0, .int .u8 0, .int .u8 0, .int .u8 0, .int .u8 0, .int .u8 0, .int .u8 0, .int .u8 0, .int .u8 0, .int .u8 0, .int .u8 0, .int .u8 0, .int .u8 0, .int .u8 0, .int .u8 0, .int .u8 0, .int .u8 0, .int .u8 0, .int .u8 0, .int .u8 0, .int .u8 0, .int .u8 0, .int .u8 0, .int .u8 0, .int .u8 0, .int .u8 0, .int .u8 0, .int .u8 0, .int .u8 0, .int .u8 0, .int .u8 0, .int .i64 0, .int .u8 0, .int .u8 0, .int .u8 0, .int .u8 0, .int .u8 0, .int .u8 0, .int .u8 0, .int .u8 0, .int .u8 0, .int .u8 0, .int .u8 0, .int .u8 0, .int .u8 0, .int .u8 0, .int .u8 0, .int .u8 0, .int .u8 0, .int .u8 0, .int .u8 0, .int .u8 0, .int .u8 0, .int .u8 0, .int .u8 0, .int .u8 0, .int .u8 0, .int .u8 0, .int .u8 0, .int .u8 0, .int .u8 0, .int .u8 0, .int .u8 0, .int .u8 0, .int .i64 0, .int .i64 0, .int .i64 0, .int .i64 0, .int .u8 0, .int .u8 0, .int .u8 0, .int .u8 0, .int .u8 0, .int .u8 0, .int .u8 0, .int .u8 0, .int .u8 0, .int .u8 0, .int .u8 0, .int .u8 0, .int .u8 0, .int .u8 0, .int .u8 0, .int .u8 0, .int .u8 0, .int .u8 0, .int .u8 0, .int .u8 0, .int .u8 0, .int .u8 0, .int .u8 0, .int .u8 0, .int .u8 0, .int .u8 0, .int .u8 0, .int .u8 0, .int .u8 0, .int .u8 0, .int .u8 0, .int .u8 0, .int .u8 0, .int .u8 0, .int .u8 0, .int .u8 0, .int .u8 0, .int .u8 0, .int .u8 0, .int .u8 0, .int .u8 0, .int .u8 0, .int .u8 0, .int .u8 0, .int .u8 0, .int .u8 0, .int .u8 0, .int .u8 0, .int .u8 0, .int .u8 0, .int .u8 0, .int .u8 0, .int .u8 0, .int .u8 0, .int .u8 0, .int .u8 0, .int .u8 0, .int .u8 0, .int .u8 0, .int .u8 0, .int .u8 0, .int .u8 0, .int .u8 0, .int .u8 0].toArray) := by kernel_rfl
end Go.Rill.T
end
section
namespace Go.Rill.T
open Go.Proofs
theorem agg62 : tyAgg Tryz.prog 62 136 = true := by kernel_rfl
theorem fld62_3 : tyFld Tryz.prog 62 3 3 = true := by kernel_rfl
theorem fld62_7 : tyFld Tryz.prog 62 7 72 = true := by kernel_rfl
theorem fld62_8 : tyFld Tryz.prog 62 8 104 = true := by kernel_rfl
theorem fn73 : goFn Tryz.prog 73 = true := by kernel_rfl
theorem fn74 : goFn Tryz.prog 74 = true := by kernel_rfl
theorem fn76 : goFn Tryz.prog 76 = true := by kernel_rfl
abbrev tab59_3_b : List Nat := [0, 1, 3, 0, 8, 31, 0, 64, 255, 511]
abbrev tab59_3_i : List Nat := [0, 1, 2, 3, 4, 5, 6, 7, 8, 9]
theorem tab59_3 : tabOk (regOps Tryz.f59 3) tab59_3_b 38 = true := by kernel_rfl
abbrev tab59_4_b : List Nat := [0, 0, 2, 7, 0, 16, 63, 127]
abbrev tab59_4_i : List Nat := [0, 1, 2, 3, 4, 5, 6, 7]
theorem tab59_4 : tabOk (regOps Tryz.f59 4) tab59_4_b 38 = true := by kernel_rfl
abbrev tab59_5_b : List Nat := [0, 0, 2, 7, 0, 16, 63, 127]
abbrev tab59_5_i : List Nat := [0, 1, 2, 3, 4, 5, 6, 7]
theorem tab59_5 : tabOk (regOps Tryz.f59 5) tab59_5_b 38 = true := by kernel_rfl
abbrev tab59_6_b : List Nat := [0, 0, 2, 7, 0, 16, 63, 127, 255]
abbrev tab59_6_i : List Nat := [0, 1, 2, 3, 4, 5, 6, 7, 8]
theorem tab59_6 : tabOk (regOps Tryz.f59 6) tab59_6_b 38 = true := by kernel_rfl
abbrev tab76_1_b : List Nat := [0, 0, 2, 7, 0, 16, 63, 127]
abbrev tab76_1_i : List Nat := [0, 1, 2, 3, 4, 5, 6, 7]
theorem tab76_1 : tabOk (regOps Tryz.f76 1) tab76_1_b 12 = true := by kernel_rfl
end Go.Rill.T
end
section
namespace Go.Rill.T
open Go.Proofs
theorem agg60 : tyAgg Tryz.prog 60 2 = true := by kernel_rfl
theorem flat58 : tyFlat Tryz.prog 58 ([.i64] ++ List.replicate 32 .u8) = true := by kernel_rfl
theorem fld60_0 : tyFld Tryz.prog 60 0 0 = true := by kernel_rfl
theorem fld60_1 : tyFld Tryz.prog 60 1 1 = true := by kernel_rfl
theorem fld62_0 : tyFld Tryz.prog 62 0 0 = true := by kernel_rfl
theorem fld62_1 : tyFld Tryz.prog 62 1 1 = true := by kernel_rfl
theorem fld62_2 : tyFld Tryz.prog 62 2 2 = true := by kernel_rfl
theorem fld62_4 : tyFld Tryz.prog 62 4 35 = true := by kernel_rfl
theorem fld62_5 : tyFld Tryz.prog 62 5 68 = true := by kernel_rfl
theorem fld62_6 : tyFld Tryz.prog 62 6 70 = true := by kernel_rfl
theorem fn86 : goFn Tryz.prog 86 = true := by kernel_rfl
theorem fn87 : goFn Tryz.prog 87 = true := by kernel_rfl
theorem fn88 : goFn Tryz.prog 88 = true := by kernel_rfl
theorem fn89 : goFn Tryz.prog 89 = true := by kernel_rfl
theorem fn97 : goFn Tryz.prog 97 = true := by kernel_rfl
theorem size3 : tySize Tryz.prog 3 1 = true := by kernel_rfl
theorem slice33 : tySlice Tryz.prog 33 3 = true := by kernel_rfl
abbrev tab22_6_b : List Nat := [0, 0, 3, 7, 0, 0, 48, 112, 255]
abbrev tab22_6_i : List Nat := [0, 1, 2, 3, 4, 5, 6, 7, 8]
theorem tab22_6 : tabOk (regOps Tryz.f22 6) tab22_6_b 26 = true := by kernel_rfl
theorem zl3 : (zeroOf Tryz.prog 3).map (·.cells.toList) = some [.int .i64 0] := by kernel_rfl
end Go.Rill.T
end
section
namespace Go.Rill.T
open Go.Proofs
theorem agg58 : tyAgg Tryz.prog 58 33 = true := by kernel_rfl
theorem fld138_0 : tyFld Tryz.prog 138 0 0 = true := by kernel_rfl
theorem fld138_1 : tyFld Tryz.prog 138 1 1 = true := by kernel_rfl
theorem fn81 : goFn Tryz.prog 81 = true := by kernel_rfl
theorem fn82 : goFn Tryz.prog 82 = true := by kernel_rfl
theorem fn93 : goFn Tryz.prog 93 = true := by kernel_rfl
theorem fn94 : goFn Tryz.prog 94 = true := by kernel_rfl
theorem fn95 : goFn Tryz.prog 95 = true := by kernel_rfl
theorem fn96 : goFn Tryz.prog 96 = true := by kernel_rfl
theorem one36 : tyOne Tryz.prog 36 = true := by kernel_rfl
theorem one4 : tyOne Tryz.prog 4 = true := by kernel_rfl
theorem one5 : tyOne Tryz.prog 5 = true := by kernel_rfl
theorem size36 : tySize Tryz.prog 36 1 = true := by kernel_rfl
theorem size4 : tySize Tryz.prog 4 1 = true := by kernel_rfl
theorem size54 : tySize Tryz.prog 54 32 = true := by kernel_rfl
theorem size58 : tySize Tryz.prog 58 33 = true := by kernel_rfl
abbrev tab96_1_b : List Nat := [0, 1, 3, 0, 8, 31, 63, 127]
theorem tab96_1 : tabOk (regOps Tryz.f96 1) tab96_1_b 10 = true := by kernel_rfl
abbrev tab96_1_j : List Nat := [0, 1, 2, 3, 4, 5, 6]
theorem ts138 : tyStruct Tryz.prog 138 [1, 1] [.slice none 0 0, .bool false] = true := by kernel_rfl
theorem ts58 : tyStruct Tryz.prog 58 [1, 32] [.int .i64 0, .int .u8 0, .int .u8 0, .int .u8 0, .int .u8 0, .int .u8 0, .int .u8 0, .int .u8 0, .int .u8 0, .int .u8 0, .int .u8 0, .int .u8 0, .int .u8 0, .int .u8 0, .int .u8 0, .int .u8 0, .int .u8 0, .int .u8 0, .int .u8 0, .int .u8 0, .int .u8 0, .int .u8 0, .int .u8 0, .int .u8 0, .int .u8 0, .int .u8 0, .int .u8 0, .int .u8 0, .int .u8 0, .int .u8 0, .int .u8 0, .int .u8 0, .int .u8 0] = true := by kernel_rfl
theorem zero54 : zeroOf Tryz.prog 54 = some (.agg #[.int .u8 0, .int .u8 0, .int .u8 0, .int .u8 0, .int .u8 0, .int .u8 0, .int .u8 0, .int .u8 0, .int .u8 0, .int .u8 0, .int .u8 0, .int .u8 0, .int .u8 0, .int .u8 0, .int .u8 0, .int .u8 0, .int .u8 0, .int .u8 0, .int .u8 0, .int .u8 0, .int .u8 0, .int .u8 0, .int .u8 0, .int .u8 0, .int .u8 0, .int .u8 0, .int .u8 0, .int .u8 0, .int .u8 0, .int .u8 0, .int .u8 0, .int .u8 0]) := by kernel_rfl
theorem zero58 : zeroOf Tryz.prog 58 = some (.agg #[.int .i64 0, .int .u8 0, .int .u8 0, .int .u8 0, .int .u8 0, .int .u8 0, .int .u8 0, .int .u8 0, .int .u8 0, .int .u8 0, .int .u8 0, .int .u8 0, .int .u8 0, .int .u8 0, .int .u8 0, .int .u8 0, .int .u8 0, .int .u8 0, .int .u8 0, .int .u8 0, .int .u8 0, .int .u8 0, .int .u8 0, .int .u8 0, .int .u8 0, .int .u8 0, .int .u8 0, .int .u8 0, .int .u8 0, .int .u8 0, .int .u8 0, .int .u8 0, .int .u8 0]) := by kernel_rfl
theorem zeroL138 : zeroOf Tryz.prog 138 = some (.agg [.slice none 0 0, .bool false].toArray) := by kernel_rfl
theorem zeroL58 : zeroOf Tryz.prog 58 = some (.agg [.int .i64 0, .int .u8 0, .int .u8 0, .int .u8 0, .int .u8 0, .int .u8 0, .int .u8 0, .int .u8 0, .int .u8 0, .int .u8 0, .int .u8 0, .int .u8 0, .int .u8 0, .int .u8 0, .int .u8 0, .int .u8 0, .int .u8 0, .int .u8 0, .int .u8 0, .int .u8 0, .int .u8 0, .int .u8 0, .int .u8 0, .int .u8 0, .int .u8 0, .int .u8 0, .int .u8 0, .int .u8 0, .int .u8 0, .int .u8 0, .int .u8 0, .int .u8 0, .int .u8 0].toArray) := by kernel_rfl
end Go.Rill.T
end
section
namespace Go.Rill.T
open Go.Proofs
theorem agg54 : tyAgg Tryz.prog 54 32 = true := by kernel_rfl
theorem arr54 : tyArr Tryz.prog 54 5 32 = true := by kernel_rfl
theorem by5 : tyBytes' Tryz.prog 5 1 = true := by kernel_rfl
theorem fld58_0 : tyFld Tryz.prog 58 0 0 = true := by kernel_rfl
theorem fld58_1 : tyFld Tryz.prog 58 1 1 = true := by kernel_rfl
theorem fn72 : goFn Tryz.prog 72 = true := by kernel_rfl
theorem fn75 : goFn Tryz.prog 75 = true := by kernel_rfl
theorem fn80 : goFn Tryz.prog 80 = true := by kernel_rfl
theorem fn85 : goFn Tryz.prog 85 = true := by kernel_rfl
theorem mixed : Tryz.prog.follows .mixedOrders = true := by kernel_rfl
theorem one3 : tyOne Tryz.prog 3 = true := by kernel_rfl
theorem size5 : tySize Tryz.prog 5 1 = true := by kernel_rfl
theorem slice36 : tySlice Tryz.prog 36 5 = true := by kernel_rfl
abbrev tab74_1_b : List Nat := [0, 0, 2, 7, 0, 16, 63, 127]
abbrev tab74_1_i : List Nat := [0, 1, 2, 3, 4, 5, 6, 7]
theorem tab74_1 : tabOk (regOps Tryz.f74 1) tab74_1_b 12 = true := by kernel_rfl
theorem zc5 : (zeroOf Tryz.prog 5).map (·.cells) = some #[.int .u8 0] := by kernel_rfl
theorem zl5 : (zeroOf Tryz.prog 5).map (·.cells.toList) = some [.int .u8 0] := by kernel_rfl
theorem zt5 : tyZero Tryz.prog 5 1 = true := by kernel_rfl
end Go.Rill.T
end
section
namespace Go.Proofs.YtnebjbgcibjohaaGreat.K
open Go.RowKit Go.Rill Go.Proofs
set_option linter.unusedVariables false
theorem wrap_u64 (x : Int) : IntKind.u64.wrap x = x % 18446744073709551616 := rfl
theorem wrap_u8 (x : Int) : IntKind.u8.wrap x = x % 256 := rfl
theorem eight_cells (v : Int) : [Value.int .u8 (IntKind.u8.wrap (IntKind.u64.wrap v / 72057594037927936)), .int .u8 (IntKind.u8.wrap (IntKind.u64.wrap v / 281474976710656)), .int .u8 (IntKind.u8.wrap (IntKind.u64.wrap v / 1099511627776)), .int .u8 (IntKind.u8.wrap (IntKind.u64.wrap v / 4294967296)), .int .u8 (IntKind.u8.wrap (IntKind.u64.wrap v / 16777216)), .int .u8 (IntKind.u8.wrap (IntKind.u64.wrap v / 65536)), .int .u8 (IntKind.u8.wrap (IntKind.u64.wrap v / 256)), .int .u8 (IntKind.u8.wrap (IntKind.u64.wrap v))] = bc (be8 v) := by
  simp only [be8, bc, List.map_cons, List.map_nil, ofInt_toNat, wrap_u64, wrap_u8, List.cons.injEq, Value.int.injEq, true_and, and_true]
  refine ⟨?_, ?_, ?_, ?_, ?_, ?_, ?_, ?_⟩ <;> omega
set_option maxRecDepth 100000 in
theorem eight_x (v : Int) (w0 : World) : Does Tryz.prog 85 [.int .i64 v] w0 [] (fun s : Value => s) (fun s => [.bytes 5 s (be8 v)]) (fun _ => True) := by
  refine enter (n := 30) Tryz.func85 rfl rfl rfl ?_
  intro fr E
  have M : Mem w0 (feet []) [] (fun _ => True) w0 := Mem.begin (Has.nil w0) (fun _ _ => trivial)
  refine code_region ?_
  refine sw E (run_assignC rfl) fun fr E => ?_
  refine seq_nil' ?_
  refine code_region ?_
  refine mv E fun fr E => ?_
  refine sw (v := .int _ (IntKind.u64.wrap v)) E (num rfl (rfl)) fun fr E => ?_
  refine ma E fun fr E => ?_
  refine seq_nil' ?_
  refine code_region ?_
  refine mv E fun fr E => ?_
  refine sw (v := .int _ (IntKind.u64.wrap v / 72057594037927936)) E (num rfl (fd (by decide) rfl)) fun fr E => ?_
  refine sw (v := .int _ (IntKind.u8.wrap (IntKind.u64.wrap v / 72057594037927936))) E (num rfl (rfl)) fun fr E => ?_
  refine mv E fun fr E => ?_
  refine sw (v := .int _ (IntKind.u64.wrap v / 281474976710656)) E (num rfl (fd (by decide) rfl)) fun fr E => ?_
  refine sw (v := .int _ (IntKind.u8.wrap (IntKind.u64.wrap v / 281474976710656))) E (num rfl (rfl)) fun fr E => ?_
  refine mv E fun fr E => ?_
  refine sw (v := .int _ (IntKind.u64.wrap v / 1099511627776)) E (num rfl (fd (by decide) rfl)) fun fr E => ?_
  refine sw (v := .int _ (IntKind.u8.wrap (IntKind.u64.wrap v / 1099511627776))) E (num rfl (rfl)) fun fr E => ?_
  refine mv E fun fr E => ?_
  refine sw (v := .int _ (IntKind.u64.wrap v / 4294967296)) E (num rfl (fd (by decide) rfl)) fun fr E => ?_
  refine sw (v := .int _ (IntKind.u8.wrap (IntKind.u64.wrap v / 4294967296))) E (num rfl (rfl)) fun fr E => ?_
  refine mv E fun fr E => ?_
  refine sw (v := .int _ (IntKind.u64.wrap v / 16777216)) E (num rfl (fd (by decide) rfl)) fun fr E => ?_
  refine sw (v := .int _ (IntKind.u8.wrap (IntKind.u64.wrap v / 16777216))) E (num rfl (rfl)) fun fr E => ?_
  refine mv E fun fr E => ?_
  refine sw (v := .int _ (IntKind.u64.wrap v / 65536)) E (num rfl (fd (by decide) rfl)) fun fr E => ?_
  refine sw (v := .int _ (IntKind.u8.wrap (IntKind.u64.wrap v / 65536))) E (num rfl (rfl)) fun fr E => ?_
  refine mv E fun fr E => ?_
  refine sw (v := .int _ (IntKind.u64.wrap v / 256)) E (num rfl (fd (by decide) rfl)) fun fr E => ?_
  refine sw (v := .int _ (IntKind.u8.wrap (IntKind.u64.wrap v / 256))) E (num rfl (rfl)) fun fr E => ?_
  refine mv E fun fr E => ?_
  refine sw (v := .int _ (IntKind.u8.wrap (IntKind.u64.wrap v))) E (num rfl (rfl)) fun fr E => ?_
  refine srow (sz := 1) (xs := bc (be8 v)) E M rfl rfl rfl rfl rfl (run_buildSliceA (us := [_, _, _, _, _, _, _, _]) (vs := [_, _, _, _, _, _, _, _]) rfl rfl rfl T.slice36 T.size5 T.zl5 rfl rfl rfl rfl rfl) (rfl) (Nat.le_refl _) (by decide) (eight_cells v) fun g0 fr w M E => ?_
  refine ma E fun fr E => ?_
  refine seq_nil' ?_
  refine wp_ret ?_
  refine ret1 E rfl rfl ?_
  exact ⟨_, rfl, M.fin (sub1 (i := 0) rfl) trivial⟩

set_option maxRecDepth 100000 in
theorem behind_x {b m : Value} {l k : List UInt8} {w0 : World} (hb : Bytes w0 b l) (hm : Bytes w0 m k) (hz : l.length + k.length ≤ 35184372088832) : Does Tryz.prog 80 [b, m] w0 [] (fun s : Value => s) (fun s => [.bytes 5 s (l ++ k)]) (fun _ => True) := by
  refine enter (n := 15) Tryz.func80 rfl rfl rfl ?_
  intro fr E
  have M : Mem w0 (feet []) [] (fun w' => Bytes w' b l ∧ Bytes w' m k) w0 := Mem.begin (Has.nil w0) (fun w' h => ⟨hb.held0 h, hm.held0 h⟩)
  refine code_region ?_
  refine sw E (run_assignC rfl) fun fr E => ?_
  refine seq_nil' ?_
  refine code_region ?_
  refine mv E fun fr E => ?_
  refine sw (v := .int .i64 _) E (run_lenR rfl rfl rfl rfl T.slice36 M.fact.1) fun fr E => ?_
  refine mv E fun fr E => ?_
  refine sw (v := .int .i64 _) E (run_lenR rfl rfl rfl rfl T.slice36 M.fact.2) fun fr E => ?_
  refine sw (v := .int _ (((l.length + k.length : Nat) : Int))) E (num rfl ((i64_id (by omega) (by omega)).trans (by omega))) fun fr E => ?_
  refine smakeB (k := 0) (c := l.length + k.length) E M rfl rfl rfl rfl rfl rfl rfl rfl (rfl) (rfl) T.slice36 T.zt5 T.zc5 T.by5 (Nat.zero_le _) (by omega) fun g0 fr w M E => ?_
  refine mv E fun fr E => ?_
  refine sappB (i := 0) E M rfl rfl rfl rfl rfl rfl rfl rfl rfl rfl rfl T.slice36 T.slice36 T.zt5 T.by5 M.fact.1 (by simp; omega) fun g0 fr w M E => ?_
  refine mv E fun fr E => ?_
  refine sappB (i := 0) E M rfl rfl rfl rfl rfl rfl rfl rfl rfl rfl rfl T.slice36 T.slice36 T.zt5 T.by5 M.fact.2 (by simp; omega) fun g0 fr w M E => ?_
  refine ma E fun fr E => ?_
  refine seq_nil' ?_
  refine wp_ret ?_
  refine ret1 E rfl rfl ?_
  exact ⟨_, rfl, M.fin (sub1 (i := 0) rfl) trivial⟩

set_option maxRecDepth 100000 in
theorem Int_x {b : Value} {l : List UInt8} {w0 : World} (v : Int) (hb : Bytes w0 b l) (hz : l.length + 8 ≤ 35184372088832) : Does Tryz.prog 72 [b, .int .i64 v] w0 [] (fun s : Value => s) (fun s => [.bytes 5 s (l ++ be8 v)]) (fun _ => True) := by
  refine enter (n := 9) Tryz.func72 rfl rfl rfl ?_
  intro fr E
  have M : Mem w0 (feet []) [] (fun w' => Bytes w' b l) w0 := Mem.begin (Has.nil w0) (fun w' h => hb.held0 h)
  refine code_region ?_
  refine sw E (run_assignC rfl) fun fr E => ?_
  refine seq_nil' ?_
  refine code_region ?_
  refine mv E fun fr E => ?_
  refine mv E fun fr E => ?_
  refine scall E M rfl rfl rfl rfl rfl (run_call rfl rfl T.fn85) (eight_x v _) rfl ?_
  rintro s fr w - M E
  refine scall E M rfl rfl rfl rfl rfl (run_call rfl rfl T.fn80) (behind_x M.fact (M.bytes 0 rfl) hz) rfl ?_
  rintro r fr w - M E
  refine ma E fun fr E => ?_
  refine seq_nil' ?_
  refine wp_ret ?_
  refine ret1 E rfl rfl ?_
  exact ⟨_, rfl, M.fin (sub1 (i := 0) rfl) trivial⟩

set_option maxRecDepth 100000 in
theorem Sum_x {b : Value} {l s : List UInt8} {w0 : World} (hb : Bytes w0 b l) (hs : s.length = 32) (hz : l.length + 32 ≤ 35184372088832) : Does Tryz.prog 75 [b, .agg (bc s).toArray] w0 [] (fun s : Value => s) (fun r => [.bytes 5 r (l ++ s)]) (fun _ => True) := by
  refine enter (n := 8) Tryz.func75 rfl rfl rfl ?_
  intro fr E
  have M : Mem w0 (feet []) [] (fun w' => Bytes w' b l) w0 := Mem.begin (Has.nil w0) (fun w' h => hb.held0 h)
  refine code_region ?_
  refine snew (ob := .cells ((bc s).toArray) 54) (fun g => .pointer (some ⟨g, 0, none⟩)) E M rfl rfl rfl rfl rfl (run_boxN (cs := ((bc s).toArray)) rfl rfl) fun g0 fr w M E => ?_
  refine sw E (run_assignC rfl) fun fr E => ?_
  refine seq_nil' ?_
  refine code_region ?_
  refine mv E fun fr E => ?_
  refine sw E (run_sliceA (g := _) (cs := #[]) (T := 0) (fr := (0, 0)) rfl rfl T.arr54 T.size5) fun fr E => ?_
  refine scall E M rfl rfl rfl rfl rfl (run_call rfl rfl T.fn80) (behind_x M.fact (k := s) (by have := M; exact hs ▸ reads_blk (M.row (i := 0) rfl) (by simp [hs]) (by rw [hs]; decide)) (by omega)) rfl ?_
  rintro r fr w - M E
  refine ma E fun fr E => ?_
  refine seq_nil' ?_
  refine wp_ret ?_
  refine ret1 E rfl rfl ?_
  exact ⟨_, rfl, M.fin (sub1 (i := 0) rfl) trivial⟩

set_option maxRecDepth 100000 in
theorem Ref_x {b : Value} {l s : List UInt8} {a : Int} {w0 : World} (hb : Bytes w0 b l) (hs : s.length = 32) (hz : l.length + 40 ≤ 35184372088832) : Does Tryz.prog 74 [b, .agg (.int .i64 a :: bc s).toArray] w0 [] (fun s : Value => s) (fun r => [.bytes 5 r (l ++ be8 a ++ s)]) (fun _ => True) := by
  refine enter (n := 12) Tryz.func74 rfl rfl rfl ?_
  intro fr E
  have M : Mem w0 (feet []) [] (fun w' => Bytes w' b l) w0 := Mem.begin (Has.nil w0) (fun w' h => hb.held0 h)
  refine code_region ?_
  refine snew (ob := .cells ((.int .i64 a :: bc s).toArray) 58) (fun g => .pointer (some ⟨g, 0, none⟩)) E M rfl rfl rfl rfl rfl (run_boxN (cs := ((.int .i64 a :: bc s).toArray)) rfl rfl) fun g0 fr w M E => ?_
  refine sw E (run_assignC rfl) fun fr E => ?_
  refine seq_nil' ?_
  refine wp_seq (free_reg (B := T.tab74_1_b) (Vs := (.exact _ :: .exact (.pointer (some ⟨_, 0, none⟩)) :: .exact (.int .i64 _) :: CameV w.heap.size (fun v => [.bytes 5 v (l ++ be8 a)]) (fun _ => True) :: .exact (.pointer (some ⟨_, 1, none⟩)) :: .exact (.agg (bc s).toArray) :: CameV w.heap.size (fun v => [.bytes 5 v (l ++ be8 a ++ s)]) (fun _ => True) :: CameV w.heap.size (fun v => [.bytes 5 v (l ++ be8 a ++ s)]) (fun _ => True) :: [])) T.tab74_1_i E T.mixed T.tab74_1 rfl (AllS.lasts ⟨trivial, trivial, trivial, LastsS.cameV, trivial, trivial, LastsS.cameV, LastsS.cameV, trivial⟩) ⟨fv rfl rfl (fun x w hx hk => run_move rfl rfl),
      fv rfl rfl (fun x w hx hk => run_fieldAddr rfl rfl T.fld58_0),
      fv rfl rfl (fun x w hx hk => run_loadB rfl rfl T.one3 ((M.ext ((Ext.drew _).trans hx)).row (i := 0) rfl) rfl),
      fs_ext rfl rfl (fun x w hx hk => ⟨_, _, rfl, rfl, rfl, run_call rfl rfl T.fn72, (Int_x a (M.ext ((Ext.drew _).trans hx)).fact (by omega)).extV hx.size⟩),
      fv rfl rfl (fun x w hx hk => run_fieldAddr rfl rfl T.fld58_1),
      fv rfl rfl (fun x w hx hk => run_loadN' (vs := (bc s).toArray) rfl rfl T.agg54 ((M.ext ((Ext.drew _).trans hx)).row (i := 0) rfl) (by simp [hs]) (by simp [take_all, hs])),
      fs_ext rfl rfl (fun x w hx hk => ⟨_, _, rfl, rfl, rfl, run_call rfl rfl T.fn75, (Sum_x (s := s) ((hk 3 rfl).1.reads 0 rfl) hs (by simp [be8]; omega)).extV hx.size⟩),
      fs_val rfl rfl (fun x w hx hk => ⟨_, _, rfl, rfl, rfl, run_assign rfl rfl, Ext.refl _, hk 6 rfl⟩), trivial⟩ ?_)
  intro x fr w hx hk E
  have M := M.adopts hx (hk 7 (by decide)).1 (hk 7 (by decide)).2.1
  refine then_normal ?_
  refine wp_ret ?_
  refine ret1 E rfl rfl ?_
  exact ⟨_, rfl, M.fin (sub1 (i := 0) rfl) trivial⟩
end Go.Proofs.YtnebjbgcibjohaaGreat.K
end
section
namespace Go.Proofs.YtnebjbgcibjohaaGreat.K
open Go.RowKit Go.Rill Go.Proofs
set_option linter.unusedVariables false
set_option linter.unusedSimpArgs false
/-- What a reader tells, and what is left then. -/
def rNext (n : Nat) (s : List UInt8 × Bool) : List UInt8 × Bool := if s.2 = true ∨ s.1.length < n then (s.1, true) else (s.1.drop n, false)
def rInt (s : List UInt8 × Bool) : Int := if s.2 = true ∨ s.1.length < 8 then 0 else num64 (s.1.take 8)
def rSum (s : List UInt8 × Bool) : List UInt8 := if s.2 = true ∨ s.1.length < 32 then List.replicate 32 0 else s.1.take 32
def rRef (s : List UInt8 × Bool) : Int × List UInt8 := if s.2 = true ∨ s.1.length < 40 then (0, List.replicate 32 0) else (num64 ((s.1.take 40).take 8), (s.1.take 40).drop 8)
def rEnd (s : List UInt8 × Bool) : Int := if s.2 = true then 4 else if 0 < s.1.length then 3 else 0
theorem rSum_len (s : List UInt8 × Bool) : (rSum s).length = 32 := by unfold rSum; split <;> simp <;> omega
theorem rRef_len (s : List UInt8 × Bool) : (rRef s).2.length = 32 := by unfold rRef; split <;> simp <;> omega
/-- A reader: what is left, and whether it is bad. -/
abbrev rdr (g : Nat) (rv : Value) (l : List UInt8) (bad : Bool) : List Ent := [.blk g (.cells #[rv, .bool bad] 138 (0, 0)), .sub rv l]
set_option maxRecDepth 100000 in
theorem number_x {b : Value} {l : List UInt8} {w0 : World} (hb : Bytes w0 b l) (hz : l.length ≤ 35184372088832) : Gives Tryz.prog 82 [b] w0 (.int .i64 (num64 l)) := by
  refine enter (n := 20) Tryz.func82 rfl rfl rfl ?_
  intro fr E
  have M : Mem w0 (feet []) [] (fun w' => Bytes w' b l) w0 := Mem.begin (Has.nil w0) (fun w' h => hb.held0 h)
  refine code_region ?_
  refine sw E (run_assignC rfl) fun fr E => ?_
  refine seq_nil' ?_
  refine code_region ?_
  refine sw E (run_assignC rfl) fun fr E => ?_
  refine seq_nil' ?_
  refine wp_seq ?_
  refine code_region ?_
  refine mv E fun fr E => ?_
  refine sw (v := .int .i64 _) E (run_lenR rfl rfl rfl rfl T.slice36 M.fact) fun fr E => ?_
  refine sw E (run_moveC rfl) fun fr E => ?_
  refine seq_nil' ?_
  refine wp_block ?_
  refine loop_dec (fun d fr w => ∃ i : Nat, d = l.length - i ∧ i ≤ l.length ∧ Env [(8, .int .i64 i), (7, .int .i64 l.length), (6, b), (3, .int .u64 (fold64 (l.take i)))] 20 fr ∧ Mem w0 (feet []) [] (fun w' => Bytes w' b l) w) (l.length) ?_ ?_
  · refine ⟨0, rfl, Nat.zero_le _, ((((Env.nil E).add E (t := 3) rfl).add E (t := 6) rfl).add E (t := 7) rfl).add E (t := 8) rfl, M⟩
  · clear E M
    rintro d fr w ⟨i, rfl, hle, E, M⟩
    by_cases hi : i < l.length
    · refine code_region ?_
      refine sw (v := .bool true) E (tst rfl (by simp <;> omega)) fun fr E => ?_
      refine seq_nil' ?_
      refine wp_seq ?_
      refine cond_true E rfl (rfl) ?_
      refine wp_skip ?_
      refine then_normal ?_
      refine wp_seq ?_
      refine wp_block ?_
      refine code_region ?_
      refine sw E (run_indexR (i := i) rfl M.fact rfl rfl (rfl) (hi) T.slice36 T.size5) fun fr E => ?_
      refine sw E (run_loadR rfl M.fact rfl T.one5 (by rw [Nat.mul_one]; exact bc_get hi)) fun fr E => ?_
      refine ma E fun fr E => ?_
      refine seq_nil' ?_
      refine code_last ?_
      refine mv E fun fr E => ?_
      refine sw (v := .int .u64 _) E (rfl) fun fr E => ?_
      refine mv E fun fr E => ?_
      refine sw (v := .int .u64 _) E (rfl) fun fr E => ?_
      refine sw (v := .int _ (fold64 (l.take (i + 1)))) E (num rfl ((or_step _ _ (l[i]).toNat_lt).trans (congrArg _ (fold64_take hi).symm))) fun fr E => ?_
      refine ma E fun fr E => ?_
      refine seq_nil ?_
      refine block_normal ?_
      refine then_normal ?_
      refine code_last ?_
      refine sw (v := .int _ (((i + 1 : Nat) : Int))) E (num rfl ((i64_id (by omega) (by omega)).trans (by omega))) fun fr E => ?_
      refine mv E fun fr E => ?_
      refine seq_nil ?_
      refine then_any ?_
      refine ⟨l.length - (i + 1), by omega, i + 1, rfl, by omega, ((((Env.nil E).add E (t := 3) rfl).add E (t := 6) rfl).add E (t := 7) rfl).add E (t := 8) rfl, M⟩
    · obtain rfl : i = l.length := by omega
      rw [List.take_length] at E
      refine code_region ?_
      refine sw (v := .bool false) E (tst rfl (by simp <;> omega)) fun fr E => ?_
      refine seq_nil' ?_
      refine wp_seq ?_
      refine cond_false E rfl (rfl) ?_
      refine wp_exit ?_
      refine then_exit ?_
      refine then_exit ?_
      refine block_exit ?_
      refine then_normal ?_
      refine code_region ?_
      refine mv E fun fr E => ?_
      refine sw (v := .int _ (num64 l)) E (num rfl (rfl)) fun fr E => ?_
      refine ma E fun fr E => ?_
      refine seq_nil' ?_
      refine wp_ret ?_
      refine ret1 E rfl rfl ?_
      exact given M

set_option maxRecDepth 100000 in
theorem digest_x {b : Value} {l : List UInt8} {w0 : World} (hb : Bytes w0 b l) (hl : l.length = 32) : Gives Tryz.prog 94 [b] w0 (.agg (bc l).toArray) := by
  refine enter (n := 6) Tryz.func94 rfl rfl rfl ?_
  intro fr E
  have M : Mem w0 (feet []) [] (fun w' => Bytes w' b l) w0 := Mem.begin (Has.nil w0) (fun w' h => hb.held0 h)
  refine code_region ?_
  refine snew (ob := .cells _ 54) (fun g => .pointer (some ⟨g, 0, none⟩)) E M rfl rfl rfl rfl rfl (run_allocN rfl T.zero54) fun g0 fr w M E => ?_
  refine seq_nil' ?_
  refine code_region ?_
  refine mv E fun fr E => ?_
  refine sw E (run_toArrayR rfl M.fact rfl T.arr54 (by omega) (by decide)) fun fr E => ?_
  refine sw (v := .agg (bc l).toArray) E (run_loadRN rfl M.fact rfl T.agg54 (by omega) (by omega) (by rw [List.drop_zero]; exact take_all (by simp [hl]))) fun fr E => ?_
  refine sset (i := 0) (cs' := (bc l).toArray) E M rfl rfl rfl rfl rfl (run_storeAll (vs := (bc l).toArray) rfl rfl rfl T.size54 (by simp [hl]) (M.row (i := 0) rfl) rfl (by simpa using bc_one l)) rfl fun fr w M E => ?_
  refine seq_nil' ?_
  refine wp_ret ?_
  refine retC E rfl rfl T.agg54 (M.row (i := 0) rfl) (by simp [hl]) ?_
  exact given M

set_option maxRecDepth 100000 in
theorem ref_x {b : Value} {l : List UInt8} {w0 : World} (hb : Bytes w0 b l) (hl : l.length = 40) : Gives Tryz.prog 96 [b] w0 (.agg (.int .i64 (num64 (l.take 8)) :: bc (l.drop 8)).toArray) := by
  refine enter (n := 10) Tryz.func96 rfl rfl rfl ?_
  intro fr E
  have M : Mem w0 (feet []) [] (fun w' => Bytes w' b l) w0 := Mem.begin (Has.nil w0) (fun w' h => hb.held0 h)
  refine code_region ?_
  refine snew (ob := .cells _ 58) (fun g => .pointer (some ⟨g, 0, none⟩)) E M rfl rfl rfl rfl rfl (run_allocN rfl T.zero58) fun g0 fr w M E => ?_
  refine seq_nil' ?_
  refine wp_seq (free_last (B := T.tab96_1_b) (Vs := (.exact _ :: .exact (cutV 1 b 0 8) :: .exact (.int .i64 _) :: .exact _ :: .exact (cutV 1 b 8 l.length) :: .exact (.agg (bc (l.drop 8)).toArray) :: .exact (.agg (Value.int .i64 (num64 (l.take 8)) :: bc (l.drop 8)).toArray) :: [])) T.tab96_1_j 7 E T.mixed T.tab96_1 rfl rfl rfl (AllS.lasts ⟨trivial, trivial, trivial, trivial, trivial, trivial, trivial, trivial⟩) ⟨fv rfl rfl (fun x w hx hk => run_move rfl rfl),
      fv rfl rfl (fun x w hx hk => run_sliceR (lo := 0) (hi := 8) rfl (M.ext ((Ext.drew _).trans hx)).fact rfl T.slice36 T.size5 (rfl) (⟨_, _, rfl, rfl⟩) (by omega) (by omega)),
      fs_ext rfl rfl (fun x w hx hk => ⟨_, _, rfl, rfl, rfl, run_call rfl rfl T.fn82, (number_x (b := cutV 1 b 0 8) (l := l.take 8) (Bytes.pre (M.ext ((Ext.drew _).trans hx)).fact (by omega)) (by simp; omega)).ext⟩),
      fv rfl rfl (fun x w hx hk => run_move rfl rfl),
      fv rfl rfl (fun x w hx hk => run_sliceR (lo := 8) (hi := l.length) rfl (M.ext ((Ext.drew _).trans hx)).fact rfl T.slice36 T.size5 (⟨_, _, rfl, rfl⟩) (rfl) (by omega) (Nat.le_refl _)),
      fs_ext rfl rfl (fun x w hx hk => ⟨_, _, rfl, rfl, rfl, run_call rfl rfl T.fn94, (digest_x (b := cutV 1 b 8 l.length) (l := l.drop 8) (Bytes.suf (M.ext ((Ext.drew _).trans hx)).fact (by omega)) (by simp [hl])).ext⟩),
      fv rfl rfl (fun x w hx hk => run_buildP (vs := [.int .i64 (num64 (l.take 8)), .agg (bc (l.drop 8)).toArray]) (us := Value.int .i64 (num64 (l.take 8)) :: bc (l.drop 8)) rfl rfl T.ts58 T.zeroL58 (by simp [Value.cells, hl]) rfl rfl (by simp [Value.cells])), trivial⟩ ?_)
  intro x fr w hx hk E
  have M := M.ext hx
  refine last_set (i := 0) (cs' := (Value.int .i64 (num64 (l.take 8)) :: bc (l.drop 8)).toArray) E M rfl rfl rfl rfl rfl rfl (run_storeAll (vs := (Value.int .i64 (num64 (l.take 8)) :: bc (l.drop 8)).toArray) rfl rfl rfl T.size58 (by simp [hl]) (M.row (i := 0) rfl) rfl (by intro v hv; simp only [List.mem_cons] at hv; rcases hv with rfl | hv; rfl; exact bc_one _ v hv)) rfl fun fr w M E => ?_
  refine then_normal ?_
  refine wp_ret ?_
  refine retC E rfl rfl T.agg58 (M.row (i := 0) rfl) (by simp [hl]) ?_
  exact given M

set_option maxRecDepth 100000 in
theorem take_number_bad {g : Nat} {rv : Value} {l : List UInt8} {bad : Bool} {w0 : World} (H : Has w0 (rdr g rv l bad)) (hz : l.length ≤ 35184372088832) (hbad : bad = true) : Does Tryz.prog 81 [.pointer (some ⟨g, 0, none⟩), .int .i64 8, .func (.func 82) #[] #[]] w0 (rdr g rv l bad) (fun _ : Value => .int .i64 0) (fun x => rdr g x l true) (fun _ => True) := by
  refine enter (n := 44) Tryz.func81 rfl rfl rfl ?_
  intro fr E
  obtain ⟨rb, rc, rfl⟩ := Reads.slice (H.ents _ (List.mem_cons_of_mem _ (List.mem_singleton.2 rfl)) : Reads 1 w0 rv _ _)
  have M : Mem w0 (feet (rdr g _ l bad)) (rdr g _ l bad) (fun _ => True) w0 := Mem.begin H (fun _ _ => trivial)
  subst hbad
  refine code_region ?_
  refine sw E (run_assignC rfl) fun fr E => ?_
  refine seq_nil' ?_
  refine wp_seq ?_
  refine code_region ?_
  refine mv E fun fr E => ?_
  refine sw E (run_nilCheck rfl rfl) fun fr E => ?_
  refine sw (v := .pointer (some ⟨_, 1, none⟩)) E (run_fieldAddr rfl rfl T.fld138_1) fun fr E => ?_
  refine sw (v := .bool _) E (run_loadB rfl rfl T.one4 (M.row (i := 0) rfl) rfl) fun fr E => ?_
  refine mv E fun fr E => ?_
  refine sno E rfl rfl rfl rfl fun fr E => ?_
  refine sno E rfl rfl rfl rfl fun fr E => ?_
  refine sno E rfl rfl rfl rfl fun fr E => ?_
  refine sno E rfl rfl rfl rfl fun fr E => ?_
  refine sno E rfl rfl rfl rfl fun fr E => ?_
  refine sno E rfl rfl rfl rfl fun fr E => ?_
  refine sno E rfl rfl rfl rfl fun fr E => ?_
  refine sw (v := .bool true) E (tst rfl (rfl)) fun fr E => ?_
  refine seq_nil' ?_
  refine cond_true E rfl (rfl) ?_
  refine code_region ?_
  refine mv E fun fr E => ?_
  refine sw E (run_nilCheck rfl rfl) fun fr E => ?_
  refine sw (v := .pointer (some ⟨_, 1, none⟩)) E (run_fieldAddr rfl rfl T.fld138_1) fun fr E => ?_
  refine sset (i := 0) (cs' := #[_, _]) E M rfl rfl rfl rfl rfl (run_store1' (v := _) rfl rfl rfl T.size4 (M.row (i := 0) rfl) (rfl) (rfl) (rfl)) rfl fun fr w M E => ?_
  refine seq_nil' ?_
  refine code_region ?_
  refine sw E (run_assignC rfl) fun fr E => ?_
  refine seq_nil' ?_
  refine code_region ?_
  refine mv E fun fr E => ?_
  refine ma E fun fr E => ?_
  refine seq_nil' ?_
  refine wp_ret ?_
  refine then_ret ?_
  refine ret1 E rfl rfl ?_
  exact ⟨_, rfl, M.fin (List.Sublist.refl _) trivial⟩

set_option maxRecDepth 100000 in
theorem take_number_short {g : Nat} {rv : Value} {l : List UInt8} {bad : Bool} {w0 : World} (H : Has w0 (rdr g rv l bad)) (hz : l.length ≤ 35184372088832) (hbad : bad = false) (hn : l.length < 8) : Does Tryz.prog 81 [.pointer (some ⟨g, 0, none⟩), .int .i64 8, .func (.func 82) #[] #[]] w0 (rdr g rv l bad) (fun _ : Value => .int .i64 0) (fun x => rdr g x l true) (fun _ => True) := by
  refine enter (n := 44) Tryz.func81 rfl rfl rfl ?_
  intro fr E
  obtain ⟨rb, rc, rfl⟩ := Reads.slice (H.ents _ (List.mem_cons_of_mem _ (List.mem_singleton.2 rfl)) : Reads 1 w0 rv _ _)
  have M : Mem w0 (feet (rdr g _ l bad)) (rdr g _ l bad) (fun _ => True) w0 := Mem.begin H (fun _ _ => trivial)
  subst hbad
  refine code_region ?_
  refine sw E (run_assignC rfl) fun fr E => ?_
  refine seq_nil' ?_
  refine wp_seq ?_
  refine code_region ?_
  refine mv E fun fr E => ?_
  refine sw E (run_nilCheck rfl rfl) fun fr E => ?_
  refine sw (v := .pointer (some ⟨_, 1, none⟩)) E (run_fieldAddr rfl rfl T.fld138_1) fun fr E => ?_
  refine sw (v := .bool _) E (run_loadB rfl rfl T.one4 (M.row (i := 0) rfl) rfl) fun fr E => ?_
  refine mv E fun fr E => ?_
  refine mv E fun fr E => ?_
  refine sw E (run_nilCheck rfl rfl) fun fr E => ?_
  refine sw (v := .pointer (some ⟨_, 0, none⟩)) E (run_fieldAddr rfl rfl T.fld138_0) fun fr E => ?_
  refine sw E (run_loadB rfl rfl T.one36 (M.row (i := 0) rfl) rfl) fun fr E => ?_
  refine sw (v := .int .i64 _) E (run_lenR rfl rfl rfl rfl T.slice36 (M.subs 1 rfl)) fun fr E => ?_
  refine mv E fun fr E => ?_
  refine sw (v := .bool true) E (tst rfl (by simp <;> omega)) fun fr E => ?_
  refine sw (v := .bool true) E (tst rfl (rfl)) fun fr E => ?_
  refine seq_nil' ?_
  refine cond_true E rfl (rfl) ?_
  refine code_region ?_
  refine mv E fun fr E => ?_
  refine sw E (run_nilCheck rfl rfl) fun fr E => ?_
  refine sw (v := .pointer (some ⟨_, 1, none⟩)) E (run_fieldAddr rfl rfl T.fld138_1) fun fr E => ?_
  refine sset (i := 0) (cs' := #[_, _]) E M rfl rfl rfl rfl rfl (run_store1' (v := _) rfl rfl rfl T.size4 (M.row (i := 0) rfl) (rfl) (rfl) (rfl)) rfl fun fr w M E => ?_
  refine seq_nil' ?_
  refine code_region ?_
  refine sw E (run_assignC rfl) fun fr E => ?_
  refine seq_nil' ?_
  refine code_region ?_
  refine mv E fun fr E => ?_
  refine ma E fun fr E => ?_
  refine seq_nil' ?_
  refine wp_ret ?_
  refine then_ret ?_
  refine ret1 E rfl rfl ?_
  exact ⟨_, rfl, M.fin (List.Sublist.refl _) trivial⟩

set_option maxRecDepth 100000 in
theorem take_number_ok {g : Nat} {rv : Value} {l : List UInt8} {bad : Bool} {w0 : World} (H : Has w0 (rdr g rv l bad)) (hz : l.length ≤ 35184372088832) (hbad : bad = false) (hn : 8 ≤ l.length) : Does Tryz.prog 81 [.pointer (some ⟨g, 0, none⟩), .int .i64 8, .func (.func 82) #[] #[]] w0 (rdr g rv l bad) (fun _ : Value => Value.int .i64 (num64 (l.take 8))) (fun x => rdr g x (l.drop 8) false) (fun _ => True) := by
  refine enter (n := 44) Tryz.func81 rfl rfl rfl ?_
  intro fr E
  obtain ⟨rb, rc, rfl⟩ := Reads.slice (H.ents _ (List.mem_cons_of_mem _ (List.mem_singleton.2 rfl)) : Reads 1 w0 rv _ _)
  have M : Mem w0 (feet (rdr g _ l bad)) (rdr g _ l bad) (fun _ => True) w0 := Mem.begin H (fun _ _ => trivial)
  subst hbad
  refine code_region ?_
  refine sw E (run_assignC rfl) fun fr E => ?_
  refine seq_nil' ?_
  refine wp_seq ?_
  refine code_region ?_
  refine mv E fun fr E => ?_
  refine sw E (run_nilCheck rfl rfl) fun fr E => ?_
  refine sw (v := .pointer (some ⟨_, 1, none⟩)) E (run_fieldAddr rfl rfl T.fld138_1) fun fr E => ?_
  refine sw (v := .bool _) E (run_loadB rfl rfl T.one4 (M.row (i := 0) rfl) rfl) fun fr E => ?_
  refine mv E fun fr E => ?_
  refine mv E fun fr E => ?_
  refine sw E (run_nilCheck rfl rfl) fun fr E => ?_
  refine sw (v := .pointer (some ⟨_, 0, none⟩)) E (run_fieldAddr rfl rfl T.fld138_0) fun fr E => ?_
  refine sw E (run_loadB rfl rfl T.one36 (M.row (i := 0) rfl) rfl) fun fr E => ?_
  refine sw (v := .int .i64 _) E (run_lenR rfl rfl rfl rfl T.slice36 (M.subs 1 rfl)) fun fr E => ?_
  refine mv E fun fr E => ?_
  refine sw (v := .bool false) E (tst rfl (by simp <;> omega)) fun fr E => ?_
  refine sw (v := .bool false) E (tst rfl (rfl)) fun fr E => ?_
  refine seq_nil' ?_
  refine cond_false E rfl (rfl) ?_
  refine wp_skip ?_
  refine then_normal ?_
  refine code_region ?_
  refine mv E fun fr E => ?_
  refine sw E (run_nilCheck rfl rfl) fun fr E => ?_
  refine sw (v := .pointer (some ⟨_, 0, none⟩)) E (run_fieldAddr rfl rfl T.fld138_0) fun fr E => ?_
  refine sw E (run_loadB rfl rfl T.one36 (M.row (i := 0) rfl) rfl) fun fr E => ?_
  refine mv E fun fr E => ?_
  refine sw E (run_sliceR (lo := 0) (hi := 8) rfl (M.subs 1 rfl) rfl T.slice36 T.size5 (rfl) (⟨_, _, rfl, rfl⟩) (by omega) (hn)) fun fr E => ?_
  refine ma E fun fr E => ?_
  refine seq_nil' ?_
  refine code_region ?_
  refine mv E fun fr E => ?_
  refine mv E fun fr E => ?_
  refine sw E (run_nilCheck rfl rfl) fun fr E => ?_
  refine sw (v := .pointer (some ⟨_, 0, none⟩)) E (run_fieldAddr rfl rfl T.fld138_0) fun fr E => ?_
  refine sw E (run_loadB rfl rfl T.one36 (M.row (i := 0) rfl) rfl) fun fr E => ?_
  refine mv E fun fr E => ?_
  refine sw E (run_sliceR (lo := 8) (hi := l.length) rfl (M.subs 1 rfl) rfl T.slice36 T.size5 (⟨_, _, rfl, rfl⟩) (rfl) (hn) (Nat.le_refl _)) fun fr E => ?_
  refine sw E (run_nilCheck rfl rfl) fun fr E => ?_
  refine sw (v := .pointer (some ⟨_, 0, none⟩)) E (run_fieldAddr rfl rfl T.fld138_0) fun fr E => ?_
  refine sset (i := 0) (cs' := #[_, _]) E M rfl rfl rfl rfl rfl (run_store1' (v := _) rfl rfl rfl T.size36 (M.row (i := 0) rfl) (rfl) (rfl) (rfl)) rfl fun fr w M E => ?_
  refine seq_nil' ?_
  refine code_region ?_
  refine mv E fun fr E => ?_
  refine mv E fun fr E => ?_
  refine sgive E M rfl rfl rfl rfl rfl (run_callV rfl rfl T.fn82) (number_x (l := l.take 8) (Bytes.pre (M.subs 1 rfl) hn) (by simp <;> omega)) fun fr w M E => ?_
  refine ma E fun fr E => ?_
  refine seq_nil' ?_
  refine wp_ret ?_
  refine ret1 E rfl rfl ?_
  have M := M.rest 1 8 rfl hn
  exact ⟨_, rfl, M.fin (List.Sublist.refl _) trivial⟩

set_option maxRecDepth 100000 in
theorem take_digest_bad {g : Nat} {rv : Value} {l : List UInt8} {bad : Bool} {w0 : World} (H : Has w0 (rdr g rv l bad)) (hz : l.length ≤ 35184372088832) (hbad : bad = true) : Does Tryz.prog 93 [.pointer (some ⟨g, 0, none⟩), .int .i64 32, .func (.func 94) #[] #[]] w0 (rdr g rv l bad) (fun _ : Value => .agg (bc (List.replicate 32 0)).toArray) (fun x => rdr g x l true) (fun _ => True) := by
  refine enter (n := 44) Tryz.func93 rfl rfl rfl ?_
  intro fr E
  obtain ⟨rb, rc, rfl⟩ := Reads.slice (H.ents _ (List.mem_cons_of_mem _ (List.mem_singleton.2 rfl)) : Reads 1 w0 rv _ _)
  have M : Mem w0 (feet (rdr g _ l bad)) (rdr g _ l bad) (fun _ => True) w0 := Mem.begin H (fun _ _ => trivial)
  subst hbad
  refine code_region ?_
  refine snew (ob := .cells _ 54) (fun g => .pointer (some ⟨g, 0, none⟩)) E M rfl rfl rfl rfl rfl (run_allocN rfl T.zero54) fun g0 fr w M E => ?_
  refine seq_nil' ?_
  refine wp_seq ?_
  refine code_region ?_
  refine mv E fun fr E => ?_
  refine sw E (run_nilCheck rfl rfl) fun fr E => ?_
  refine sw (v := .pointer (some ⟨_, 1, none⟩)) E (run_fieldAddr rfl rfl T.fld138_1) fun fr E => ?_
  refine sw (v := .bool _) E (run_loadB rfl rfl T.one4 (M.row (i := 1) rfl) rfl) fun fr E => ?_
  refine mv E fun fr E => ?_
  refine sno E rfl rfl rfl rfl fun fr E => ?_
  refine sno E rfl rfl rfl rfl fun fr E => ?_
  refine sno E rfl rfl rfl rfl fun fr E => ?_
  refine sno E rfl rfl rfl rfl fun fr E => ?_
  refine sno E rfl rfl rfl rfl fun fr E => ?_
  refine sno E rfl rfl rfl rfl fun fr E => ?_
  refine sno E rfl rfl rfl rfl fun fr E => ?_
  refine sw (v := .bool true) E (tst rfl (rfl)) fun fr E => ?_
  refine seq_nil' ?_
  refine cond_true E rfl (rfl) ?_
  refine code_region ?_
  refine mv E fun fr E => ?_
  refine sw E (run_nilCheck rfl rfl) fun fr E => ?_
  refine sw (v := .pointer (some ⟨_, 1, none⟩)) E (run_fieldAddr rfl rfl T.fld138_1) fun fr E => ?_
  refine sset (i := 1) (cs' := #[_, _]) E M rfl rfl rfl rfl rfl (run_store1' (v := _) rfl rfl rfl T.size4 (M.row (i := 1) rfl) (rfl) (rfl) (rfl)) rfl fun fr w M E => ?_
  refine seq_nil' ?_
  refine code_region ?_
  refine snew (ob := .cells _ 54) (fun g => .pointer (some ⟨g, 0, none⟩)) E M rfl rfl rfl rfl rfl (run_allocN rfl T.zero54) fun g1 fr w M E => ?_
  refine seq_nil' ?_
  refine code_region ?_
  refine sw (v := .agg _) E (run_loadAll rfl rfl T.agg54 (M.row (i := 0) rfl) rfl) fun fr E => ?_
  refine sset (i := 1) (cs' := _) E M rfl rfl rfl rfl rfl (run_storeN' (vs := _) rfl rfl rfl T.size54 rfl (M.row (i := 1) rfl) rfl rfl rfl) rfl fun fr w M E => ?_
  refine seq_nil' ?_
  refine wp_ret ?_
  refine then_ret ?_
  refine retC E rfl rfl T.agg54 (M.row (i := 1) rfl) (rfl) ?_
  exact ⟨_, rfl, M.fin (.cons _ (.cons _ (.refl _))) trivial⟩

set_option maxRecDepth 100000 in
theorem take_digest_short {g : Nat} {rv : Value} {l : List UInt8} {bad : Bool} {w0 : World} (H : Has w0 (rdr g rv l bad)) (hz : l.length ≤ 35184372088832) (hbad : bad = false) (hn : l.length < 32) : Does Tryz.prog 93 [.pointer (some ⟨g, 0, none⟩), .int .i64 32, .func (.func 94) #[] #[]] w0 (rdr g rv l bad) (fun _ : Value => .agg (bc (List.replicate 32 0)).toArray) (fun x => rdr g x l true) (fun _ => True) := by
  refine enter (n := 44) Tryz.func93 rfl rfl rfl ?_
  intro fr E
  obtain ⟨rb, rc, rfl⟩ := Reads.slice (H.ents _ (List.mem_cons_of_mem _ (List.mem_singleton.2 rfl)) : Reads 1 w0 rv _ _)
  have M : Mem w0 (feet (rdr g _ l bad)) (rdr g _ l bad) (fun _ => True) w0 := Mem.begin H (fun _ _ => trivial)
  subst hbad
  refine code_region ?_
  refine snew (ob := .cells _ 54) (fun g => .pointer (some ⟨g, 0, none⟩)) E M rfl rfl rfl rfl rfl (run_allocN rfl T.zero54) fun g0 fr w M E => ?_
  refine seq_nil' ?_
  refine wp_seq ?_
  refine code_region ?_
  refine mv E fun fr E => ?_
  refine sw E (run_nilCheck rfl rfl) fun fr E => ?_
  refine sw (v := .pointer (some ⟨_, 1, none⟩)) E (run_fieldAddr rfl rfl T.fld138_1) fun fr E => ?_
  refine sw (v := .bool _) E (run_loadB rfl rfl T.one4 (M.row (i := 1) rfl) rfl) fun fr E => ?_
  refine mv E fun fr E => ?_
  refine mv E fun fr E => ?_
  refine sw E (run_nilCheck rfl rfl) fun fr E => ?_
  refine sw (v := .pointer (some ⟨_, 0, none⟩)) E (run_fieldAddr rfl rfl T.fld138_0) fun fr E => ?_
  refine sw E (run_loadB rfl rfl T.one36 (M.row (i := 1) rfl) rfl) fun fr E => ?_
  refine sw (v := .int .i64 _) E (run_lenR rfl rfl rfl rfl T.slice36 (M.subs 2 rfl)) fun fr E => ?_
  refine mv E fun fr E => ?_
  refine sw (v := .bool true) E (tst rfl (by simp <;> omega)) fun fr E => ?_
  refine sw (v := .bool true) E (tst rfl (rfl)) fun fr E => ?_
  refine seq_nil' ?_
  refine cond_true E rfl (rfl) ?_
  refine code_region ?_
  refine mv E fun fr E => ?_
  refine sw E (run_nilCheck rfl rfl) fun fr E => ?_
  refine sw (v := .pointer (some ⟨_, 1, none⟩)) E (run_fieldAddr rfl rfl T.fld138_1) fun fr E => ?_
  refine sset (i := 1) (cs' := #[_, _]) E M rfl rfl rfl rfl rfl (run_store1' (v := _) rfl rfl rfl T.size4 (M.row (i := 1) rfl) (rfl) (rfl) (rfl)) rfl fun fr w M E => ?_
  refine seq_nil' ?_
  refine code_region ?_
  refine snew (ob := .cells _ 54) (fun g => .pointer (some ⟨g, 0, none⟩)) E M rfl rfl rfl rfl rfl (run_allocN rfl T.zero54) fun g1 fr w M E => ?_
  refine seq_nil' ?_
  refine code_region ?_
  refine sw (v := .agg _) E (run_loadAll rfl rfl T.agg54 (M.row (i := 0) rfl) rfl) fun fr E => ?_
  refine sset (i := 1) (cs' := _) E M rfl rfl rfl rfl rfl (run_storeN' (vs := _) rfl rfl rfl T.size54 rfl (M.row (i := 1) rfl) rfl rfl rfl) rfl fun fr w M E => ?_
  refine seq_nil' ?_
  refine wp_ret ?_
  refine then_ret ?_
  refine retC E rfl rfl T.agg54 (M.row (i := 1) rfl) (rfl) ?_
  exact ⟨_, rfl, M.fin (.cons _ (.cons _ (.refl _))) trivial⟩

set_option maxRecDepth 100000 in
theorem take_digest_ok {g : Nat} {rv : Value} {l : List UInt8} {bad : Bool} {w0 : World} (H : Has w0 (rdr g rv l bad)) (hz : l.length ≤ 35184372088832) (hbad : bad = false) (hn : 32 ≤ l.length) : Does Tryz.prog 93 [.pointer (some ⟨g, 0, none⟩), .int .i64 32, .func (.func 94) #[] #[]] w0 (rdr g rv l bad) (fun _ : Value => Value.agg (bc (l.take 32)).toArray) (fun x => rdr g x (l.drop 32) false) (fun _ => True) := by
  refine enter (n := 44) Tryz.func93 rfl rfl rfl ?_
  intro fr E
  obtain ⟨rb, rc, rfl⟩ := Reads.slice (H.ents _ (List.mem_cons_of_mem _ (List.mem_singleton.2 rfl)) : Reads 1 w0 rv _ _)
  have M : Mem w0 (feet (rdr g _ l bad)) (rdr g _ l bad) (fun _ => True) w0 := Mem.begin H (fun _ _ => trivial)
  subst hbad
  refine code_region ?_
  refine snew (ob := .cells _ 54) (fun g => .pointer (some ⟨g, 0, none⟩)) E M rfl rfl rfl rfl rfl (run_allocN rfl T.zero54) fun g0 fr w M E => ?_
  refine seq_nil' ?_
  refine wp_seq ?_
  refine code_region ?_
  refine mv E fun fr E => ?_
  refine sw E (run_nilCheck rfl rfl) fun fr E => ?_
  refine sw (v := .pointer (some ⟨_, 1, none⟩)) E (run_fieldAddr rfl rfl T.fld138_1) fun fr E => ?_
  refine sw (v := .bool _) E (run_loadB rfl rfl T.one4 (M.row (i := 1) rfl) rfl) fun fr E => ?_
  refine mv E fun fr E => ?_
  refine mv E fun fr E => ?_
  refine sw E (run_nilCheck rfl rfl) fun fr E => ?_
  refine sw (v := .pointer (some ⟨_, 0, none⟩)) E (run_fieldAddr rfl rfl T.fld138_0) fun fr E => ?_
  refine sw E (run_loadB rfl rfl T.one36 (M.row (i := 1) rfl) rfl) fun fr E => ?_
  refine sw (v := .int .i64 _) E (run_lenR rfl rfl rfl rfl T.slice36 (M.subs 2 rfl)) fun fr E => ?_
  refine mv E fun fr E => ?_
  refine sw (v := .bool false) E (tst rfl (by simp <;> omega)) fun fr E => ?_
  refine sw (v := .bool false) E (tst rfl (rfl)) fun fr E => ?_
  refine seq_nil' ?_
  refine cond_false E rfl (rfl) ?_
  refine wp_skip ?_
  refine then_normal ?_
  refine code_region ?_
  refine mv E fun fr E => ?_
  refine sw E (run_nilCheck rfl rfl) fun fr E => ?_
  refine sw (v := .pointer (some ⟨_, 0, none⟩)) E (run_fieldAddr rfl rfl T.fld138_0) fun fr E => ?_
  refine sw E (run_loadB rfl rfl T.one36 (M.row (i := 1) rfl) rfl) fun fr E => ?_
  refine mv E fun fr E => ?_
  refine sw E (run_sliceR (lo := 0) (hi := 32) rfl (M.subs 2 rfl) rfl T.slice36 T.size5 (rfl) (⟨_, _, rfl, rfl⟩) (by omega) (hn)) fun fr E => ?_
  refine ma E fun fr E => ?_
  refine seq_nil' ?_
  refine code_region ?_
  refine mv E fun fr E => ?_
  refine mv E fun fr E => ?_
  refine sw E (run_nilCheck rfl rfl) fun fr E => ?_
  refine sw (v := .pointer (some ⟨_, 0, none⟩)) E (run_fieldAddr rfl rfl T.fld138_0) fun fr E => ?_
  refine sw E (run_loadB rfl rfl T.one36 (M.row (i := 1) rfl) rfl) fun fr E => ?_
  refine mv E fun fr E => ?_
  refine sw E (run_sliceR (lo := 32) (hi := l.length) rfl (M.subs 2 rfl) rfl T.slice36 T.size5 (⟨_, _, rfl, rfl⟩) (rfl) (hn) (Nat.le_refl _)) fun fr E => ?_
  refine sw E (run_nilCheck rfl rfl) fun fr E => ?_
  refine sw (v := .pointer (some ⟨_, 0, none⟩)) E (run_fieldAddr rfl rfl T.fld138_0) fun fr E => ?_
  refine sset (i := 1) (cs' := #[_, _]) E M rfl rfl rfl rfl rfl (run_store1' (v := _) rfl rfl rfl T.size36 (M.row (i := 1) rfl) (rfl) (rfl) (rfl)) rfl fun fr w M E => ?_
  refine seq_nil' ?_
  refine code_region ?_
  refine mv E fun fr E => ?_
  refine mv E fun fr E => ?_
  refine sgive E M rfl rfl rfl rfl rfl (run_callV rfl rfl T.fn94) (digest_x (l := l.take 32) (Bytes.pre (M.subs 2 rfl) hn) (by simp <;> omega)) fun fr w M E => ?_
  refine sset (i := 0) (cs' := (bc (l.take 32)).toArray) E M rfl rfl rfl rfl rfl (run_storeAll (vs := (bc (l.take 32)).toArray) rfl rfl rfl T.size54 (by simp <;> omega) (M.row (i := 0) rfl) rfl (by simpa using bc_one _)) rfl fun fr w M E => ?_
  refine seq_nil' ?_
  refine wp_ret ?_
  refine retC E rfl rfl T.agg54 (M.row (i := 0) rfl) (by simp <;> omega) ?_
  have M := M.rest 2 32 rfl hn
  exact ⟨_, rfl, M.fin (.cons _ (.refl _)) trivial⟩

set_option maxRecDepth 100000 in
theorem take_ref_bad {g : Nat} {rv : Value} {l : List UInt8} {bad : Bool} {w0 : World} (H : Has w0 (rdr g rv l bad)) (hz : l.length ≤ 35184372088832) (hbad : bad = true) : Does Tryz.prog 95 [.pointer (some ⟨g, 0, none⟩), .int .i64 40, .func (.func 96) #[] #[]] w0 (rdr g rv l bad) (fun _ : Value => .agg (Value.int .i64 0 :: bc (List.replicate 32 0)).toArray) (fun x => rdr g x l true) (fun _ => True) := by
  refine enter (n := 44) Tryz.func95 rfl rfl rfl ?_
  intro fr E
  obtain ⟨rb, rc, rfl⟩ := Reads.slice (H.ents _ (List.mem_cons_of_mem _ (List.mem_singleton.2 rfl)) : Reads 1 w0 rv _ _)
  have M : Mem w0 (feet (rdr g _ l bad)) (rdr g _ l bad) (fun _ => True) w0 := Mem.begin H (fun _ _ => trivial)
  subst hbad
  refine code_region ?_
  refine snew (ob := .cells _ 58) (fun g => .pointer (some ⟨g, 0, none⟩)) E M rfl rfl rfl rfl rfl (run_allocN rfl T.zero58) fun g0 fr w M E => ?_
  refine seq_nil' ?_
  refine wp_seq ?_
  refine code_region ?_
  refine mv E fun fr E => ?_
  refine sw E (run_nilCheck rfl rfl) fun fr E => ?_
  refine sw (v := .pointer (some ⟨_, 1, none⟩)) E (run_fieldAddr rfl rfl T.fld138_1) fun fr E => ?_
  refine sw (v := .bool _) E (run_loadB rfl rfl T.one4 (M.row (i := 1) rfl) rfl) fun fr E => ?_
  refine mv E fun fr E => ?_
  refine sno E rfl rfl rfl rfl fun fr E => ?_
  refine sno E rfl rfl rfl rfl fun fr E => ?_
  refine sno E rfl rfl rfl rfl fun fr E => ?_
  refine sno E rfl rfl rfl rfl fun fr E => ?_
  refine sno E rfl rfl rfl rfl fun fr E => ?_
  refine sno E rfl rfl rfl rfl fun fr E => ?_
  refine sno E rfl rfl rfl rfl fun fr E => ?_
  refine sw (v := .bool true) E (tst rfl (rfl)) fun fr E => ?_
  refine seq_nil' ?_
  refine cond_true E rfl (rfl) ?_
  refine code_region ?_
  refine mv E fun fr E => ?_
  refine sw E (run_nilCheck rfl rfl) fun fr E => ?_
  refine sw (v := .pointer (some ⟨_, 1, none⟩)) E (run_fieldAddr rfl rfl T.fld138_1) fun fr E => ?_
  refine sset (i := 1) (cs' := #[_, _]) E M rfl rfl rfl rfl rfl (run_store1' (v := _) rfl rfl rfl T.size4 (M.row (i := 1) rfl) (rfl) (rfl) (rfl)) rfl fun fr w M E => ?_
  refine seq_nil' ?_
  refine code_region ?_
  refine snew (ob := .cells _ 58) (fun g => .pointer (some ⟨g, 0, none⟩)) E M rfl rfl rfl rfl rfl (run_allocN rfl T.zero58) fun g1 fr w M E => ?_
  refine seq_nil' ?_
  refine code_region ?_
  refine sw (v := .agg _) E (run_loadAll rfl rfl T.agg58 (M.row (i := 0) rfl) rfl) fun fr E => ?_
  refine sset (i := 1) (cs' := _) E M rfl rfl rfl rfl rfl (run_storeN' (vs := _) rfl rfl rfl T.size58 rfl (M.row (i := 1) rfl) rfl rfl rfl) rfl fun fr w M E => ?_
  refine seq_nil' ?_
  refine wp_ret ?_
  refine then_ret ?_
  refine retC E rfl rfl T.agg58 (M.row (i := 1) rfl) (rfl) ?_
  exact ⟨_, rfl, M.fin (.cons _ (.cons _ (.refl _))) trivial⟩

set_option maxRecDepth 100000 in
theorem take_ref_short {g : Nat} {rv : Value} {l : List UInt8} {bad : Bool} {w0 : World} (H : Has w0 (rdr g rv l bad)) (hz : l.length ≤ 35184372088832) (hbad : bad = false) (hn : l.length < 40) : Does Tryz.prog 95 [.pointer (some ⟨g, 0, none⟩), .int .i64 40, .func (.func 96) #[] #[]] w0 (rdr g rv l bad) (fun _ : Value => .agg (Value.int .i64 0 :: bc (List.replicate 32 0)).toArray) (fun x => rdr g x l true) (fun _ => True) := by
  refine enter (n := 44) Tryz.func95 rfl rfl rfl ?_
  intro fr E
  obtain ⟨rb, rc, rfl⟩ := Reads.slice (H.ents _ (List.mem_cons_of_mem _ (List.mem_singleton.2 rfl)) : Reads 1 w0 rv _ _)
  have M : Mem w0 (feet (rdr g _ l bad)) (rdr g _ l bad) (fun _ => True) w0 := Mem.begin H (fun _ _ => trivial)
  subst hbad
  refine code_region ?_
  refine snew (ob := .cells _ 58) (fun g => .pointer (some ⟨g, 0, none⟩)) E M rfl rfl rfl rfl rfl (run_allocN rfl T.zero58) fun g0 fr w M E => ?_
  refine seq_nil' ?_
  refine wp_seq ?_
  refine code_region ?_
  refine mv E fun fr E => ?_
  refine sw E (run_nilCheck rfl rfl) fun fr E => ?_
  refine sw (v := .pointer (some ⟨_, 1, none⟩)) E (run_fieldAddr rfl rfl T.fld138_1) fun fr E => ?_
  refine sw (v := .bool _) E (run_loadB rfl rfl T.one4 (M.row (i := 1) rfl) rfl) fun fr E => ?_
  refine mv E fun fr E => ?_
  refine mv E fun fr E => ?_
  refine sw E (run_nilCheck rfl rfl) fun fr E => ?_
  refine sw (v := .pointer (some ⟨_, 0, none⟩)) E (run_fieldAddr rfl rfl T.fld138_0) fun fr E => ?_
  refine sw E (run_loadB rfl rfl T.one36 (M.row (i := 1) rfl) rfl) fun fr E => ?_
  refine sw (v := .int .i64 _) E (run_lenR rfl rfl rfl rfl T.slice36 (M.subs 2 rfl)) fun fr E => ?_
  refine mv E fun fr E => ?_
  refine sw (v := .bool true) E (tst rfl (by simp <;> omega)) fun fr E => ?_
  refine sw (v := .bool true) E (tst rfl (rfl)) fun fr E => ?_
  refine seq_nil' ?_
  refine cond_true E rfl (rfl) ?_
  refine code_region ?_
  refine mv E fun fr E => ?_
  refine sw E (run_nilCheck rfl rfl) fun fr E => ?_
  refine sw (v := .pointer (some ⟨_, 1, none⟩)) E (run_fieldAddr rfl rfl T.fld138_1) fun fr E => ?_
  refine sset (i := 1) (cs' := #[_, _]) E M rfl rfl rfl rfl rfl (run_store1' (v := _) rfl rfl rfl T.size4 (M.row (i := 1) rfl) (rfl) (rfl) (rfl)) rfl fun fr w M E => ?_
  refine seq_nil' ?_
  refine code_region ?_
  refine snew (ob := .cells _ 58) (fun g => .pointer (some ⟨g, 0, none⟩)) E M rfl rfl rfl rfl rfl (run_allocN rfl T.zero58) fun g1 fr w M E => ?_
  refine seq_nil' ?_
  refine code_region ?_
  refine sw (v := .agg _) E (run_loadAll rfl rfl T.agg58 (M.row (i := 0) rfl) rfl) fun fr E => ?_
  refine sset (i := 1) (cs' := _) E M rfl rfl rfl rfl rfl (run_storeN' (vs := _) rfl rfl rfl T.size58 rfl (M.row (i := 1) rfl) rfl rfl rfl) rfl fun fr w M E => ?_
  refine seq_nil' ?_
  refine wp_ret ?_
  refine then_ret ?_
  refine retC E rfl rfl T.agg58 (M.row (i := 1) rfl) (rfl) ?_
  exact ⟨_, rfl, M.fin (.cons _ (.cons _ (.refl _))) trivial⟩

set_option maxRecDepth 100000 in
theorem take_ref_ok {g : Nat} {rv : Value} {l : List UInt8} {bad : Bool} {w0 : World} (H : Has w0 (rdr g rv l bad)) (hz : l.length ≤ 35184372088832) (hbad : bad = false) (hn : 40 ≤ l.length) : Does Tryz.prog 95 [.pointer (some ⟨g, 0, none⟩), .int .i64 40, .func (.func 96) #[] #[]] w0 (rdr g rv l bad) (fun _ : Value => Value.agg (Value.int .i64 (num64 ((l.take 40).take 8)) :: bc ((l.take 40).drop 8)).toArray) (fun x => rdr g x (l.drop 40) false) (fun _ => True) := by
  refine enter (n := 44) Tryz.func95 rfl rfl rfl ?_
  intro fr E
  obtain ⟨rb, rc, rfl⟩ := Reads.slice (H.ents _ (List.mem_cons_of_mem _ (List.mem_singleton.2 rfl)) : Reads 1 w0 rv _ _)
  have M : Mem w0 (feet (rdr g _ l bad)) (rdr g _ l bad) (fun _ => True) w0 := Mem.begin H (fun _ _ => trivial)
  subst hbad
  refine code_region ?_
  refine snew (ob := .cells _ 58) (fun g => .pointer (some ⟨g, 0, none⟩)) E M rfl rfl rfl rfl rfl (run_allocN rfl T.zero58) fun g0 fr w M E => ?_
  refine seq_nil' ?_
  refine wp_seq ?_
  refine code_region ?_
  refine mv E fun fr E => ?_
  refine sw E (run_nilCheck rfl rfl) fun fr E => ?_
  refine sw (v := .pointer (some ⟨_, 1, none⟩)) E (run_fieldAddr rfl rfl T.fld138_1) fun fr E => ?_
  refine sw (v := .bool _) E (run_loadB rfl rfl T.one4 (M.row (i := 1) rfl) rfl) fun fr E => ?_
  refine mv E fun fr E => ?_
  refine mv E fun fr E => ?_
  refine sw E (run_nilCheck rfl rfl) fun fr E => ?_
  refine sw (v := .pointer (some ⟨_, 0, none⟩)) E (run_fieldAddr rfl rfl T.fld138_0) fun fr E => ?_
  refine sw E (run_loadB rfl rfl T.one36 (M.row (i := 1) rfl) rfl) fun fr E => ?_
  refine sw (v := .int .i64 _) E (run_lenR rfl rfl rfl rfl T.slice36 (M.subs 2 rfl)) fun fr E => ?_
  refine mv E fun fr E => ?_
  refine sw (v := .bool false) E (tst rfl (by simp <;> omega)) fun fr E => ?_
  refine sw (v := .bool false) E (tst rfl (rfl)) fun fr E => ?_
  refine seq_nil' ?_
  refine cond_false E rfl (rfl) ?_
  refine wp_skip ?_
  refine then_normal ?_
  refine code_region ?_
  refine mv E fun fr E => ?_
  refine sw E (run_nilCheck rfl rfl) fun fr E => ?_
  refine sw (v := .pointer (some ⟨_, 0, none⟩)) E (run_fieldAddr rfl rfl T.fld138_0) fun fr E => ?_
  refine sw E (run_loadB rfl rfl T.one36 (M.row (i := 1) rfl) rfl) fun fr E => ?_
  refine mv E fun fr E => ?_
  refine sw E (run_sliceR (lo := 0) (hi := 40) rfl (M.subs 2 rfl) rfl T.slice36 T.size5 (rfl) (⟨_, _, rfl, rfl⟩) (by omega) (hn)) fun fr E => ?_
  refine ma E fun fr E => ?_
  refine seq_nil' ?_
  refine code_region ?_
  refine mv E fun fr E => ?_
  refine mv E fun fr E => ?_
  refine sw E (run_nilCheck rfl rfl) fun fr E => ?_
  refine sw (v := .pointer (some ⟨_, 0, none⟩)) E (run_fieldAddr rfl rfl T.fld138_0) fun fr E => ?_
  refine sw E (run_loadB rfl rfl T.one36 (M.row (i := 1) rfl) rfl) fun fr E => ?_
  refine mv E fun fr E => ?_
  refine sw E (run_sliceR (lo := 40) (hi := l.length) rfl (M.subs 2 rfl) rfl T.slice36 T.size5 (⟨_, _, rfl, rfl⟩) (rfl) (hn) (Nat.le_refl _)) fun fr E => ?_
  refine sw E (run_nilCheck rfl rfl) fun fr E => ?_
  refine sw (v := .pointer (some ⟨_, 0, none⟩)) E (run_fieldAddr rfl rfl T.fld138_0) fun fr E => ?_
  refine sset (i := 1) (cs' := #[_, _]) E M rfl rfl rfl rfl rfl (run_store1' (v := _) rfl rfl rfl T.size36 (M.row (i := 1) rfl) (rfl) (rfl) (rfl)) rfl fun fr w M E => ?_
  refine seq_nil' ?_
  refine code_region ?_
  refine mv E fun fr E => ?_
  refine mv E fun fr E => ?_
  refine sgive E M rfl rfl rfl rfl rfl (run_callV rfl rfl T.fn96) (ref_x (l := l.take 40) (Bytes.pre (M.subs 2 rfl) hn) (by simp <;> omega)) fun fr w M E => ?_
  refine sset (i := 0) (cs' := (Value.int .i64 (num64 ((l.take 40).take 8)) :: bc ((l.take 40).drop 8)).toArray) E M rfl rfl rfl rfl rfl (run_storeAll (vs := (Value.int .i64 (num64 ((l.take 40).take 8)) :: bc ((l.take 40).drop 8)).toArray) rfl rfl rfl T.size58 (by simp <;> omega) (M.row (i := 0) rfl) rfl (by intro v hv; simp only [List.mem_cons] at hv; rcases hv with rfl | hv; rfl; exact bc_one _ v hv)) rfl fun fr w M E => ?_
  refine seq_nil' ?_
  refine wp_ret ?_
  refine retC E rfl rfl T.agg58 (M.row (i := 0) rfl) (by simp <;> omega) ?_
  have M := M.rest 2 40 rfl hn
  exact ⟨_, rfl, M.fin (.cons _ (.refl _)) trivial⟩

theorem take_number {g : Nat} {rv : Value} {l : List UInt8} {bad : Bool} {w0 : World} (H : Has w0 (rdr g rv l bad)) (hz : l.length ≤ 35184372088832) : Does Tryz.prog 81 [.pointer (some ⟨g, 0, none⟩), .int .i64 8, .func (.func 82) #[] #[]] w0 (rdr g rv l bad) (fun _ : Value => Value.int .i64 (rInt (l, bad))) (fun x => rdr g x (rNext 8 (l, bad)).1 (rNext 8 (l, bad)).2) (fun _ => True) := by
  cases bad with
  | true => simp only [rNext, rInt, rSum, rRef, eq_self, true_or, if_true]; exact take_number_bad H hz rfl
  | false =>
    by_cases hn : l.length < 8
    · simp only [rNext, rInt, rSum, rRef, hn, or_true, if_true]; exact take_number_short H hz rfl hn
    · have hc : ¬ (false = true ∨ l.length < 8) := by simp; omega
      simp only [rNext, rInt, rSum, rRef, hc, if_false]; exact take_number_ok H hz rfl (by omega)

theorem take_digest {g : Nat} {rv : Value} {l : List UInt8} {bad : Bool} {w0 : World} (H : Has w0 (rdr g rv l bad)) (hz : l.length ≤ 35184372088832) : Does Tryz.prog 93 [.pointer (some ⟨g, 0, none⟩), .int .i64 32, .func (.func 94) #[] #[]] w0 (rdr g rv l bad) (fun _ : Value => Value.agg (bc (rSum (l, bad))).toArray) (fun x => rdr g x (rNext 32 (l, bad)).1 (rNext 32 (l, bad)).2) (fun _ => True) := by
  cases bad with
  | true => simp only [rNext, rInt, rSum, rRef, eq_self, true_or, if_true]; exact take_digest_bad H hz rfl
  | false =>
    by_cases hn : l.length < 32
    · simp only [rNext, rInt, rSum, rRef, hn, or_true, if_true]; exact take_digest_short H hz rfl hn
    · have hc : ¬ (false = true ∨ l.length < 32) := by simp; omega
      simp only [rNext, rInt, rSum, rRef, hc, if_false]; exact take_digest_ok H hz rfl (by omega)

theorem take_ref {g : Nat} {rv : Value} {l : List UInt8} {bad : Bool} {w0 : World} (H : Has w0 (rdr g rv l bad)) (hz : l.length ≤ 35184372088832) : Does Tryz.prog 95 [.pointer (some ⟨g, 0, none⟩), .int .i64 40, .func (.func 96) #[] #[]] w0 (rdr g rv l bad) (fun _ : Value => Value.agg (Value.int .i64 (rRef (l, bad)).1 :: bc (rRef (l, bad)).2).toArray) (fun x => rdr g x (rNext 40 (l, bad)).1 (rNext 40 (l, bad)).2) (fun _ => True) := by
  cases bad with
  | true => simp only [rNext, rInt, rSum, rRef, eq_self, true_or, if_true]; exact take_ref_bad H hz rfl
  | false =>
    by_cases hn : l.length < 40
    · simp only [rNext, rInt, rSum, rRef, hn, or_true, if_true]; exact take_ref_short H hz rfl hn
    · have hc : ¬ (false = true ∨ l.length < 40) := by simp; omega
      simp only [rNext, rInt, rSum, rRef, hc, if_false]; exact take_ref_ok H hz rfl (by omega)

set_option maxRecDepth 100000 in
theorem Reader_Int_x {g : Nat} {rv : Value} {l : List UInt8} {bad : Bool} {w0 : World} (H : Has w0 (rdr g rv l bad)) (hz : l.length ≤ 35184372088832) : Does Tryz.prog 66 [.pointer (some ⟨g, 0, none⟩)] w0 (rdr g rv l bad) (fun _ : Value => Value.int .i64 (rInt (l, bad))) (fun x => rdr g x (rNext 8 (l, bad)).1 (rNext 8 (l, bad)).2) (fun _ => True) := by
  refine enter (n := 5) Tryz.func66 rfl rfl rfl ?_
  intro fr E
  have M : Mem w0 (feet (rdr g rv l bad)) (rdr g rv l bad) (fun _ => True) w0 := Mem.begin H (fun _ _ => trivial)
  refine code_region ?_
  refine sw E (run_assignC rfl) fun fr E => ?_
  refine seq_nil' ?_
  refine code_region ?_
  refine mv E fun fr E => ?_
  refine scallI (rdr g rv l bad) E M rfl rfl rfl rfl rfl (run_call rfl rfl T.fn81) rfl (fun H => take_number H hz) ?_
  rintro rv2 fr w - M E
  refine ma E fun fr E => ?_
  refine seq_nil' ?_
  refine wp_ret ?_
  refine ret1 E rfl rfl ?_
  exact ⟨_, rfl, M.fin (List.Sublist.refl _) trivial⟩

set_option maxRecDepth 100000 in
theorem Reader_Sum_x {g : Nat} {rv : Value} {l : List UInt8} {bad : Bool} {w0 : World} (H : Has w0 (rdr g rv l bad)) (hz : l.length ≤ 35184372088832) : Does Tryz.prog 83 [.pointer (some ⟨g, 0, none⟩)] w0 (rdr g rv l bad) (fun _ : Value => Value.agg (bc (rSum (l, bad))).toArray) (fun x => rdr g x (rNext 32 (l, bad)).1 (rNext 32 (l, bad)).2) (fun _ => True) := by
  refine enter (n := 5) Tryz.func83 rfl rfl rfl ?_
  intro fr E
  have M : Mem w0 (feet (rdr g rv l bad)) (rdr g rv l bad) (fun _ => True) w0 := Mem.begin H (fun _ _ => trivial)
  refine code_region ?_
  refine snew (ob := .cells _ 54) (fun g => .pointer (some ⟨g, 0, none⟩)) E M rfl rfl rfl rfl rfl (run_allocN rfl T.zero54) fun g0 fr w M E => ?_
  refine seq_nil' ?_
  refine code_region ?_
  refine mv E fun fr E => ?_
  have M := M.pull 2 rfl
  have M := M.pull 2 rfl
  refine scallI (rdr g rv l bad) E M rfl rfl rfl rfl rfl (run_call rfl rfl T.fn93) rfl (fun H => take_digest H hz) ?_
  rintro rv2 fr w - M E
  refine sset (i := 2) (cs' := (bc (rSum (l, bad))).toArray) E M rfl rfl rfl rfl rfl (run_storeAll (vs := (bc (rSum (l, bad))).toArray) rfl rfl rfl T.size54 (by simp [rSum_len, rRef_len]) (M.row (i := 2) rfl) rfl (by simpa using bc_one _)) rfl fun fr w M E => ?_
  refine seq_nil' ?_
  refine wp_ret ?_
  refine retC E rfl rfl T.agg54 (M.row (i := 2) rfl) (by simp [rSum_len, rRef_len]) ?_
  exact ⟨_, rfl, M.fin (by first | exact List.Sublist.refl _ | exact .cons _ (.refl _) | exact .cons_cons _ (.cons_cons _ (.cons _ .slnil))) trivial⟩

set_option maxRecDepth 100000 in
theorem Reader_Ref_x {g : Nat} {rv : Value} {l : List UInt8} {bad : Bool} {w0 : World} (H : Has w0 (rdr g rv l bad)) (hz : l.length ≤ 35184372088832) : Does Tryz.prog 84 [.pointer (some ⟨g, 0, none⟩)] w0 (rdr g rv l bad) (fun _ : Value => Value.agg (Value.int .i64 (rRef (l, bad)).1 :: bc (rRef (l, bad)).2).toArray) (fun x => rdr g x (rNext 40 (l, bad)).1 (rNext 40 (l, bad)).2) (fun _ => True) := by
  refine enter (n := 5) Tryz.func84 rfl rfl rfl ?_
  intro fr E
  have M : Mem w0 (feet (rdr g rv l bad)) (rdr g rv l bad) (fun _ => True) w0 := Mem.begin H (fun _ _ => trivial)
  refine code_region ?_
  refine snew (ob := .cells _ 58) (fun g => .pointer (some ⟨g, 0, none⟩)) E M rfl rfl rfl rfl rfl (run_allocN rfl T.zero58) fun g0 fr w M E => ?_
  refine seq_nil' ?_
  refine code_region ?_
  refine mv E fun fr E => ?_
  have M := M.pull 2 rfl
  have M := M.pull 2 rfl
  refine scallI (rdr g rv l bad) E M rfl rfl rfl rfl rfl (run_call rfl rfl T.fn95) rfl (fun H => take_ref H hz) ?_
  rintro rv2 fr w - M E
  refine sset (i := 2) (cs' := (Value.int .i64 (rRef (l, bad)).1 :: bc (rRef (l, bad)).2).toArray) E M rfl rfl rfl rfl rfl (run_storeAll (vs := (Value.int .i64 (rRef (l, bad)).1 :: bc (rRef (l, bad)).2).toArray) rfl rfl rfl T.size58 (by simp [rSum_len, rRef_len]) (M.row (i := 2) rfl) rfl (by intro v hv; simp only [List.mem_cons] at hv; rcases hv with rfl | hv; rfl; exact bc_one _ v hv)) rfl fun fr w M E => ?_
  refine seq_nil' ?_
  refine wp_ret ?_
  refine retC E rfl rfl T.agg58 (M.row (i := 2) rfl) (by simp [rSum_len, rRef_len]) ?_
  exact ⟨_, rfl, M.fin (by first | exact List.Sublist.refl _ | exact .cons _ (.refl _) | exact .cons_cons _ (.cons_cons _ (.cons _ .slnil))) trivial⟩

set_option maxRecDepth 100000 in
theorem End_bad {g : Nat} {rv : Value} {l : List UInt8} {bad : Bool} {w0 : World} (H : Has w0 (rdr g rv l bad)) (hz : l.length ≤ 35184372088832) (hb : bad = true) : Does Tryz.prog 69 [.pointer (some ⟨g, 0, none⟩)] w0 (rdr g rv l bad) (fun _ : Unit => .int .i64 4) (fun _ => rdr g rv l bad) (fun _ => True) := by
  refine enter (n := 15) Tryz.func69 rfl rfl rfl ?_
  intro fr E
  have M : Mem w0 (feet (rdr g rv l bad)) (rdr g rv l bad) (fun _ => True) w0 := Mem.begin H (fun _ _ => trivial)
  subst hb
  refine code_region ?_
  refine sw E (run_assignC rfl) fun fr E => ?_
  refine seq_nil' ?_
  refine wp_seq ?_
  refine wp_block ?_
  refine code_region ?_
  refine mv E fun fr E => ?_
  refine sw E (run_nilCheck rfl rfl) fun fr E => ?_
  refine sw (v := .pointer (some ⟨_, 1, none⟩)) E (run_fieldAddr rfl rfl T.fld138_1) fun fr E => ?_
  refine sw (v := .bool _) E (run_loadB rfl rfl T.one4 (M.row (i := 0) rfl) rfl) fun fr E => ?_
  refine ma E fun fr E => ?_
  refine seq_nil' ?_
  refine cond_true E rfl (rfl) ?_
  refine code_region ?_
  refine sw E (run_assignC rfl) fun fr E => ?_
  refine seq_nil' ?_
  refine wp_ret ?_
  refine block_ret ?_
  refine then_ret ?_
  refine ret1 E rfl rfl ?_
  exact ⟨(), rfl, M.fin (List.Sublist.refl _) trivial⟩

set_option maxRecDepth 100000 in
theorem End_long {g : Nat} {rv : Value} {l : List UInt8} {bad : Bool} {w0 : World} (H : Has w0 (rdr g rv l bad)) (hz : l.length ≤ 35184372088832) (hb : bad = false) (hl : 0 < l.length) : Does Tryz.prog 69 [.pointer (some ⟨g, 0, none⟩)] w0 (rdr g rv l bad) (fun _ : Unit => .int .i64 3) (fun _ => rdr g rv l bad) (fun _ => True) := by
  refine enter (n := 15) Tryz.func69 rfl rfl rfl ?_
  intro fr E
  have M : Mem w0 (feet (rdr g rv l bad)) (rdr g rv l bad) (fun _ => True) w0 := Mem.begin H (fun _ _ => trivial)
  subst hb
  refine code_region ?_
  refine sw E (run_assignC rfl) fun fr E => ?_
  refine seq_nil' ?_
  refine wp_seq ?_
  refine wp_block ?_
  refine code_region ?_
  refine mv E fun fr E => ?_
  refine sw E (run_nilCheck rfl rfl) fun fr E => ?_
  refine sw (v := .pointer (some ⟨_, 1, none⟩)) E (run_fieldAddr rfl rfl T.fld138_1) fun fr E => ?_
  refine sw (v := .bool _) E (run_loadB rfl rfl T.one4 (M.row (i := 0) rfl) rfl) fun fr E => ?_
  refine ma E fun fr E => ?_
  refine seq_nil' ?_
  refine cond_false E rfl (rfl) ?_
  refine code_region ?_
  refine mv E fun fr E => ?_
  refine sw E (run_nilCheck rfl rfl) fun fr E => ?_
  refine sw (v := .pointer (some ⟨_, 0, none⟩)) E (run_fieldAddr rfl rfl T.fld138_0) fun fr E => ?_
  refine sw E (run_loadB rfl rfl T.one36 (M.row (i := 0) rfl) rfl) fun fr E => ?_
  refine sw (v := .int .i64 _) E (run_lenR rfl rfl rfl rfl T.slice36 (M.subs 1 rfl)) fun fr E => ?_
  refine sw (v := .bool true) E (tst rfl (decide_eq_true (by omega))) fun fr E => ?_
  refine ma E fun fr E => ?_
  refine seq_nil' ?_
  refine cond_true E rfl (rfl) ?_
  refine code_region ?_
  refine sw E (run_assignC rfl) fun fr E => ?_
  refine seq_nil' ?_
  refine wp_ret ?_
  refine block_ret ?_
  refine then_ret ?_
  refine ret1 E rfl rfl ?_
  exact ⟨(), rfl, M.fin (List.Sublist.refl _) trivial⟩

set_option maxRecDepth 100000 in
theorem End_ok {g : Nat} {rv : Value} {l : List UInt8} {bad : Bool} {w0 : World} (H : Has w0 (rdr g rv l bad)) (hz : l.length ≤ 35184372088832) (hb : bad = false) (hl : l.length = 0) : Does Tryz.prog 69 [.pointer (some ⟨g, 0, none⟩)] w0 (rdr g rv l bad) (fun _ : Unit => .int .i64 0) (fun _ => rdr g rv l bad) (fun _ => True) := by
  refine enter (n := 15) Tryz.func69 rfl rfl rfl ?_
  intro fr E
  have M : Mem w0 (feet (rdr g rv l bad)) (rdr g rv l bad) (fun _ => True) w0 := Mem.begin H (fun _ _ => trivial)
  subst hb
  refine code_region ?_
  refine sw E (run_assignC rfl) fun fr E => ?_
  refine seq_nil' ?_
  refine wp_seq ?_
  refine wp_block ?_
  refine code_region ?_
  refine mv E fun fr E => ?_
  refine sw E (run_nilCheck rfl rfl) fun fr E => ?_
  refine sw (v := .pointer (some ⟨_, 1, none⟩)) E (run_fieldAddr rfl rfl T.fld138_1) fun fr E => ?_
  refine sw (v := .bool _) E (run_loadB rfl rfl T.one4 (M.row (i := 0) rfl) rfl) fun fr E => ?_
  refine ma E fun fr E => ?_
  refine seq_nil' ?_
  refine cond_false E rfl (rfl) ?_
  refine code_region ?_
  refine mv E fun fr E => ?_
  refine sw E (run_nilCheck rfl rfl) fun fr E => ?_
  refine sw (v := .pointer (some ⟨_, 0, none⟩)) E (run_fieldAddr rfl rfl T.fld138_0) fun fr E => ?_
  refine sw E (run_loadB rfl rfl T.one36 (M.row (i := 0) rfl) rfl) fun fr E => ?_
  refine sw (v := .int .i64 _) E (run_lenR rfl rfl rfl rfl T.slice36 (M.subs 1 rfl)) fun fr E => ?_
  refine sw (v := .bool false) E (tst rfl (decide_eq_false (by omega))) fun fr E => ?_
  refine ma E fun fr E => ?_
  refine seq_nil' ?_
  refine cond_false E rfl (rfl) ?_
  refine wp_skip ?_
  refine block_normal ?_
  refine then_normal ?_
  refine code_region ?_
  refine sw E (run_assignC rfl) fun fr E => ?_
  refine seq_nil' ?_
  refine wp_ret ?_
  refine ret1 E rfl rfl ?_
  exact ⟨(), rfl, M.fin (List.Sublist.refl _) trivial⟩

theorem End_x {g : Nat} {rv : Value} {l : List UInt8} {bad : Bool} {w0 : World} (H : Has w0 (rdr g rv l bad)) (hz : l.length ≤ 35184372088832) : Does Tryz.prog 69 [.pointer (some ⟨g, 0, none⟩)] w0 (rdr g rv l bad) (fun _ : Unit => .int .i64 (rEnd (l, bad))) (fun _ => rdr g rv l bad) (fun _ => True) := by
  cases bad with
  | true => exact End_bad H hz rfl
  | false =>
    by_cases hl : 0 < l.length
    · simp only [rEnd, hl, if_true, Bool.false_eq_true, if_false]; exact End_long H hz rfl hl
    · simp only [rEnd, hl, Bool.false_eq_true, if_false]; exact End_ok H hz rfl (by omega)

set_option maxRecDepth 100000 in
theorem Read_x {b : Value} {l : List UInt8} {w0 : World} (hb : Bytes w0 b l) (hz : l.length ≤ 35184372088832) : Does Tryz.prog 65 [b] w0 [] (fun x : Nat × Value => .pointer (some ⟨x.1, 0, none⟩)) (fun x => rdr x.1 x.2 l false) (fun _ => True) := by
  refine enter (n := 7) Tryz.func65 rfl rfl rfl ?_
  intro fr E
  have M : Mem w0 (feet []) [] (fun w' => Bytes w' b l) w0 := Mem.begin (Has.nil w0) (fun w' h => hb.held0 h)
  refine code_region ?_
  refine sw E (run_assignC rfl) fun fr E => ?_
  refine seq_nil' ?_
  refine code_region ?_
  refine mv E fun fr E => ?_
  refine scall E M rfl rfl rfl rfl rfl (run_call rfl rfl T.fn80) (behind_x (k := []) M.fact (Bytes.nil _) (by simp; omega)) rfl ?_
  rintro s fr w - M E
  have M := M.as (L' := [.bytes 5 s l]) (by simp)
  obtain ⟨sb, sc, hs⟩ := Reads.slice (M.bytes 0 rfl); subst hs
  refine sw (v := .agg ([Value.slice sb l.length sc, .bool false]).toArray) E (run_buildP (vs := [.slice sb l.length sc]) (us := [Value.slice sb l.length sc, .bool false]) rfl rfl T.ts138 T.zeroL138 (rfl) rfl rfl (rfl)) fun fr E => ?_
  refine snew (ob := .cells (#[.slice sb l.length sc, .bool false]) 138) (fun g => .pointer (some ⟨g, 0, none⟩)) E M rfl rfl rfl rfl rfl (run_boxN (cs := (#[.slice sb l.length sc, .bool false])) rfl rfl) fun g0 fr w M E => ?_
  refine ma E fun fr E => ?_
  refine seq_nil' ?_
  refine wp_ret ?_
  refine ret1 E rfl rfl ?_
  have M := M.asSub 1 rfl
  exact ⟨(_, _), rfl, M.fin (List.Sublist.refl _) trivial⟩
end Go.Proofs.YtnebjbgcibjohaaGreat.K
end
section
namespace Go.Proofs.YtnebjbgcibjohaaGreat.K
open Go.RowKit Go.Rill Go.Proofs
set_option linter.unusedVariables false
set_option linter.unusedSimpArgs false
def idxOf (q : Int → Bool) (l : List Int) : Int := match l.findIdx? q with | some i => i | none => -1
theorem idxOf_none {q : Int → Bool} {l : List Int} (h : ∀ j, ∀ hj : j < l.length, q l[j] = false) : idxOf q l = -1 := by
  have : l.findIdx? q = none := by
    rw [List.findIdx?_eq_none_iff]
    intro x hx
    obtain ⟨j, hj, rfl⟩ := List.getElem_of_mem hx
    exact h j hj
  simp [idxOf, this]
theorem idxOf_some {q : Int → Bool} {l : List Int} {i : Nat} (hi : i < l.length) (h : q l[i] = true) (hno : ∀ j, j < i → ∀ hj : j < l.length, q l[j] = false) : idxOf q l = (i : Int) := by
  have : l.findIdx? q = some i := by
    rw [List.findIdx?_eq_some_iff_getElem]
    exact ⟨hi, h, fun j hj => by simpa using hno j hj (by omega)⟩
  simp [idxOf, this]
theorem idxOf_any {q : Int → Bool} {l : List Int} : decide (idxOf q l ≥ 0) = l.any q := by
  unfold idxOf
  cases h : l.findIdx? q with
  | none =>
    rw [List.findIdx?_eq_none_iff] at h
    have : l.any q = false := by simpa using h
    simp [this]
  | some i =>
    rw [List.findIdx?_eq_some_iff_getElem] at h
    obtain ⟨h1, h2, _⟩ := h
    have : l.any q = true := List.any_eq_true.2 ⟨_, List.getElem_mem h1, h2⟩
    rw [this]
    exact decide_eq_true (show (i : Int) ≥ 0 by omega)
set_option maxRecDepth 100000 in
theorem within_1 {n lo hi : Int} {w0 : World} (h : lo ≤ n) : Gives Tryz.prog 87 [.int .i64 n, .int .i64 lo, .int .i64 hi] w0 (.bool (decide (n ≤ hi))) := by
  refine enter (n := 15) Tryz.func87 rfl rfl rfl ?_
  intro fr E
  have M : Mem w0 (feet []) [] (fun _ => True) w0 := Mem.begin (Has.nil w0) (fun _ _ => trivial)
  refine code_region ?_
  refine sw E (run_assignC rfl) fun fr E => ?_
  refine seq_nil' ?_
  refine code_region ?_
  refine mv E fun fr E => ?_
  refine mv E fun fr E => ?_
  refine sw (v := .bool true) E (tst rfl (decide_eq_true h)) fun fr E => ?_
  refine mv E fun fr E => ?_
  refine mv E fun fr E => ?_
  refine mv E fun fr E => ?_
  refine sw (v := .bool _) E (rfl) fun fr E => ?_
  refine sw (v := .bool _) E (rfl) fun fr E => ?_
  refine ma E fun fr E => ?_
  refine seq_nil' ?_
  refine wp_ret ?_
  refine ret1 E rfl rfl ?_
  exact given M

set_option maxRecDepth 100000 in
theorem within_2 {n lo hi : Int} {w0 : World} (h : ¬ lo ≤ n) : Gives Tryz.prog 87 [.int .i64 n, .int .i64 lo, .int .i64 hi] w0 (.bool false) := by
  refine enter (n := 15) Tryz.func87 rfl rfl rfl ?_
  intro fr E
  have M : Mem w0 (feet []) [] (fun _ => True) w0 := Mem.begin (Has.nil w0) (fun _ _ => trivial)
  refine code_region ?_
  refine sw E (run_assignC rfl) fun fr E => ?_
  refine seq_nil' ?_
  refine code_region ?_
  refine mv E fun fr E => ?_
  refine mv E fun fr E => ?_
  refine sw (v := .bool false) E (tst rfl (decide_eq_false h)) fun fr E => ?_
  refine mv E fun fr E => ?_
  refine sno E rfl rfl rfl rfl fun fr E => ?_
  refine sno E rfl rfl rfl rfl fun fr E => ?_
  refine sno E rfl rfl rfl rfl fun fr E => ?_
  refine sw (v := .bool _) E (rfl) fun fr E => ?_
  refine ma E fun fr E => ?_
  refine seq_nil' ?_
  refine wp_ret ?_
  refine ret1 E rfl rfl ?_
  exact given M

theorem within_x (n lo hi : Int) (w0 : World) : Gives Tryz.prog 87 [.int .i64 n, .int .i64 lo, .int .i64 hi] w0 (.bool (decide (lo ≤ n ∧ n ≤ hi))) := by
  by_cases h : lo ≤ n
  · have e : decide (lo ≤ n ∧ n ≤ hi) = decide (n ≤ hi) := by simp [h]
    rw [e]; exact within_1 h
  · have e : decide (lo ≤ n ∧ n ≤ hi) = false := by simp [h]
    rw [e]; exact within_2 h

set_option maxRecDepth 100000 in
theorem placed_1 {s q : Int} {w0 : World} (h : 0 ≤ s ∧ s ≤ 31) : Gives Tryz.prog 89 [.agg #[.int .i64 s, .int .i64 q]] w0 (.bool (decide (0 ≤ q ∧ q ≤ 63))) := by
  refine enter (n := 11) Tryz.func89 rfl rfl rfl ?_
  intro fr E
  have M : Mem w0 (feet []) [] (fun _ => True) w0 := Mem.begin (Has.nil w0) (fun _ _ => trivial)
  refine code_region ?_
  refine snew (ob := .cells #[_, _] 60) (fun g => .pointer (some ⟨g, 0, none⟩)) E M rfl rfl rfl rfl rfl (run_boxN (cs := #[_, _]) rfl rfl) fun g0 fr w M E => ?_
  refine sw E (run_assignC rfl) fun fr E => ?_
  refine seq_nil' ?_
  refine code_region ?_
  refine sw (v := .pointer (some ⟨_, 0, none⟩)) E (run_fieldAddr rfl rfl T.fld60_0) fun fr E => ?_
  refine sw (v := .int .i64 _) E (run_loadB rfl rfl T.one3 (M.row (i := 0) rfl) rfl) fun fr E => ?_
  refine sgive E M rfl rfl rfl rfl rfl (run_call rfl rfl T.fn87) (within_x _ _ _ _) fun fr w M E => ?_
  rw [decide_eq_true h] at E
  refine mv E fun fr E => ?_
  refine sw (v := .pointer (some ⟨_, 1, none⟩)) E (run_fieldAddr rfl rfl T.fld60_1) fun fr E => ?_
  refine sw (v := .int .i64 _) E (run_loadB rfl rfl T.one3 (M.row (i := 0) rfl) rfl) fun fr E => ?_
  refine sgive E M rfl rfl rfl rfl rfl (run_call rfl rfl T.fn87) (within_x _ _ _ _) fun fr w M E => ?_
  refine sw (v := .bool _) E (rfl) fun fr E => ?_
  refine ma E fun fr E => ?_
  refine seq_nil' ?_
  refine wp_ret ?_
  refine ret1 E rfl rfl ?_
  exact given M

set_option maxRecDepth 100000 in
theorem placed_2 {s q : Int} {w0 : World} (h : ¬ (0 ≤ s ∧ s ≤ 31)) : Gives Tryz.prog 89 [.agg #[.int .i64 s, .int .i64 q]] w0 (.bool false) := by
  refine enter (n := 11) Tryz.func89 rfl rfl rfl ?_
  intro fr E
  have M : Mem w0 (feet []) [] (fun _ => True) w0 := Mem.begin (Has.nil w0) (fun _ _ => trivial)
  refine code_region ?_
  refine snew (ob := .cells #[_, _] 60) (fun g => .pointer (some ⟨g, 0, none⟩)) E M rfl rfl rfl rfl rfl (run_boxN (cs := #[_, _]) rfl rfl) fun g0 fr w M E => ?_
  refine sw E (run_assignC rfl) fun fr E => ?_
  refine seq_nil' ?_
  refine code_region ?_
  refine sw (v := .pointer (some ⟨_, 0, none⟩)) E (run_fieldAddr rfl rfl T.fld60_0) fun fr E => ?_
  refine sw (v := .int .i64 _) E (run_loadB rfl rfl T.one3 (M.row (i := 0) rfl) rfl) fun fr E => ?_
  refine sgive E M rfl rfl rfl rfl rfl (run_call rfl rfl T.fn87) (within_x _ _ _ _) fun fr w M E => ?_
  rw [decide_eq_false h] at E
  refine mv E fun fr E => ?_
  refine sno E rfl rfl rfl rfl fun fr E => ?_
  refine sno E rfl rfl rfl rfl fun fr E => ?_
  refine sno E rfl rfl rfl rfl fun fr E => ?_
  refine sw (v := .bool _) E (rfl) fun fr E => ?_
  refine ma E fun fr E => ?_
  refine seq_nil' ?_
  refine wp_ret ?_
  refine ret1 E rfl rfl ?_
  exact given M

theorem placed_x (s q : Int) (w0 : World) : Gives Tryz.prog 89 [.agg #[.int .i64 s, .int .i64 q]] w0 (.bool (decide (RPl s q))) := by
  by_cases h : 0 ≤ s ∧ s ≤ 31
  · have e : decide (RPl s q) = decide (0 ≤ q ∧ q ≤ 63) := by simp [RPl, h]
    rw [e]; exact placed_1 h
  · have e : decide (RPl s q) = false := by simp [RPl, h]
    rw [e]; exact placed_2 h



set_option maxRecDepth 100000 in
theorem SameBytes_ne {a b : Value} {l k : List UInt8} {w0 : World} (ha : Bytes w0 a l) (hb : Bytes w0 b k) (hn : l.length ≠ k.length) : Gives Tryz.prog 22 [a, b] w0 (.bool false) := by
  refine enter (n := 26) Tryz.func22 rfl rfl rfl ?_
  intro fr E
  have M : Mem w0 (feet []) [] (fun w' => Bytes w' a l ∧ Bytes w' b k) w0 := Mem.begin (Has.nil w0) (fun w' h => ⟨ha.held0 h, hb.held0 h⟩)
  refine code_region ?_
  refine sw E (run_assignC rfl) fun fr E => ?_
  refine seq_nil' ?_
  refine wp_seq ?_
  refine code_region ?_
  refine mv E fun fr E => ?_
  refine sw (v := .int .i64 _) E (run_lenR rfl rfl rfl rfl T.slice36 M.fact.1) fun fr E => ?_
  refine mv E fun fr E => ?_
  refine sw (v := .int .i64 _) E (run_lenR rfl rfl rfl rfl T.slice36 M.fact.2) fun fr E => ?_
  refine sw (v := .bool true) E (tst rfl (by simp <;> omega)) fun fr E => ?_
  refine seq_nil' ?_
  refine cond_true E rfl (rfl) ?_
  refine code_region ?_
  refine sw E (run_assignC rfl) fun fr E => ?_
  refine seq_nil' ?_
  refine wp_ret ?_
  refine then_ret ?_
  refine ret1 E rfl rfl ?_
  exact given M

set_option maxRecDepth 100000 in
theorem SameBytes_eq {a b : Value} {l k : List UInt8} {w0 : World} (ha : Bytes w0 a l) (hb : Bytes w0 b k) (hl : l.length = k.length) (hz : l.length ≤ 35184372088832) : Gives Tryz.prog 22 [a, b] w0 (.bool (decide (l = k))) := by
  refine enter (n := 26) Tryz.func22 rfl rfl rfl ?_
  intro fr E
  have M : Mem w0 (feet []) [] (fun w' => Bytes w' a l ∧ Bytes w' b k) w0 := Mem.begin (Has.nil w0) (fun w' h => ⟨ha.held0 h, hb.held0 h⟩)
  refine code_region ?_
  refine sw E (run_assignC rfl) fun fr E => ?_
  refine seq_nil' ?_
  refine wp_seq ?_
  refine code_region ?_
  refine mv E fun fr E => ?_
  refine sw (v := .int .i64 _) E (run_lenR rfl rfl rfl rfl T.slice36 M.fact.1) fun fr E => ?_
  refine mv E fun fr E => ?_
  refine sw (v := .int .i64 _) E (run_lenR rfl rfl rfl rfl T.slice36 M.fact.2) fun fr E => ?_
  refine sw (v := .bool false) E (tst rfl (by simp <;> omega)) fun fr E => ?_
  refine seq_nil' ?_
  refine cond_false E rfl (rfl) ?_
  refine wp_skip ?_
  refine then_normal ?_
  refine wp_seq ?_
  refine code_region ?_
  refine sw E (run_assignC rfl) fun fr E => ?_
  refine seq_nil' ?_
  refine wp_block ?_
  refine loop_dec (fun d fr w => ∃ i : Nat, d = l.length - i ∧ i ≤ l.length ∧ (∀ j, j < i → l[j]? = k[j]?) ∧ Env [(5, .int .i64 i), (1, b), (0, a)] 26 fr ∧ Mem w0 (feet []) [] (fun w' => Bytes w' a l ∧ Bytes w' b k) w) (l.length) ?_ ?_
  · refine ⟨0, rfl, Nat.zero_le _, fun j hj => absurd hj (by omega), (((Env.nil E).add E (t := 0) rfl).add E (t := 1) rfl).add E (t := 5) rfl, M⟩
  · clear E M
    rintro d fr w ⟨i, rfl, hle, heq, E, M⟩
    by_cases hi : i < l.length
    · by_cases hc : l[i] = k[i]'(hl ▸ hi)
      · refine wp_seq ?_
        refine code_region ?_
        refine mv E fun fr E => ?_
        refine mv E fun fr E => ?_
        refine sw (v := .int .i64 _) E (run_lenR rfl rfl rfl rfl T.slice36 M.fact.1) fun fr E => ?_
        refine sw (v := .bool true) E (tst rfl (decide_eq_true (by omega))) fun fr E => ?_
        refine seq_nil' ?_
        refine cond_true E rfl (rfl) ?_
        refine wp_skip ?_
        refine then_normal ?_
        refine wp_seq ?_
        refine wp_block ?_
        refine wp_seq (free_reg (B := T.tab22_6_b) (Vs := (.exact _ :: .exact _ :: .exact (cellAt a (i * 1)) :: .exact (.int .u8 ((l[i]).toNat : Int)) :: .exact _ :: .exact _ :: .exact (cellAt b (i * 1)) :: .exact (.int .u8 ((k[i]'(hl ▸ hi)).toNat : Int)) :: .exact (.bool false) :: [])) T.tab22_6_i E T.mixed T.tab22_6 rfl (AllS.lasts ⟨trivial, trivial, trivial, trivial, trivial, trivial, trivial, trivial, trivial, trivial⟩) ⟨fv rfl rfl (fun x w hx hk => run_move rfl rfl),
      fv rfl rfl (fun x w hx hk => run_move rfl rfl),
      fv rfl rfl (fun x w hx hk => run_indexR (i := i) rfl (M.ext ((Ext.drew _).trans hx)).fact.1 rfl rfl (rfl) (hi) T.slice36 T.size5),
      fv rfl rfl (fun x w hx hk => run_loadR rfl (M.ext ((Ext.drew _).trans hx)).fact.1 rfl T.one5 (by rw [Nat.mul_one]; exact bc_get hi)),
      fv rfl rfl (fun x w hx hk => run_move rfl rfl),
      fv rfl rfl (fun x w hx hk => run_move rfl rfl),
      fv rfl rfl (fun x w hx hk => run_indexR (i := i) rfl (M.ext ((Ext.drew _).trans hx)).fact.2 rfl rfl (rfl) ((by omega)) T.slice36 T.size5),
      fv rfl rfl (fun x w hx hk => run_loadR rfl (M.ext ((Ext.drew _).trans hx)).fact.2 rfl T.one5 (by rw [Nat.mul_one]; exact bc_get (l := k) (by omega))),
      fv rfl rfl (fun x w hx hk => tst rfl (by simp [hc])), trivial⟩ ?_)
        intro x fr w hx hk E
        have M := M.ext hx
        refine then_normal ?_
        refine cond_false E rfl (rfl) ?_
        refine wp_skip ?_
        refine block_normal ?_
        refine then_normal ?_
        refine code_last ?_
        refine mv E fun fr E => ?_
        refine sw (v := .int _ (((i + 1 : Nat) : Int))) E (num rfl ((i64_id (by omega) (by omega)).trans (by omega))) fun fr E => ?_
        refine ma E fun fr E => ?_
        refine seq_nil ?_
        refine then_any ?_
        refine ⟨l.length - (i + 1), by omega, i + 1, rfl, by omega, fun j hj => ?_, (((Env.nil E).add E (t := 0) rfl).add E (t := 1) rfl).add E (t := 5) rfl, M⟩
        rcases Nat.lt_or_eq_of_le (Nat.le_of_lt_succ hj) with h | rfl
        · exact heq j h
        · rw [List.getElem?_eq_getElem hi, List.getElem?_eq_getElem (hl ▸ hi), hc]
      · refine wp_seq ?_
        refine code_region ?_
        refine mv E fun fr E => ?_
        refine mv E fun fr E => ?_
        refine sw (v := .int .i64 _) E (run_lenR rfl rfl rfl rfl T.slice36 M.fact.1) fun fr E => ?_
        refine sw (v := .bool true) E (tst rfl (decide_eq_true (by omega))) fun fr E => ?_
        refine seq_nil' ?_
        refine cond_true E rfl (rfl) ?_
        refine wp_skip ?_
        refine then_normal ?_
        refine wp_seq ?_
        refine wp_block ?_
        refine wp_seq (free_reg (B := T.tab22_6_b) (Vs := (.exact _ :: .exact _ :: .exact (cellAt a (i * 1)) :: .exact (.int .u8 ((l[i]).toNat : Int)) :: .exact _ :: .exact _ :: .exact (cellAt b (i * 1)) :: .exact (.int .u8 ((k[i]'(hl ▸ hi)).toNat : Int)) :: .exact (.bool true) :: [])) T.tab22_6_i E T.mixed T.tab22_6 rfl (AllS.lasts ⟨trivial, trivial, trivial, trivial, trivial, trivial, trivial, trivial, trivial, trivial⟩) ⟨fv rfl rfl (fun x w hx hk => run_move rfl rfl),
      fv rfl rfl (fun x w hx hk => run_move rfl rfl),
      fv rfl rfl (fun x w hx hk => run_indexR (i := i) rfl (M.ext ((Ext.drew _).trans hx)).fact.1 rfl rfl (rfl) (hi) T.slice36 T.size5),
      fv rfl rfl (fun x w hx hk => run_loadR rfl (M.ext ((Ext.drew _).trans hx)).fact.1 rfl T.one5 (by rw [Nat.mul_one]; exact bc_get hi)),
      fv rfl rfl (fun x w hx hk => run_move rfl rfl),
      fv rfl rfl (fun x w hx hk => run_move rfl rfl),
      fv rfl rfl (fun x w hx hk => run_indexR (i := i) rfl (M.ext ((Ext.drew _).trans hx)).fact.2 rfl rfl (rfl) ((by omega)) T.slice36 T.size5),
      fv rfl rfl (fun x w hx hk => run_loadR rfl (M.ext ((Ext.drew _).trans hx)).fact.2 rfl T.one5 (by rw [Nat.mul_one]; exact bc_get (l := k) (by omega))),
      fv rfl rfl (fun x w hx hk => tst rfl (by simp; exact fun h => hc (UInt8.toNat_inj.1 (Int.ofNat_inj.1 h)))), trivial⟩ ?_)
        intro x fr w hx hk E
        have M := M.ext hx
        refine then_normal ?_
        refine cond_true E rfl (rfl) ?_
        refine code_region ?_
        refine sw E (run_assignC rfl) fun fr E => ?_
        refine seq_nil' ?_
        refine wp_ret ?_
        refine block_ret ?_
        refine then_ret ?_
        refine then_ret ?_
        refine block_ret ?_
        refine then_ret ?_
        refine ret1 E rfl rfl ?_
        have e : decide (l = k) = false := decide_eq_false (fun h => hc (by subst h; rfl))
        rw [e]
        exact given M
    · refine wp_seq ?_
      refine code_region ?_
      refine mv E fun fr E => ?_
      refine mv E fun fr E => ?_
      refine sw (v := .int .i64 _) E (run_lenR rfl rfl rfl rfl T.slice36 M.fact.1) fun fr E => ?_
      refine sw (v := .bool false) E (tst rfl (decide_eq_false (by omega))) fun fr E => ?_
      refine seq_nil' ?_
      refine cond_false E rfl (rfl) ?_
      refine wp_exit ?_
      refine then_exit ?_
      refine then_exit ?_
      refine block_exit ?_
      refine then_normal ?_
      refine code_region ?_
      refine sw E (run_assignC rfl) fun fr E => ?_
      refine seq_nil' ?_
      refine wp_ret ?_
      refine ret1 E rfl rfl ?_
      have e : decide (l = k) = true := decide_eq_true (List.ext_getElem? fun j => by by_cases hj : j < i; exact heq j hj; rw [List.getElem?_eq_none (by omega), List.getElem?_eq_none (by omega)])
      rw [e]
      exact given M

theorem SameBytes_x {a b : Value} {l k : List UInt8} {w0 : World} (ha : Bytes w0 a l) (hb : Bytes w0 b k) (hz : l.length ≤ 35184372088832) : Gives Tryz.prog 22 [a, b] w0 (.bool (decide (l = k))) := by
  by_cases hl : l.length = k.length
  · exact SameBytes_eq ha hb hl hz
  · rw [decide_eq_false (fun h => hl (by rw [h]))]; exact SameBytes_ne ha hb hl


set_option maxRecDepth 100000 in
theorem IndexFunc_int {b : Value} {l : List Int} {w0 : World} {f : FuncId} {q : Int → Bool} (hf : goFn Tryz.prog f = true) (hq : ∀ n w, Gives Tryz.prog f [.int .i64 n] w (.bool (q n))) (hb : Ints w0 b l) (hz : l.length ≤ 35184372088832) : Gives Tryz.prog 97 [b, .func (.func f) #[] #[]] w0 (.int .i64 (idxOf q l)) := by
  refine enter (n := 19) Tryz.func97 rfl rfl rfl ?_
  intro fr E
  have M : Mem w0 (feet []) [] (fun w' => Ints w' b l) w0 := Mem.begin (Has.nil w0) (fun w' h => hb.held0 h)
  refine code_region ?_
  refine sw E (run_assignC rfl) fun fr E => ?_
  refine seq_nil' ?_
  refine wp_seq ?_
  refine code_region ?_
  refine mv E fun fr E => ?_
  refine sw (v := .int .i64 _) E (run_lenR rfl rfl rfl rfl T.slice33 M.fact) fun fr E => ?_
  refine sw E (run_moveC rfl) fun fr E => ?_
  refine seq_nil' ?_
  refine wp_block ?_
  refine loop_dec (fun d fr w => ∃ i : Nat, d = l.length - i ∧ i ≤ l.length ∧ (∀ j, j < i → ∀ hj : j < l.length, q l[j] = false) ∧ Env [(8, .int .i64 i), (7, .int .i64 l.length), (6, b), (1, .func (.func f) #[] #[]), (0, b)] 19 fr ∧ Mem w0 (feet []) [] (fun w' => Ints w' b l) w) (l.length) ?_ ?_
  · refine ⟨0, rfl, Nat.zero_le _, fun j hj => absurd hj (by omega), (((((Env.nil E).add E (t := 0) rfl).add E (t := 1) rfl).add E (t := 6) rfl).add E (t := 7) rfl).add E (t := 8) rfl, M⟩
  · clear E M
    rintro d fr w ⟨i, rfl, hle, hno, E, M⟩
    by_cases hi : i < l.length
    · cases hq' : q l[i] with
      | false =>
        refine code_region ?_
        refine sw (v := .bool true) E (tst rfl (decide_eq_true (by omega))) fun fr E => ?_
        refine seq_nil' ?_
        refine wp_seq ?_
        refine cond_true E rfl (rfl) ?_
        refine wp_skip ?_
        refine then_normal ?_
        refine wp_seq ?_
        refine wp_block ?_
        refine code_region ?_
        refine mv E fun fr E => ?_
        refine ma E fun fr E => ?_
        refine seq_nil' ?_
        refine code_region ?_
        refine mv E fun fr E => ?_
        refine mv E fun fr E => ?_
        refine mv E fun fr E => ?_
        refine sw E (run_indexR (i := i) rfl M.fact rfl rfl (rfl) (hi) T.slice33 T.size3) fun fr E => ?_
        refine sw (v := .int .i64 l[i]) E (run_loadR rfl M.fact rfl T.one3 (by rw [Nat.mul_one]; exact ic_get hi)) fun fr E => ?_
        refine sgive E M rfl rfl rfl rfl rfl (run_callV rfl rfl hf) (hq l[i] _) fun fr w M E => ?_
        rw [hq'] at E
        refine seq_nil' ?_
        refine cond_false E rfl (rfl) ?_
        refine wp_skip ?_
        refine block_normal ?_
        refine then_normal ?_
        refine code_last ?_
        refine sw (v := .int _ (((i + 1 : Nat) : Int))) E (num rfl ((i64_id (by omega) (by omega)).trans (by omega))) fun fr E => ?_
        refine mv E fun fr E => ?_
        refine seq_nil ?_
        refine then_any ?_
        refine ⟨l.length - (i + 1), by omega, i + 1, rfl, by omega, fun j hj hj2 => ?_, (((((Env.nil E).add E (t := 0) rfl).add E (t := 1) rfl).add E (t := 6) rfl).add E (t := 7) rfl).add E (t := 8) rfl, M⟩
        rcases Nat.lt_or_eq_of_le (Nat.le_of_lt_succ hj) with h | rfl
        · exact hno j h hj2
        · exact hq'
      | true =>
        refine code_region ?_
        refine sw (v := .bool true) E (tst rfl (decide_eq_true (by omega))) fun fr E => ?_
        refine seq_nil' ?_
        refine wp_seq ?_
        refine cond_true E rfl (rfl) ?_
        refine wp_skip ?_
        refine then_normal ?_
        refine wp_seq ?_
        refine wp_block ?_
        refine code_region ?_
        refine mv E fun fr E => ?_
        refine ma E fun fr E => ?_
        refine seq_nil' ?_
        refine code_region ?_
        refine mv E fun fr E => ?_
        refine mv E fun fr E => ?_
        refine mv E fun fr E => ?_
        refine sw E (run_indexR (i := i) rfl M.fact rfl rfl (rfl) (hi) T.slice33 T.size3) fun fr E => ?_
        refine sw (v := .int .i64 l[i]) E (run_loadR rfl M.fact rfl T.one3 (by rw [Nat.mul_one]; exact ic_get hi)) fun fr E => ?_
        refine sgive E M rfl rfl rfl rfl rfl (run_callV rfl rfl hf) (hq l[i] _) fun fr w M E => ?_
        rw [hq'] at E
        refine seq_nil' ?_
        refine cond_true E rfl (rfl) ?_
        refine code_region ?_
        refine mv E fun fr E => ?_
        refine ma E fun fr E => ?_
        refine seq_nil' ?_
        refine wp_ret ?_
        refine block_ret ?_
        refine then_ret ?_
        refine then_ret ?_
        refine block_ret ?_
        refine then_ret ?_
        refine ret1 E rfl rfl ?_
        have e : idxOf q l = (i : Int) := idxOf_some hi hq' hno
        rw [e]
        exact given M
    · refine code_region ?_
      refine sw (v := .bool false) E (tst rfl (decide_eq_false (by omega))) fun fr E => ?_
      refine seq_nil' ?_
      refine wp_seq ?_
      refine cond_false E rfl (rfl) ?_
      refine wp_exit ?_
      refine then_exit ?_
      refine then_exit ?_
      refine block_exit ?_
      refine then_normal ?_
      refine code_region ?_
      refine sw E (run_assignC rfl) fun fr E => ?_
      refine seq_nil' ?_
      refine wp_ret ?_
      refine ret1 E rfl rfl ?_
      have e : idxOf q l = -1 := idxOf_none fun j hj => hno j (by omega) hj
      rw [e]
      exact given M

set_option maxRecDepth 100000 in
theorem ContainsFunc_int {b : Value} {l : List Int} {w0 : World} {f : FuncId} {q : Int → Bool} (hf : goFn Tryz.prog f = true) (hq : ∀ n w, Gives Tryz.prog f [.int .i64 n] w (.bool (q n))) (hb : Ints w0 b l) (hz : l.length ≤ 35184372088832) : Gives Tryz.prog 88 [b, .func (.func f) #[] #[]] w0 (.bool (l.any q)) := by
  refine enter (n := 9) Tryz.func88 rfl rfl rfl ?_
  intro fr E
  have M : Mem w0 (feet []) [] (fun w' => Ints w' b l) w0 := Mem.begin (Has.nil w0) (fun w' h => hb.held0 h)
  refine code_region ?_
  refine sw E (run_assignC rfl) fun fr E => ?_
  refine seq_nil' ?_
  refine code_region ?_
  refine mv E fun fr E => ?_
  refine mv E fun fr E => ?_
  refine sgive E M rfl rfl rfl rfl rfl (run_call rfl rfl T.fn97) (IndexFunc_int hf hq M.fact hz) fun fr w M E => ?_
  refine sw (v := .bool _) E (rfl) fun fr E => ?_
  refine ma E fun fr E => ?_
  refine seq_nil' ?_
  refine wp_ret ?_
  refine ret1 E rfl rfl ?_
  rw [← idxOf_any]
  exact given M

set_option maxRecDepth 100000 in
theorem may1_x (n : Int) (w0 : World) : Gives Tryz.prog 86 [.int .i64 n] w0 (.bool (!decide (1 ≤ n ∧ n ≤ 1099511627776))) := by
  refine enter (n := 6) Tryz.func86 rfl rfl rfl ?_
  intro fr E
  have M : Mem w0 (feet []) [] (fun _ => True) w0 := Mem.begin (Has.nil w0) (fun _ _ => trivial)
  refine code_region ?_
  refine sw E (run_assignC rfl) fun fr E => ?_
  refine seq_nil' ?_
  refine code_region ?_
  refine mv E fun fr E => ?_
  refine sgive E M rfl rfl rfl rfl rfl (run_call rfl rfl T.fn87) (within_x _ _ _ _) fun fr w M E => ?_
  refine sw (v := .bool _) E (rfl) fun fr E => ?_
  refine ma E fun fr E => ?_
  refine seq_nil' ?_
  refine wp_ret ?_
  refine ret1 E rfl rfl ?_
  exact given M

set_option maxRecDepth 100000 in
theorem may_eq_any {r : Rec} {w0 : World} (hr : r.Ok) (he : (r.rat = 0 ∧ r.rsum = List.replicate 32 0)) (ha : ([r.gen, r.stamp, r.epoch].any fun n => !decide (1 ≤ n ∧ n ≤ 1099511627776)) = true) : Gives Tryz.prog 73 [r.val] w0 (.bool false) := by
  refine enter (n := 40) Tryz.func73 rfl rfl rfl ?_
  intro fr E
  have M : Mem w0 (feet []) [] (fun _ => True) w0 := Mem.begin (Has.nil w0) (fun _ _ => trivial)
  refine code_region ?_
  refine snew (ob := .cells (r.cells.toArray) 62) (fun g => .pointer (some ⟨g, 0, none⟩)) E M rfl rfl rfl rfl rfl (run_boxN (cs := (r.cells.toArray)) rfl rfl) fun g0 fr w M E => ?_
  refine sw E (run_assignC rfl) fun fr E => ?_
  refine seq_nil' ?_
  refine code_region ?_
  refine sw (v := .pointer (some ⟨_, 0, none⟩)) E (run_fieldAddr rfl rfl T.fld62_0) fun fr E => ?_
  refine sw (v := .int .i64 _) E (run_loadB rfl rfl T.one3 (M.row (i := 0) rfl) Rec.c_gen) fun fr E => ?_
  refine sw (v := .pointer (some ⟨_, 1, none⟩)) E (run_fieldAddr rfl rfl T.fld62_1) fun fr E => ?_
  refine sw (v := .int .i64 _) E (run_loadB rfl rfl T.one3 (M.row (i := 0) rfl) Rec.c_stamp) fun fr E => ?_
  refine sw (v := .pointer (some ⟨_, 2, none⟩)) E (run_fieldAddr rfl rfl T.fld62_2) fun fr E => ?_
  refine sw (v := .int .i64 _) E (run_loadB rfl rfl T.one3 (M.row (i := 0) rfl) Rec.c_epoch) fun fr E => ?_
  refine srow (sz := 1) (xs := _) E M rfl rfl rfl rfl rfl (run_buildSliceA (us := [_, _, _]) (vs := [_, _, _]) rfl rfl rfl T.slice33 T.size3 T.zl3 rfl rfl rfl rfl rfl) (rfl) (Nat.le_refl _) (by decide) (rfl) fun s fr w M E => ?_
  refine ma E fun fr E => ?_
  refine seq_nil' ?_
  refine code_region ?_
  refine sw (v := .func (.func 86) #[] #[]) E (rfl) fun fr E => ?_
  refine seq_nil' ?_
  refine code_region ?_
  refine sw (v := .pointer (some ⟨_, 35, none⟩)) E (run_fieldAddr rfl rfl T.fld62_4) fun fr E => ?_
  refine sw (v := .agg (iv r.rat :: bc r.rsum).toArray) E (run_loadN' (vs := (iv r.rat :: bc r.rsum).toArray) rfl rfl T.agg58 (M.row (i := 1) rfl) (by simp [Rec.len hr]) (congrArg List.toArray (Rec.m_root hr))) fun fr E => ?_
  refine sw (v := .agg (iv 0 :: bc (List.replicate 32 0)).toArray) E (run_buildP (vs := []) (us := iv 0 :: bc (List.replicate 32 0)) rfl rfl T.ts58 T.zeroL58 (rfl) rfl rfl (rfl)) fun fr E => ?_
  refine sw (v := .bool true) E (run_eqF (b := true) rfl rfl rfl T.flat58 (fit_ref hr.rsum) (fit_ref (by simp)) (by rw [ref_eq]; simp [he])) fun fr E => ?_
  refine mv E fun fr E => ?_
  refine sno E rfl rfl rfl rfl fun fr E => ?_
  refine sno E rfl rfl rfl rfl fun fr E => ?_
  refine sno E rfl rfl rfl rfl fun fr E => ?_
  refine sno E rfl rfl rfl rfl fun fr E => ?_
  refine sw (v := .bool _) E (rfl) fun fr E => ?_
  refine ma E fun fr E => ?_
  refine seq_nil' ?_
  refine code_region ?_
  refine mv E fun fr E => ?_
  refine mv E fun fr E => ?_
  refine sgive E M rfl rfl rfl rfl rfl (run_call rfl rfl T.fn88) (ContainsFunc_int (l := [r.gen, r.stamp, r.epoch]) T.fn86 (fun n w => may1_x n w) (M.reads 0 rfl) (by simp)) fun fr w M E => ?_
  rw [ha] at E
  refine sw (v := .bool _) E (rfl) fun fr E => ?_
  refine mv E fun fr E => ?_
  refine sno E rfl rfl rfl rfl fun fr E => ?_
  refine sw (v := .bool _) E (rfl) fun fr E => ?_
  refine mv E fun fr E => ?_
  refine sno E rfl rfl rfl rfl fun fr E => ?_
  refine sno E rfl rfl rfl rfl fun fr E => ?_
  refine sno E rfl rfl rfl rfl fun fr E => ?_
  refine sw (v := .bool _) E (rfl) fun fr E => ?_
  refine mv E fun fr E => ?_
  refine sno E rfl rfl rfl rfl fun fr E => ?_
  refine sno E rfl rfl rfl rfl fun fr E => ?_
  refine sno E rfl rfl rfl rfl fun fr E => ?_
  refine sw (v := .bool _) E (rfl) fun fr E => ?_
  refine ma E fun fr E => ?_
  refine seq_nil' ?_
  refine wp_ret ?_
  refine ret1 E rfl rfl ?_
  exact given M

set_option maxRecDepth 100000 in
theorem may_eq_nb {r : Rec} {w0 : World} (hr : r.Ok) (he : (r.rat = 0 ∧ r.rsum = List.replicate 32 0)) (ha : ([r.gen, r.stamp, r.epoch].any fun n => !decide (1 ≤ n ∧ n ≤ 1099511627776)) = false) (hb : ¬ RPl r.bseg r.bslot) : Gives Tryz.prog 73 [r.val] w0 (.bool false) := by
  refine enter (n := 40) Tryz.func73 rfl rfl rfl ?_
  intro fr E
  have M : Mem w0 (feet []) [] (fun _ => True) w0 := Mem.begin (Has.nil w0) (fun _ _ => trivial)
  refine code_region ?_
  refine snew (ob := .cells (r.cells.toArray) 62) (fun g => .pointer (some ⟨g, 0, none⟩)) E M rfl rfl rfl rfl rfl (run_boxN (cs := (r.cells.toArray)) rfl rfl) fun g0 fr w M E => ?_
  refine sw E (run_assignC rfl) fun fr E => ?_
  refine seq_nil' ?_
  refine code_region ?_
  refine sw (v := .pointer (some ⟨_, 0, none⟩)) E (run_fieldAddr rfl rfl T.fld62_0) fun fr E => ?_
  refine sw (v := .int .i64 _) E (run_loadB rfl rfl T.one3 (M.row (i := 0) rfl) Rec.c_gen) fun fr E => ?_
  refine sw (v := .pointer (some ⟨_, 1, none⟩)) E (run_fieldAddr rfl rfl T.fld62_1) fun fr E => ?_
  refine sw (v := .int .i64 _) E (run_loadB rfl rfl T.one3 (M.row (i := 0) rfl) Rec.c_stamp) fun fr E => ?_
  refine sw (v := .pointer (some ⟨_, 2, none⟩)) E (run_fieldAddr rfl rfl T.fld62_2) fun fr E => ?_
  refine sw (v := .int .i64 _) E (run_loadB rfl rfl T.one3 (M.row (i := 0) rfl) Rec.c_epoch) fun fr E => ?_
  refine srow (sz := 1) (xs := _) E M rfl rfl rfl rfl rfl (run_buildSliceA (us := [_, _, _]) (vs := [_, _, _]) rfl rfl rfl T.slice33 T.size3 T.zl3 rfl rfl rfl rfl rfl) (rfl) (Nat.le_refl _) (by decide) (rfl) fun s fr w M E => ?_
  refine ma E fun fr E => ?_
  refine seq_nil' ?_
  refine code_region ?_
  refine sw (v := .func (.func 86) #[] #[]) E (rfl) fun fr E => ?_
  refine seq_nil' ?_
  refine code_region ?_
  refine sw (v := .pointer (some ⟨_, 35, none⟩)) E (run_fieldAddr rfl rfl T.fld62_4) fun fr E => ?_
  refine sw (v := .agg (iv r.rat :: bc r.rsum).toArray) E (run_loadN' (vs := (iv r.rat :: bc r.rsum).toArray) rfl rfl T.agg58 (M.row (i := 1) rfl) (by simp [Rec.len hr]) (congrArg List.toArray (Rec.m_root hr))) fun fr E => ?_
  refine sw (v := .agg (iv 0 :: bc (List.replicate 32 0)).toArray) E (run_buildP (vs := []) (us := iv 0 :: bc (List.replicate 32 0)) rfl rfl T.ts58 T.zeroL58 (rfl) rfl rfl (rfl)) fun fr E => ?_
  refine sw (v := .bool true) E (run_eqF (b := true) rfl rfl rfl T.flat58 (fit_ref hr.rsum) (fit_ref (by simp)) (by rw [ref_eq]; simp [he])) fun fr E => ?_
  refine mv E fun fr E => ?_
  refine sno E rfl rfl rfl rfl fun fr E => ?_
  refine sno E rfl rfl rfl rfl fun fr E => ?_
  refine sno E rfl rfl rfl rfl fun fr E => ?_
  refine sno E rfl rfl rfl rfl fun fr E => ?_
  refine sw (v := .bool _) E (rfl) fun fr E => ?_
  refine ma E fun fr E => ?_
  refine seq_nil' ?_
  refine code_region ?_
  refine mv E fun fr E => ?_
  refine mv E fun fr E => ?_
  refine sgive E M rfl rfl rfl rfl rfl (run_call rfl rfl T.fn88) (ContainsFunc_int (l := [r.gen, r.stamp, r.epoch]) T.fn86 (fun n w => may1_x n w) (M.reads 0 rfl) (by simp)) fun fr w M E => ?_
  rw [ha] at E
  refine sw (v := .bool _) E (rfl) fun fr E => ?_
  refine mv E fun fr E => ?_
  refine mv E fun fr E => ?_
  refine sw (v := .bool _) E (rfl) fun fr E => ?_
  refine mv E fun fr E => ?_
  refine sw (v := .pointer (some ⟨_, 68, none⟩)) E (run_fieldAddr rfl rfl T.fld62_5) fun fr E => ?_
  refine sw (v := .agg ([iv r.bseg, iv r.bslot]).toArray) E (run_loadN' (vs := ([iv r.bseg, iv r.bslot]).toArray) rfl rfl T.agg60 (M.row (i := 1) rfl) (by simp [Rec.len hr]) (congrArg List.toArray (Rec.m_base hr))) fun fr E => ?_
  refine sgive E M rfl rfl rfl rfl rfl (run_call rfl rfl T.fn89) (placed_x _ _ _) fun fr w M E => ?_
  rw [decide_eq_false hb] at E
  refine sw (v := .bool _) E (rfl) fun fr E => ?_
  refine mv E fun fr E => ?_
  refine sno E rfl rfl rfl rfl fun fr E => ?_
  refine sno E rfl rfl rfl rfl fun fr E => ?_
  refine sno E rfl rfl rfl rfl fun fr E => ?_
  refine sw (v := .bool _) E (rfl) fun fr E => ?_
  refine ma E fun fr E => ?_
  refine seq_nil' ?_
  refine wp_ret ?_
  refine ret1 E rfl rfl ?_
  exact given M

set_option maxRecDepth 100000 in
theorem may_eq_b {r : Rec} {w0 : World} (hr : r.Ok) (he : (r.rat = 0 ∧ r.rsum = List.replicate 32 0)) (ha : ([r.gen, r.stamp, r.epoch].any fun n => !decide (1 ≤ n ∧ n ≤ 1099511627776)) = false) (hb : RPl r.bseg r.bslot) : Gives Tryz.prog 73 [r.val] w0 (.bool (decide (RPl r.tseg r.tslot))) := by
  refine enter (n := 40) Tryz.func73 rfl rfl rfl ?_
  intro fr E
  have M : Mem w0 (feet []) [] (fun _ => True) w0 := Mem.begin (Has.nil w0) (fun _ _ => trivial)
  refine code_region ?_
  refine snew (ob := .cells (r.cells.toArray) 62) (fun g => .pointer (some ⟨g, 0, none⟩)) E M rfl rfl rfl rfl rfl (run_boxN (cs := (r.cells.toArray)) rfl rfl) fun g0 fr w M E => ?_
  refine sw E (run_assignC rfl) fun fr E => ?_
  refine seq_nil' ?_
  refine code_region ?_
  refine sw (v := .pointer (some ⟨_, 0, none⟩)) E (run_fieldAddr rfl rfl T.fld62_0) fun fr E => ?_
  refine sw (v := .int .i64 _) E (run_loadB rfl rfl T.one3 (M.row (i := 0) rfl) Rec.c_gen) fun fr E => ?_
  refine sw (v := .pointer (some ⟨_, 1, none⟩)) E (run_fieldAddr rfl rfl T.fld62_1) fun fr E => ?_
  refine sw (v := .int .i64 _) E (run_loadB rfl rfl T.one3 (M.row (i := 0) rfl) Rec.c_stamp) fun fr E => ?_
  refine sw (v := .pointer (some ⟨_, 2, none⟩)) E (run_fieldAddr rfl rfl T.fld62_2) fun fr E => ?_
  refine sw (v := .int .i64 _) E (run_loadB rfl rfl T.one3 (M.row (i := 0) rfl) Rec.c_epoch) fun fr E => ?_
  refine srow (sz := 1) (xs := _) E M rfl rfl rfl rfl rfl (run_buildSliceA (us := [_, _, _]) (vs := [_, _, _]) rfl rfl rfl T.slice33 T.size3 T.zl3 rfl rfl rfl rfl rfl) (rfl) (Nat.le_refl _) (by decide) (rfl) fun s fr w M E => ?_
  refine ma E fun fr E => ?_
  refine seq_nil' ?_
  refine code_region ?_
  refine sw (v := .func (.func 86) #[] #[]) E (rfl) fun fr E => ?_
  refine seq_nil' ?_
  refine code_region ?_
  refine sw (v := .pointer (some ⟨_, 35, none⟩)) E (run_fieldAddr rfl rfl T.fld62_4) fun fr E => ?_
  refine sw (v := .agg (iv r.rat :: bc r.rsum).toArray) E (run_loadN' (vs := (iv r.rat :: bc r.rsum).toArray) rfl rfl T.agg58 (M.row (i := 1) rfl) (by simp [Rec.len hr]) (congrArg List.toArray (Rec.m_root hr))) fun fr E => ?_
  refine sw (v := .agg (iv 0 :: bc (List.replicate 32 0)).toArray) E (run_buildP (vs := []) (us := iv 0 :: bc (List.replicate 32 0)) rfl rfl T.ts58 T.zeroL58 (rfl) rfl rfl (rfl)) fun fr E => ?_
  refine sw (v := .bool true) E (run_eqF (b := true) rfl rfl rfl T.flat58 (fit_ref hr.rsum) (fit_ref (by simp)) (by rw [ref_eq]; simp [he])) fun fr E => ?_
  refine mv E fun fr E => ?_
  refine sno E rfl rfl rfl rfl fun fr E => ?_
  refine sno E rfl rfl rfl rfl fun fr E => ?_
  refine sno E rfl rfl rfl rfl fun fr E => ?_
  refine sno E rfl rfl rfl rfl fun fr E => ?_
  refine sw (v := .bool _) E (rfl) fun fr E => ?_
  refine ma E fun fr E => ?_
  refine seq_nil' ?_
  refine code_region ?_
  refine mv E fun fr E => ?_
  refine mv E fun fr E => ?_
  refine sgive E M rfl rfl rfl rfl rfl (run_call rfl rfl T.fn88) (ContainsFunc_int (l := [r.gen, r.stamp, r.epoch]) T.fn86 (fun n w => may1_x n w) (M.reads 0 rfl) (by simp)) fun fr w M E => ?_
  rw [ha] at E
  refine sw (v := .bool _) E (rfl) fun fr E => ?_
  refine mv E fun fr E => ?_
  refine mv E fun fr E => ?_
  refine sw (v := .bool _) E (rfl) fun fr E => ?_
  refine mv E fun fr E => ?_
  refine sw (v := .pointer (some ⟨_, 68, none⟩)) E (run_fieldAddr rfl rfl T.fld62_5) fun fr E => ?_
  refine sw (v := .agg ([iv r.bseg, iv r.bslot]).toArray) E (run_loadN' (vs := ([iv r.bseg, iv r.bslot]).toArray) rfl rfl T.agg60 (M.row (i := 1) rfl) (by simp [Rec.len hr]) (congrArg List.toArray (Rec.m_base hr))) fun fr E => ?_
  refine sgive E M rfl rfl rfl rfl rfl (run_call rfl rfl T.fn89) (placed_x _ _ _) fun fr w M E => ?_
  rw [decide_eq_true hb] at E
  refine sw (v := .bool _) E (rfl) fun fr E => ?_
  refine mv E fun fr E => ?_
  refine sw (v := .pointer (some ⟨_, 70, none⟩)) E (run_fieldAddr rfl rfl T.fld62_6) fun fr E => ?_
  refine sw (v := .agg ([iv r.tseg, iv r.tslot]).toArray) E (run_loadN' (vs := ([iv r.tseg, iv r.tslot]).toArray) rfl rfl T.agg60 (M.row (i := 1) rfl) (by simp [Rec.len hr]) (congrArg List.toArray (Rec.m_tail hr))) fun fr E => ?_
  refine sgive E M rfl rfl rfl rfl rfl (run_call rfl rfl T.fn89) (placed_x _ _ _) fun fr w M E => ?_
  refine sw (v := .bool _) E (rfl) fun fr E => ?_
  refine ma E fun fr E => ?_
  refine seq_nil' ?_
  refine wp_ret ?_
  refine ret1 E rfl rfl ?_
  exact given M

set_option maxRecDepth 100000 in
theorem may_in_any {r : Rec} {w0 : World} (hr : r.Ok) (he : ¬ (r.rat = 0 ∧ r.rsum = List.replicate 32 0)) (hi : (3 ≤ r.rat ∧ r.rat ≤ 4095)) (ha : ([r.gen, r.stamp, r.epoch].any fun n => !decide (1 ≤ n ∧ n ≤ 1099511627776)) = true) : Gives Tryz.prog 73 [r.val] w0 (.bool false) := by
  refine enter (n := 40) Tryz.func73 rfl rfl rfl ?_
  intro fr E
  have M : Mem w0 (feet []) [] (fun _ => True) w0 := Mem.begin (Has.nil w0) (fun _ _ => trivial)
  refine code_region ?_
  refine snew (ob := .cells (r.cells.toArray) 62) (fun g => .pointer (some ⟨g, 0, none⟩)) E M rfl rfl rfl rfl rfl (run_boxN (cs := (r.cells.toArray)) rfl rfl) fun g0 fr w M E => ?_
  refine sw E (run_assignC rfl) fun fr E => ?_
  refine seq_nil' ?_
  refine code_region ?_
  refine sw (v := .pointer (some ⟨_, 0, none⟩)) E (run_fieldAddr rfl rfl T.fld62_0) fun fr E => ?_
  refine sw (v := .int .i64 _) E (run_loadB rfl rfl T.one3 (M.row (i := 0) rfl) Rec.c_gen) fun fr E => ?_
  refine sw (v := .pointer (some ⟨_, 1, none⟩)) E (run_fieldAddr rfl rfl T.fld62_1) fun fr E => ?_
  refine sw (v := .int .i64 _) E (run_loadB rfl rfl T.one3 (M.row (i := 0) rfl) Rec.c_stamp) fun fr E => ?_
  refine sw (v := .pointer (some ⟨_, 2, none⟩)) E (run_fieldAddr rfl rfl T.fld62_2) fun fr E => ?_
  refine sw (v := .int .i64 _) E (run_loadB rfl rfl T.one3 (M.row (i := 0) rfl) Rec.c_epoch) fun fr E => ?_
  refine srow (sz := 1) (xs := _) E M rfl rfl rfl rfl rfl (run_buildSliceA (us := [_, _, _]) (vs := [_, _, _]) rfl rfl rfl T.slice33 T.size3 T.zl3 rfl rfl rfl rfl rfl) (rfl) (Nat.le_refl _) (by decide) (rfl) fun s fr w M E => ?_
  refine ma E fun fr E => ?_
  refine seq_nil' ?_
  refine code_region ?_
  refine sw (v := .func (.func 86) #[] #[]) E (rfl) fun fr E => ?_
  refine seq_nil' ?_
  refine code_region ?_
  refine sw (v := .pointer (some ⟨_, 35, none⟩)) E (run_fieldAddr rfl rfl T.fld62_4) fun fr E => ?_
  refine sw (v := .agg (iv r.rat :: bc r.rsum).toArray) E (run_loadN' (vs := (iv r.rat :: bc r.rsum).toArray) rfl rfl T.agg58 (M.row (i := 1) rfl) (by simp [Rec.len hr]) (congrArg List.toArray (Rec.m_root hr))) fun fr E => ?_
  refine sw (v := .agg (iv 0 :: bc (List.replicate 32 0)).toArray) E (run_buildP (vs := []) (us := iv 0 :: bc (List.replicate 32 0)) rfl rfl T.ts58 T.zeroL58 (rfl) rfl rfl (rfl)) fun fr E => ?_
  refine sw (v := .bool false) E (run_eqF (b := false) rfl rfl rfl T.flat58 (fit_ref hr.rsum) (fit_ref (by simp)) (by rw [ref_eq]; simp only [Bool.false_eq_true, false_iff]; exact he)) fun fr E => ?_
  refine mv E fun fr E => ?_
  refine sw (v := .pointer (some ⟨_, 35, none⟩)) E (run_fieldAddr rfl rfl T.fld62_4) fun fr E => ?_
  refine sw (v := .pointer (some ⟨_, 35, none⟩)) E (run_fieldAddr rfl rfl T.fld58_0) fun fr E => ?_
  refine sw (v := .int .i64 _) E (run_loadB rfl rfl T.one3 (M.row (i := 1) rfl) (Rec.c_rat hr)) fun fr E => ?_
  refine sgive E M rfl rfl rfl rfl rfl (run_call rfl rfl T.fn87) (within_x _ _ _ _) fun fr w M E => ?_
  rw [decide_eq_true hi] at E
  refine sw (v := .bool _) E (rfl) fun fr E => ?_
  refine ma E fun fr E => ?_
  refine seq_nil' ?_
  refine code_region ?_
  refine mv E fun fr E => ?_
  refine mv E fun fr E => ?_
  refine sgive E M rfl rfl rfl rfl rfl (run_call rfl rfl T.fn88) (ContainsFunc_int (l := [r.gen, r.stamp, r.epoch]) T.fn86 (fun n w => may1_x n w) (M.reads 0 rfl) (by simp)) fun fr w M E => ?_
  rw [ha] at E
  refine sw (v := .bool _) E (rfl) fun fr E => ?_
  refine mv E fun fr E => ?_
  refine sno E rfl rfl rfl rfl fun fr E => ?_
  refine sw (v := .bool _) E (rfl) fun fr E => ?_
  refine mv E fun fr E => ?_
  refine sno E rfl rfl rfl rfl fun fr E => ?_
  refine sno E rfl rfl rfl rfl fun fr E => ?_
  refine sno E rfl rfl rfl rfl fun fr E => ?_
  refine sw (v := .bool _) E (rfl) fun fr E => ?_
  refine mv E fun fr E => ?_
  refine sno E rfl rfl rfl rfl fun fr E => ?_
  refine sno E rfl rfl rfl rfl fun fr E => ?_
  refine sno E rfl rfl rfl rfl fun fr E => ?_
  refine sw (v := .bool _) E (rfl) fun fr E => ?_
  refine ma E fun fr E => ?_
  refine seq_nil' ?_
  refine wp_ret ?_
  refine ret1 E rfl rfl ?_
  exact given M

set_option maxRecDepth 100000 in
theorem may_in_nb {r : Rec} {w0 : World} (hr : r.Ok) (he : ¬ (r.rat = 0 ∧ r.rsum = List.replicate 32 0)) (hi : (3 ≤ r.rat ∧ r.rat ≤ 4095)) (ha : ([r.gen, r.stamp, r.epoch].any fun n => !decide (1 ≤ n ∧ n ≤ 1099511627776)) = false) (hb : ¬ RPl r.bseg r.bslot) : Gives Tryz.prog 73 [r.val] w0 (.bool false) := by
  refine enter (n := 40) Tryz.func73 rfl rfl rfl ?_
  intro fr E
  have M : Mem w0 (feet []) [] (fun _ => True) w0 := Mem.begin (Has.nil w0) (fun _ _ => trivial)
  refine code_region ?_
  refine snew (ob := .cells (r.cells.toArray) 62) (fun g => .pointer (some ⟨g, 0, none⟩)) E M rfl rfl rfl rfl rfl (run_boxN (cs := (r.cells.toArray)) rfl rfl) fun g0 fr w M E => ?_
  refine sw E (run_assignC rfl) fun fr E => ?_
  refine seq_nil' ?_
  refine code_region ?_
  refine sw (v := .pointer (some ⟨_, 0, none⟩)) E (run_fieldAddr rfl rfl T.fld62_0) fun fr E => ?_
  refine sw (v := .int .i64 _) E (run_loadB rfl rfl T.one3 (M.row (i := 0) rfl) Rec.c_gen) fun fr E => ?_
  refine sw (v := .pointer (some ⟨_, 1, none⟩)) E (run_fieldAddr rfl rfl T.fld62_1) fun fr E => ?_
  refine sw (v := .int .i64 _) E (run_loadB rfl rfl T.one3 (M.row (i := 0) rfl) Rec.c_stamp) fun fr E => ?_
  refine sw (v := .pointer (some ⟨_, 2, none⟩)) E (run_fieldAddr rfl rfl T.fld62_2) fun fr E => ?_
  refine sw (v := .int .i64 _) E (run_loadB rfl rfl T.one3 (M.row (i := 0) rfl) Rec.c_epoch) fun fr E => ?_
  refine srow (sz := 1) (xs := _) E M rfl rfl rfl rfl rfl (run_buildSliceA (us := [_, _, _]) (vs := [_, _, _]) rfl rfl rfl T.slice33 T.size3 T.zl3 rfl rfl rfl rfl rfl) (rfl) (Nat.le_refl _) (by decide) (rfl) fun s fr w M E => ?_
  refine ma E fun fr E => ?_
  refine seq_nil' ?_
  refine code_region ?_
  refine sw (v := .func (.func 86) #[] #[]) E (rfl) fun fr E => ?_
  refine seq_nil' ?_
  refine code_region ?_
  refine sw (v := .pointer (some ⟨_, 35, none⟩)) E (run_fieldAddr rfl rfl T.fld62_4) fun fr E => ?_
  refine sw (v := .agg (iv r.rat :: bc r.rsum).toArray) E (run_loadN' (vs := (iv r.rat :: bc r.rsum).toArray) rfl rfl T.agg58 (M.row (i := 1) rfl) (by simp [Rec.len hr]) (congrArg List.toArray (Rec.m_root hr))) fun fr E => ?_
  refine sw (v := .agg (iv 0 :: bc (List.replicate 32 0)).toArray) E (run_buildP (vs := []) (us := iv 0 :: bc (List.replicate 32 0)) rfl rfl T.ts58 T.zeroL58 (rfl) rfl rfl (rfl)) fun fr E => ?_
  refine sw (v := .bool false) E (run_eqF (b := false) rfl rfl rfl T.flat58 (fit_ref hr.rsum) (fit_ref (by simp)) (by rw [ref_eq]; simp only [Bool.false_eq_true, false_iff]; exact he)) fun fr E => ?_
  refine mv E fun fr E => ?_
  refine sw (v := .pointer (some ⟨_, 35, none⟩)) E (run_fieldAddr rfl rfl T.fld62_4) fun fr E => ?_
  refine sw (v := .pointer (some ⟨_, 35, none⟩)) E (run_fieldAddr rfl rfl T.fld58_0) fun fr E => ?_
  refine sw (v := .int .i64 _) E (run_loadB rfl rfl T.one3 (M.row (i := 1) rfl) (Rec.c_rat hr)) fun fr E => ?_
  refine sgive E M rfl rfl rfl rfl rfl (run_call rfl rfl T.fn87) (within_x _ _ _ _) fun fr w M E => ?_
  rw [decide_eq_true hi] at E
  refine sw (v := .bool _) E (rfl) fun fr E => ?_
  refine ma E fun fr E => ?_
  refine seq_nil' ?_
  refine code_region ?_
  refine mv E fun fr E => ?_
  refine mv E fun fr E => ?_
  refine sgive E M rfl rfl rfl rfl rfl (run_call rfl rfl T.fn88) (ContainsFunc_int (l := [r.gen, r.stamp, r.epoch]) T.fn86 (fun n w => may1_x n w) (M.reads 0 rfl) (by simp)) fun fr w M E => ?_
  rw [ha] at E
  refine sw (v := .bool _) E (rfl) fun fr E => ?_
  refine mv E fun fr E => ?_
  refine mv E fun fr E => ?_
  refine sw (v := .bool _) E (rfl) fun fr E => ?_
  refine mv E fun fr E => ?_
  refine sw (v := .pointer (some ⟨_, 68, none⟩)) E (run_fieldAddr rfl rfl T.fld62_5) fun fr E => ?_
  refine sw (v := .agg ([iv r.bseg, iv r.bslot]).toArray) E (run_loadN' (vs := ([iv r.bseg, iv r.bslot]).toArray) rfl rfl T.agg60 (M.row (i := 1) rfl) (by simp [Rec.len hr]) (congrArg List.toArray (Rec.m_base hr))) fun fr E => ?_
  refine sgive E M rfl rfl rfl rfl rfl (run_call rfl rfl T.fn89) (placed_x _ _ _) fun fr w M E => ?_
  rw [decide_eq_false hb] at E
  refine sw (v := .bool _) E (rfl) fun fr E => ?_
  refine mv E fun fr E => ?_
  refine sno E rfl rfl rfl rfl fun fr E => ?_
  refine sno E rfl rfl rfl rfl fun fr E => ?_
  refine sno E rfl rfl rfl rfl fun fr E => ?_
  refine sw (v := .bool _) E (rfl) fun fr E => ?_
  refine ma E fun fr E => ?_
  refine seq_nil' ?_
  refine wp_ret ?_
  refine ret1 E rfl rfl ?_
  exact given M

set_option maxRecDepth 100000 in
theorem may_in_b {r : Rec} {w0 : World} (hr : r.Ok) (he : ¬ (r.rat = 0 ∧ r.rsum = List.replicate 32 0)) (hi : (3 ≤ r.rat ∧ r.rat ≤ 4095)) (ha : ([r.gen, r.stamp, r.epoch].any fun n => !decide (1 ≤ n ∧ n ≤ 1099511627776)) = false) (hb : RPl r.bseg r.bslot) : Gives Tryz.prog 73 [r.val] w0 (.bool (decide (RPl r.tseg r.tslot))) := by
  refine enter (n := 40) Tryz.func73 rfl rfl rfl ?_
  intro fr E
  have M : Mem w0 (feet []) [] (fun _ => True) w0 := Mem.begin (Has.nil w0) (fun _ _ => trivial)
  refine code_region ?_
  refine snew (ob := .cells (r.cells.toArray) 62) (fun g => .pointer (some ⟨g, 0, none⟩)) E M rfl rfl rfl rfl rfl (run_boxN (cs := (r.cells.toArray)) rfl rfl) fun g0 fr w M E => ?_
  refine sw E (run_assignC rfl) fun fr E => ?_
  refine seq_nil' ?_
  refine code_region ?_
  refine sw (v := .pointer (some ⟨_, 0, none⟩)) E (run_fieldAddr rfl rfl T.fld62_0) fun fr E => ?_
  refine sw (v := .int .i64 _) E (run_loadB rfl rfl T.one3 (M.row (i := 0) rfl) Rec.c_gen) fun fr E => ?_
  refine sw (v := .pointer (some ⟨_, 1, none⟩)) E (run_fieldAddr rfl rfl T.fld62_1) fun fr E => ?_
  refine sw (v := .int .i64 _) E (run_loadB rfl rfl T.one3 (M.row (i := 0) rfl) Rec.c_stamp) fun fr E => ?_
  refine sw (v := .pointer (some ⟨_, 2, none⟩)) E (run_fieldAddr rfl rfl T.fld62_2) fun fr E => ?_
  refine sw (v := .int .i64 _) E (run_loadB rfl rfl T.one3 (M.row (i := 0) rfl) Rec.c_epoch) fun fr E => ?_
  refine srow (sz := 1) (xs := _) E M rfl rfl rfl rfl rfl (run_buildSliceA (us := [_, _, _]) (vs := [_, _, _]) rfl rfl rfl T.slice33 T.size3 T.zl3 rfl rfl rfl rfl rfl) (rfl) (Nat.le_refl _) (by decide) (rfl) fun s fr w M E => ?_
  refine ma E fun fr E => ?_
  refine seq_nil' ?_
  refine code_region ?_
  refine sw (v := .func (.func 86) #[] #[]) E (rfl) fun fr E => ?_
  refine seq_nil' ?_
  refine code_region ?_
  refine sw (v := .pointer (some ⟨_, 35, none⟩)) E (run_fieldAddr rfl rfl T.fld62_4) fun fr E => ?_
  refine sw (v := .agg (iv r.rat :: bc r.rsum).toArray) E (run_loadN' (vs := (iv r.rat :: bc r.rsum).toArray) rfl rfl T.agg58 (M.row (i := 1) rfl) (by simp [Rec.len hr]) (congrArg List.toArray (Rec.m_root hr))) fun fr E => ?_
  refine sw (v := .agg (iv 0 :: bc (List.replicate 32 0)).toArray) E (run_buildP (vs := []) (us := iv 0 :: bc (List.replicate 32 0)) rfl rfl T.ts58 T.zeroL58 (rfl) rfl rfl (rfl)) fun fr E => ?_
  refine sw (v := .bool false) E (run_eqF (b := false) rfl rfl rfl T.flat58 (fit_ref hr.rsum) (fit_ref (by simp)) (by rw [ref_eq]; simp only [Bool.false_eq_true, false_iff]; exact he)) fun fr E => ?_
  refine mv E fun fr E => ?_
  refine sw (v := .pointer (some ⟨_, 35, none⟩)) E (run_fieldAddr rfl rfl T.fld62_4) fun fr E => ?_
  refine sw (v := .pointer (some ⟨_, 35, none⟩)) E (run_fieldAddr rfl rfl T.fld58_0) fun fr E => ?_
  refine sw (v := .int .i64 _) E (run_loadB rfl rfl T.one3 (M.row (i := 1) rfl) (Rec.c_rat hr)) fun fr E => ?_
  refine sgive E M rfl rfl rfl rfl rfl (run_call rfl rfl T.fn87) (within_x _ _ _ _) fun fr w M E => ?_
  rw [decide_eq_true hi] at E
  refine sw (v := .bool _) E (rfl) fun fr E => ?_
  refine ma E fun fr E => ?_
  refine seq_nil' ?_
  refine code_region ?_
  refine mv E fun fr E => ?_
  refine mv E fun fr E => ?_
  refine sgive E M rfl rfl rfl rfl rfl (run_call rfl rfl T.fn88) (ContainsFunc_int (l := [r.gen, r.stamp, r.epoch]) T.fn86 (fun n w => may1_x n w) (M.reads 0 rfl) (by simp)) fun fr w M E => ?_
  rw [ha] at E
  refine sw (v := .bool _) E (rfl) fun fr E => ?_
  refine mv E fun fr E => ?_
  refine mv E fun fr E => ?_
  refine sw (v := .bool _) E (rfl) fun fr E => ?_
  refine mv E fun fr E => ?_
  refine sw (v := .pointer (some ⟨_, 68, none⟩)) E (run_fieldAddr rfl rfl T.fld62_5) fun fr E => ?_
  refine sw (v := .agg ([iv r.bseg, iv r.bslot]).toArray) E (run_loadN' (vs := ([iv r.bseg, iv r.bslot]).toArray) rfl rfl T.agg60 (M.row (i := 1) rfl) (by simp [Rec.len hr]) (congrArg List.toArray (Rec.m_base hr))) fun fr E => ?_
  refine sgive E M rfl rfl rfl rfl rfl (run_call rfl rfl T.fn89) (placed_x _ _ _) fun fr w M E => ?_
  rw [decide_eq_true hb] at E
  refine sw (v := .bool _) E (rfl) fun fr E => ?_
  refine mv E fun fr E => ?_
  refine sw (v := .pointer (some ⟨_, 70, none⟩)) E (run_fieldAddr rfl rfl T.fld62_6) fun fr E => ?_
  refine sw (v := .agg ([iv r.tseg, iv r.tslot]).toArray) E (run_loadN' (vs := ([iv r.tseg, iv r.tslot]).toArray) rfl rfl T.agg60 (M.row (i := 1) rfl) (by simp [Rec.len hr]) (congrArg List.toArray (Rec.m_tail hr))) fun fr E => ?_
  refine sgive E M rfl rfl rfl rfl rfl (run_call rfl rfl T.fn89) (placed_x _ _ _) fun fr w M E => ?_
  refine sw (v := .bool _) E (rfl) fun fr E => ?_
  refine ma E fun fr E => ?_
  refine seq_nil' ?_
  refine wp_ret ?_
  refine ret1 E rfl rfl ?_
  exact given M

set_option maxRecDepth 100000 in
theorem may_out_any {r : Rec} {w0 : World} (hr : r.Ok) (he : ¬ (r.rat = 0 ∧ r.rsum = List.replicate 32 0)) (hi : ¬ (3 ≤ r.rat ∧ r.rat ≤ 4095)) (ha : ([r.gen, r.stamp, r.epoch].any fun n => !decide (1 ≤ n ∧ n ≤ 1099511627776)) = true) : Gives Tryz.prog 73 [r.val] w0 (.bool false) := by
  refine enter (n := 40) Tryz.func73 rfl rfl rfl ?_
  intro fr E
  have M : Mem w0 (feet []) [] (fun _ => True) w0 := Mem.begin (Has.nil w0) (fun _ _ => trivial)
  refine code_region ?_
  refine snew (ob := .cells (r.cells.toArray) 62) (fun g => .pointer (some ⟨g, 0, none⟩)) E M rfl rfl rfl rfl rfl (run_boxN (cs := (r.cells.toArray)) rfl rfl) fun g0 fr w M E => ?_
  refine sw E (run_assignC rfl) fun fr E => ?_
  refine seq_nil' ?_
  refine code_region ?_
  refine sw (v := .pointer (some ⟨_, 0, none⟩)) E (run_fieldAddr rfl rfl T.fld62_0) fun fr E => ?_
  refine sw (v := .int .i64 _) E (run_loadB rfl rfl T.one3 (M.row (i := 0) rfl) Rec.c_gen) fun fr E => ?_
  refine sw (v := .pointer (some ⟨_, 1, none⟩)) E (run_fieldAddr rfl rfl T.fld62_1) fun fr E => ?_
  refine sw (v := .int .i64 _) E (run_loadB rfl rfl T.one3 (M.row (i := 0) rfl) Rec.c_stamp) fun fr E => ?_
  refine sw (v := .pointer (some ⟨_, 2, none⟩)) E (run_fieldAddr rfl rfl T.fld62_2) fun fr E => ?_
  refine sw (v := .int .i64 _) E (run_loadB rfl rfl T.one3 (M.row (i := 0) rfl) Rec.c_epoch) fun fr E => ?_
  refine srow (sz := 1) (xs := _) E M rfl rfl rfl rfl rfl (run_buildSliceA (us := [_, _, _]) (vs := [_, _, _]) rfl rfl rfl T.slice33 T.size3 T.zl3 rfl rfl rfl rfl rfl) (rfl) (Nat.le_refl _) (by decide) (rfl) fun s fr w M E => ?_
  refine ma E fun fr E => ?_
  refine seq_nil' ?_
  refine code_region ?_
  refine sw (v := .func (.func 86) #[] #[]) E (rfl) fun fr E => ?_
  refine seq_nil' ?_
  refine code_region ?_
  refine sw (v := .pointer (some ⟨_, 35, none⟩)) E (run_fieldAddr rfl rfl T.fld62_4) fun fr E => ?_
  refine sw (v := .agg (iv r.rat :: bc r.rsum).toArray) E (run_loadN' (vs := (iv r.rat :: bc r.rsum).toArray) rfl rfl T.agg58 (M.row (i := 1) rfl) (by simp [Rec.len hr]) (congrArg List.toArray (Rec.m_root hr))) fun fr E => ?_
  refine sw (v := .agg (iv 0 :: bc (List.replicate 32 0)).toArray) E (run_buildP (vs := []) (us := iv 0 :: bc (List.replicate 32 0)) rfl rfl T.ts58 T.zeroL58 (rfl) rfl rfl (rfl)) fun fr E => ?_
  refine sw (v := .bool false) E (run_eqF (b := false) rfl rfl rfl T.flat58 (fit_ref hr.rsum) (fit_ref (by simp)) (by rw [ref_eq]; simp only [Bool.false_eq_true, false_iff]; exact he)) fun fr E => ?_
  refine mv E fun fr E => ?_
  refine sw (v := .pointer (some ⟨_, 35, none⟩)) E (run_fieldAddr rfl rfl T.fld62_4) fun fr E => ?_
  refine sw (v := .pointer (some ⟨_, 35, none⟩)) E (run_fieldAddr rfl rfl T.fld58_0) fun fr E => ?_
  refine sw (v := .int .i64 _) E (run_loadB rfl rfl T.one3 (M.row (i := 1) rfl) (Rec.c_rat hr)) fun fr E => ?_
  refine sgive E M rfl rfl rfl rfl rfl (run_call rfl rfl T.fn87) (within_x _ _ _ _) fun fr w M E => ?_
  rw [decide_eq_false hi] at E
  refine sw (v := .bool _) E (rfl) fun fr E => ?_
  refine ma E fun fr E => ?_
  refine seq_nil' ?_
  refine code_region ?_
  refine mv E fun fr E => ?_
  refine mv E fun fr E => ?_
  refine sgive E M rfl rfl rfl rfl rfl (run_call rfl rfl T.fn88) (ContainsFunc_int (l := [r.gen, r.stamp, r.epoch]) T.fn86 (fun n w => may1_x n w) (M.reads 0 rfl) (by simp)) fun fr w M E => ?_
  rw [ha] at E
  refine sw (v := .bool _) E (rfl) fun fr E => ?_
  refine mv E fun fr E => ?_
  refine sno E rfl rfl rfl rfl fun fr E => ?_
  refine sw (v := .bool _) E (rfl) fun fr E => ?_
  refine mv E fun fr E => ?_
  refine sno E rfl rfl rfl rfl fun fr E => ?_
  refine sno E rfl rfl rfl rfl fun fr E => ?_
  refine sno E rfl rfl rfl rfl fun fr E => ?_
  refine sw (v := .bool _) E (rfl) fun fr E => ?_
  refine mv E fun fr E => ?_
  refine sno E rfl rfl rfl rfl fun fr E => ?_
  refine sno E rfl rfl rfl rfl fun fr E => ?_
  refine sno E rfl rfl rfl rfl fun fr E => ?_
  refine sw (v := .bool _) E (rfl) fun fr E => ?_
  refine ma E fun fr E => ?_
  refine seq_nil' ?_
  refine wp_ret ?_
  refine ret1 E rfl rfl ?_
  exact given M

set_option maxRecDepth 100000 in
theorem may_out {r : Rec} {w0 : World} (hr : r.Ok) (he : ¬ (r.rat = 0 ∧ r.rsum = List.replicate 32 0)) (hi : ¬ (3 ≤ r.rat ∧ r.rat ≤ 4095)) (ha : ([r.gen, r.stamp, r.epoch].any fun n => !decide (1 ≤ n ∧ n ≤ 1099511627776)) = false) : Gives Tryz.prog 73 [r.val] w0 (.bool false) := by
  refine enter (n := 40) Tryz.func73 rfl rfl rfl ?_
  intro fr E
  have M : Mem w0 (feet []) [] (fun _ => True) w0 := Mem.begin (Has.nil w0) (fun _ _ => trivial)
  refine code_region ?_
  refine snew (ob := .cells (r.cells.toArray) 62) (fun g => .pointer (some ⟨g, 0, none⟩)) E M rfl rfl rfl rfl rfl (run_boxN (cs := (r.cells.toArray)) rfl rfl) fun g0 fr w M E => ?_
  refine sw E (run_assignC rfl) fun fr E => ?_
  refine seq_nil' ?_
  refine code_region ?_
  refine sw (v := .pointer (some ⟨_, 0, none⟩)) E (run_fieldAddr rfl rfl T.fld62_0) fun fr E => ?_
  refine sw (v := .int .i64 _) E (run_loadB rfl rfl T.one3 (M.row (i := 0) rfl) Rec.c_gen) fun fr E => ?_
  refine sw (v := .pointer (some ⟨_, 1, none⟩)) E (run_fieldAddr rfl rfl T.fld62_1) fun fr E => ?_
  refine sw (v := .int .i64 _) E (run_loadB rfl rfl T.one3 (M.row (i := 0) rfl) Rec.c_stamp) fun fr E => ?_
  refine sw (v := .pointer (some ⟨_, 2, none⟩)) E (run_fieldAddr rfl rfl T.fld62_2) fun fr E => ?_
  refine sw (v := .int .i64 _) E (run_loadB rfl rfl T.one3 (M.row (i := 0) rfl) Rec.c_epoch) fun fr E => ?_
  refine srow (sz := 1) (xs := _) E M rfl rfl rfl rfl rfl (run_buildSliceA (us := [_, _, _]) (vs := [_, _, _]) rfl rfl rfl T.slice33 T.size3 T.zl3 rfl rfl rfl rfl rfl) (rfl) (Nat.le_refl _) (by decide) (rfl) fun s fr w M E => ?_
  refine ma E fun fr E => ?_
  refine seq_nil' ?_
  refine code_region ?_
  refine sw (v := .func (.func 86) #[] #[]) E (rfl) fun fr E => ?_
  refine seq_nil' ?_
  refine code_region ?_
  refine sw (v := .pointer (some ⟨_, 35, none⟩)) E (run_fieldAddr rfl rfl T.fld62_4) fun fr E => ?_
  refine sw (v := .agg (iv r.rat :: bc r.rsum).toArray) E (run_loadN' (vs := (iv r.rat :: bc r.rsum).toArray) rfl rfl T.agg58 (M.row (i := 1) rfl) (by simp [Rec.len hr]) (congrArg List.toArray (Rec.m_root hr))) fun fr E => ?_
  refine sw (v := .agg (iv 0 :: bc (List.replicate 32 0)).toArray) E (run_buildP (vs := []) (us := iv 0 :: bc (List.replicate 32 0)) rfl rfl T.ts58 T.zeroL58 (rfl) rfl rfl (rfl)) fun fr E => ?_
  refine sw (v := .bool false) E (run_eqF (b := false) rfl rfl rfl T.flat58 (fit_ref hr.rsum) (fit_ref (by simp)) (by rw [ref_eq]; simp only [Bool.false_eq_true, false_iff]; exact he)) fun fr E => ?_
  refine mv E fun fr E => ?_
  refine sw (v := .pointer (some ⟨_, 35, none⟩)) E (run_fieldAddr rfl rfl T.fld62_4) fun fr E => ?_
  refine sw (v := .pointer (some ⟨_, 35, none⟩)) E (run_fieldAddr rfl rfl T.fld58_0) fun fr E => ?_
  refine sw (v := .int .i64 _) E (run_loadB rfl rfl T.one3 (M.row (i := 1) rfl) (Rec.c_rat hr)) fun fr E => ?_
  refine sgive E M rfl rfl rfl rfl rfl (run_call rfl rfl T.fn87) (within_x _ _ _ _) fun fr w M E => ?_
  rw [decide_eq_false hi] at E
  refine sw (v := .bool _) E (rfl) fun fr E => ?_
  refine ma E fun fr E => ?_
  refine seq_nil' ?_
  refine code_region ?_
  refine mv E fun fr E => ?_
  refine mv E fun fr E => ?_
  refine sgive E M rfl rfl rfl rfl rfl (run_call rfl rfl T.fn88) (ContainsFunc_int (l := [r.gen, r.stamp, r.epoch]) T.fn86 (fun n w => may1_x n w) (M.reads 0 rfl) (by simp)) fun fr w M E => ?_
  rw [ha] at E
  refine sw (v := .bool _) E (rfl) fun fr E => ?_
  refine mv E fun fr E => ?_
  refine mv E fun fr E => ?_
  refine sw (v := .bool _) E (rfl) fun fr E => ?_
  refine mv E fun fr E => ?_
  refine sno E rfl rfl rfl rfl fun fr E => ?_
  refine sno E rfl rfl rfl rfl fun fr E => ?_
  refine sno E rfl rfl rfl rfl fun fr E => ?_
  refine sw (v := .bool _) E (rfl) fun fr E => ?_
  refine mv E fun fr E => ?_
  refine sno E rfl rfl rfl rfl fun fr E => ?_
  refine sno E rfl rfl rfl rfl fun fr E => ?_
  refine sno E rfl rfl rfl rfl fun fr E => ?_
  refine sw (v := .bool _) E (rfl) fun fr E => ?_
  refine ma E fun fr E => ?_
  refine seq_nil' ?_
  refine wp_ret ?_
  refine ret1 E rfl rfl ?_
  exact given M

theorem any_not {r : Rec} : ([r.gen, r.stamp, r.epoch].any fun n => !decide (1 ≤ n ∧ n ≤ 1099511627776)) = !decide (RNum r.gen ∧ RNum r.stamp ∧ RNum r.epoch) := by
  simp only [RNum]
  by_cases h1 : 1 ≤ r.gen ∧ r.gen ≤ 1099511627776 <;> by_cases h2 : 1 ≤ r.stamp ∧ r.stamp ≤ 1099511627776 <;> by_cases h3 : 1 ≤ r.epoch ∧ r.epoch ≤ 1099511627776 <;> simp [h1, h2, h3] <;> omega
theorem may_x {r : Rec} (hr : r.Ok) (w0 : World) : Gives Tryz.prog 73 [r.val] w0 (.bool (decide r.May)) := by
  by_cases hn : RNum r.gen ∧ RNum r.stamp ∧ RNum r.epoch
  · have ha : ([r.gen, r.stamp, r.epoch].any fun n => !decide (1 ≤ n ∧ n ≤ 1099511627776)) = false := by rw [any_not, decide_eq_true hn]; rfl
    by_cases he : (r.rat = 0 ∧ r.rsum = List.replicate 32 0)
    · have h1 : r.Root := .inl he
      by_cases hb : RPl r.bseg r.bslot
      · have e : decide r.May = decide (RPl r.tseg r.tslot) := decide_eq_decide.2 ⟨fun h => h.2.2.2, fun h => ⟨hn, h1, hb, h⟩⟩
        rw [e]; exact may_eq_b hr he ha hb
      · rw [decide_eq_false (fun h => hb h.2.2.1)]; exact may_eq_nb hr he ha hb
    · by_cases hi : (3 ≤ r.rat ∧ r.rat ≤ 4095)
      · have h1 : r.Root := .inr hi
        by_cases hb : RPl r.bseg r.bslot
        · have e : decide r.May = decide (RPl r.tseg r.tslot) := decide_eq_decide.2 ⟨fun h => h.2.2.2, fun h => ⟨hn, h1, hb, h⟩⟩
          rw [e]; exact may_in_b hr he hi ha hb
        · rw [decide_eq_false (fun h => hb h.2.2.1)]; exact may_in_nb hr he hi ha hb
      · rw [decide_eq_false (fun h => h.2.1.elim he hi)]; exact may_out hr he hi ha
  · have ha : ([r.gen, r.stamp, r.epoch].any fun n => !decide (1 ≤ n ∧ n ≤ 1099511627776)) = true := by rw [any_not, decide_eq_false hn]; rfl
    rw [decide_eq_false (fun h => hn h.1)]
    by_cases he : (r.rat = 0 ∧ r.rsum = List.replicate 32 0)
    · exact may_eq_any hr he ha
    · by_cases hi : (3 ≤ r.rat ∧ r.rat ≤ 4095)
      · exact may_in_any hr he hi ha
      · exact may_out_any hr he hi ha
end Go.Proofs.YtnebjbgcibjohaaGreat.K
end
section
namespace Go.Proofs.YtnebjbgcibjohaaGreat.K
open Go.RowKit Go.Rill Go.Proofs
set_option linter.unusedVariables false
set_option linter.unusedSimpArgs false
set_option maxRecDepth 100000 in
theorem place_x {b : Value} {l : List UInt8} {s q : Int} {w0 : World} (hb : Bytes w0 b l) (hz : l.length + 16 ≤ 35184372088832) : Does Tryz.prog 76 [b, .agg #[.int .i64 s, .int .i64 q]] w0 [] (fun s : Value => s) (fun r => [.bytes 5 r (l ++ be8 s ++ be8 q)]) (fun _ => True) := by
  refine enter (n := 12) Tryz.func76 rfl rfl rfl ?_
  intro fr E
  have M : Mem w0 (feet []) [] (fun w' => Bytes w' b l) w0 := Mem.begin (Has.nil w0) (fun w' h => hb.held0 h)
  refine code_region ?_
  refine snew (ob := .cells #[_, _] 60) (fun g => .pointer (some ⟨g, 0, none⟩)) E M rfl rfl rfl rfl rfl (run_boxN (cs := #[_, _]) rfl rfl) fun g0 fr w M E => ?_
  refine sw E (run_assignC rfl) fun fr E => ?_
  refine seq_nil' ?_
  refine wp_seq (free_reg (B := T.tab76_1_b) (Vs := (.exact _ :: .exact (.pointer (some ⟨_, 0, none⟩)) :: .exact (.int .i64 _) :: CameV w.heap.size (fun v => [.bytes 5 v (l ++ be8 s)]) (fun _ => True) :: .exact (.pointer (some ⟨_, 1, none⟩)) :: .exact (.int .i64 _) :: CameV w.heap.size (fun v => [.bytes 5 v (l ++ be8 s ++ be8 q)]) (fun _ => True) :: CameV w.heap.size (fun v => [.bytes 5 v (l ++ be8 s ++ be8 q)]) (fun _ => True) :: [])) T.tab76_1_i E T.mixed T.tab76_1 rfl (AllS.lasts ⟨trivial, trivial, trivial, LastsS.cameV, trivial, trivial, LastsS.cameV, LastsS.cameV, trivial⟩) ⟨fv rfl rfl (fun x w hx hk => run_move rfl rfl),
      fv rfl rfl (fun x w hx hk => run_fieldAddr rfl rfl T.fld60_0),
      fv rfl rfl (fun x w hx hk => run_loadB rfl rfl T.one3 ((M.ext ((Ext.drew _).trans hx)).row (i := 0) rfl) rfl),
      fs_ext rfl rfl (fun x w hx hk => ⟨_, _, rfl, rfl, rfl, run_call rfl rfl T.fn72, (Int_x s (M.ext ((Ext.drew _).trans hx)).fact (by omega)).extV hx.size⟩),
      fv rfl rfl (fun x w hx hk => run_fieldAddr rfl rfl T.fld60_1),
      fv rfl rfl (fun x w hx hk => run_loadB rfl rfl T.one3 ((M.ext ((Ext.drew _).trans hx)).row (i := 0) rfl) rfl),
      fs_ext rfl rfl (fun x w hx hk => ⟨_, _, rfl, rfl, rfl, run_call rfl rfl T.fn72, (Int_x q ((hk 3 rfl).1.reads 0 rfl : Bytes _ _ (l ++ be8 s)) (by simp [be8]; omega)).extV hx.size⟩),
      fs_val rfl rfl (fun x w hx hk => ⟨_, _, rfl, rfl, rfl, run_assign rfl rfl, Ext.refl _, hk 6 rfl⟩), trivial⟩ ?_)
  intro x fr w hx hk E
  have M := M.adopts hx (hk 7 (by decide)).1 (hk 7 (by decide)).2.1
  refine then_normal ?_
  refine wp_ret ?_
  refine ret1 E rfl rfl ?_
  exact ⟨_, rfl, M.fin (sub1 (i := 0) rfl) trivial⟩

set_option maxRecDepth 100000 in
theorem Put_no {r : Rec} {w0 : World} (hr : r.Ok) (hm : ¬ r.May) : Gives Tryz.prog 59 [r.val] w0 (.tuple #[.slice none 0 0, .int .i64 7]) := by
  refine enter (n := 38) Tryz.func59 rfl rfl rfl ?_
  intro fr E
  have M : Mem w0 (feet []) [] (fun _ => True) w0 := Mem.begin (Has.nil w0) (fun _ _ => trivial)
  refine code_region ?_
  refine snew (ob := .cells (r.cells.toArray) 62) (fun g => .pointer (some ⟨g, 0, none⟩)) E M rfl rfl rfl rfl rfl (run_boxN (cs := (r.cells.toArray)) rfl rfl) fun g0 fr w M E => ?_
  refine sw E (run_assignC rfl) fun fr E => ?_
  refine sw E (run_assignC rfl) fun fr E => ?_
  refine seq_nil' ?_
  refine wp_seq ?_
  refine code_region ?_
  refine sw (v := .agg r.cells.toArray) E (run_loadAll rfl rfl T.agg62 (M.row (i := 0) rfl) (Rec.size hr)) fun fr E => ?_
  refine sgive E M rfl rfl rfl rfl rfl (run_call rfl rfl T.fn73) (may_x hr _) fun fr w M E => ?_
  rw [decide_eq_false hm] at E
  refine sw (v := .bool _) E (rfl) fun fr E => ?_
  refine seq_nil' ?_
  refine cond_true E rfl (rfl) ?_
  refine code_region ?_
  refine sw E (run_assignC rfl) fun fr E => ?_
  refine sw E (run_assignC rfl) fun fr E => ?_
  refine seq_nil' ?_
  refine wp_ret ?_
  refine then_ret ?_
  refine ret2 E rfl rfl rfl ?_
  exact given M

set_option maxRecDepth 100000 in
theorem Put_ok {r : Rec} {w0 : World} (hr : r.Ok) (hm : r.May) : Does Tryz.prog 59 [r.val] w0 [] (fun s : Value => .tuple #[s, .int .i64 0]) (fun s => [.bytes 5 s r.bytes]) (fun _ => True) := by
  refine enter (n := 38) Tryz.func59 rfl rfl rfl ?_
  intro fr E
  have M : Mem w0 (feet []) [] (fun _ => True) w0 := Mem.begin (Has.nil w0) (fun _ _ => trivial)
  refine code_region ?_
  refine snew (ob := .cells (r.cells.toArray) 62) (fun g => .pointer (some ⟨g, 0, none⟩)) E M rfl rfl rfl rfl rfl (run_boxN (cs := (r.cells.toArray)) rfl rfl) fun g0 fr w M E => ?_
  refine sw E (run_assignC rfl) fun fr E => ?_
  refine sw E (run_assignC rfl) fun fr E => ?_
  refine seq_nil' ?_
  refine wp_seq ?_
  refine code_region ?_
  refine sw (v := .agg r.cells.toArray) E (run_loadAll rfl rfl T.agg62 (M.row (i := 0) rfl) (Rec.size hr)) fun fr E => ?_
  refine sgive E M rfl rfl rfl rfl rfl (run_call rfl rfl T.fn73) (may_x hr _) fun fr w M E => ?_
  rw [decide_eq_true hm] at E
  refine sw (v := .bool _) E (rfl) fun fr E => ?_
  refine seq_nil' ?_
  refine cond_false E rfl (rfl) ?_
  refine wp_skip ?_
  refine then_normal ?_
  refine wp_seq (free_reg (B := T.tab59_3_b) (Vs := (.exact (.pointer (some ⟨_, 0, none⟩)) :: .exact (.int .i64 _) :: CameV w.heap.size (fun v => [.bytes 5 v ([] ++ be8 r.gen)]) (fun _ => True) :: .exact (.pointer (some ⟨_, 1, none⟩)) :: .exact (.int .i64 _) :: CameV w.heap.size (fun v => [.bytes 5 v ([] ++ be8 r.gen ++ be8 r.stamp)]) (fun _ => True) :: .exact (.pointer (some ⟨_, 2, none⟩)) :: .exact (.int .i64 _) :: CameV w.heap.size (fun v => [.bytes 5 v ([] ++ be8 r.gen ++ be8 r.stamp ++ be8 r.epoch)]) (fun _ => True) :: CameV w.heap.size (fun v => [.bytes 5 v ([] ++ be8 r.gen ++ be8 r.stamp ++ be8 r.epoch)]) (fun _ => True) :: [])) T.tab59_3_i E T.mixed T.tab59_3 rfl (AllS.lasts ⟨trivial, trivial, LastsS.cameV, trivial, trivial, LastsS.cameV, trivial, trivial, LastsS.cameV, LastsS.cameV, trivial⟩) ⟨fv rfl rfl (fun x w hx hk => run_fieldAddr rfl rfl T.fld62_0),
      fv rfl rfl (fun x w hx hk => run_loadB rfl rfl T.one3 ((M.ext ((Ext.drew _).trans hx)).row (i := 0) rfl) Rec.c_gen),
      fs_ext rfl rfl (fun x w hx hk => ⟨_, _, rfl, rfl, rfl, run_call rfl rfl T.fn72, (Int_x r.gen (Bytes.nil _) (by simp)).extV hx.size⟩),
      fv rfl rfl (fun x w hx hk => run_fieldAddr rfl rfl T.fld62_1),
      fv rfl rfl (fun x w hx hk => run_loadB rfl rfl T.one3 ((M.ext ((Ext.drew _).trans hx)).row (i := 0) rfl) Rec.c_stamp),
      fs_ext rfl rfl (fun x w hx hk => ⟨_, _, rfl, rfl, rfl, run_call rfl rfl T.fn72, (Int_x r.stamp ((hk 2 rfl).1.reads 0 rfl : Bytes _ _ ([] ++ be8 r.gen)) (by simp [be8, hr.super, hr.rsum, hr.bsum, hr.tsum])).extV hx.size⟩),
      fv rfl rfl (fun x w hx hk => run_fieldAddr rfl rfl T.fld62_2),
      fv rfl rfl (fun x w hx hk => run_loadB rfl rfl T.one3 ((M.ext ((Ext.drew _).trans hx)).row (i := 0) rfl) Rec.c_epoch),
      fs_ext rfl rfl (fun x w hx hk => ⟨_, _, rfl, rfl, rfl, run_call rfl rfl T.fn72, (Int_x r.epoch ((hk 5 rfl).1.reads 0 rfl : Bytes _ _ ([] ++ be8 r.gen ++ be8 r.stamp)) (by simp [be8, hr.super, hr.rsum, hr.bsum, hr.tsum])).extV hx.size⟩),
      fs_val rfl rfl (fun x w hx hk => ⟨_, _, rfl, rfl, rfl, run_assign rfl rfl, Ext.refl _, hk 8 rfl⟩), trivial⟩ ?_)
  intro x fr w hx hk E
  have M := M.adopts hx (hk 9 (by decide)).1 (hk 9 (by decide)).2.1
  refine then_normal ?_
  refine wp_seq (free_reg (B := T.tab59_4_b) (Vs := (.exact _ :: .exact (.pointer (some ⟨_, 3, none⟩)) :: .exact (.agg (bc r.super).toArray) :: CameV w.heap.size (fun v => [.bytes 5 v (be8 r.gen ++ be8 r.stamp ++ be8 r.epoch ++ r.super)]) (fun _ => True) :: .exact (.pointer (some ⟨_, 35, none⟩)) :: .exact (.agg (iv r.rat :: bc r.rsum).toArray) :: CameV w.heap.size (fun v => [.bytes 5 v (be8 r.gen ++ be8 r.stamp ++ be8 r.epoch ++ r.super ++ be8 r.rat ++ r.rsum)]) (fun _ => True) :: CameV w.heap.size (fun v => [.bytes 5 v (be8 r.gen ++ be8 r.stamp ++ be8 r.epoch ++ r.super ++ be8 r.rat ++ r.rsum)]) (fun _ => True) :: [])) T.tab59_4_i E T.mixed T.tab59_4 rfl (AllS.lasts ⟨trivial, trivial, trivial, LastsS.cameV, trivial, trivial, LastsS.cameV, LastsS.cameV, trivial⟩) ⟨fv rfl rfl (fun x w hx hk => run_move rfl rfl),
      fv rfl rfl (fun x w hx hk => run_fieldAddr rfl rfl T.fld62_3),
      fv rfl rfl (fun x w hx hk => run_loadN' (vs := (bc r.super).toArray) rfl rfl T.agg54 ((M.ext ((Ext.drew _).trans hx)).row (i := 1) rfl) (by simp [Rec.len hr]) (congrArg List.toArray (Rec.m_super hr))),
      fs_ext rfl rfl (fun x w hx hk => ⟨_, _, rfl, rfl, rfl, run_call rfl rfl T.fn75, (Sum_x (l := be8 r.gen ++ be8 r.stamp ++ be8 r.epoch) (s := r.super) ((M.ext ((Ext.drew _).trans hx)).reads 0 rfl) hr.super (by simp [be8, hr.super, hr.rsum, hr.bsum, hr.tsum])).extV hx.size⟩),
      fv rfl rfl (fun x w hx hk => run_fieldAddr rfl rfl T.fld62_4),
      fv rfl rfl (fun x w hx hk => run_loadN' (vs := (iv r.rat :: bc r.rsum).toArray) rfl rfl T.agg58 ((M.ext ((Ext.drew _).trans hx)).row (i := 1) rfl) (by simp [Rec.len hr]) (congrArg List.toArray (Rec.m_root hr))),
      fs_ext rfl rfl (fun x w hx hk => ⟨_, _, rfl, rfl, rfl, run_call rfl rfl T.fn74, (Ref_x (l := be8 r.gen ++ be8 r.stamp ++ be8 r.epoch ++ r.super) (s := r.rsum) (a := r.rat) ((hk 3 rfl).1.reads 0 rfl) hr.rsum (by simp [be8, hr.super, hr.rsum, hr.bsum, hr.tsum])).extV hx.size⟩),
      fs_val rfl rfl (fun x w hx hk => ⟨_, _, rfl, rfl, rfl, run_assign rfl rfl, Ext.refl _, hk 6 rfl⟩), trivial⟩ ?_)
  intro x fr w hx hk E
  have M := M.adopts hx (hk 7 (by decide)).1 (hk 7 (by decide)).2.1
  refine then_normal ?_
  refine wp_seq (free_reg (B := T.tab59_5_b) (Vs := (.exact _ :: .exact (.pointer (some ⟨_, 68, none⟩)) :: .exact (.agg ([iv r.bseg, iv r.bslot]).toArray) :: CameV w.heap.size (fun v => [.bytes 5 v (be8 r.gen ++ be8 r.stamp ++ be8 r.epoch ++ r.super ++ be8 r.rat ++ r.rsum ++ be8 r.bseg ++ be8 r.bslot)]) (fun _ => True) :: .exact (.pointer (some ⟨_, 70, none⟩)) :: .exact (.agg ([iv r.tseg, iv r.tslot]).toArray) :: CameV w.heap.size (fun v => [.bytes 5 v (be8 r.gen ++ be8 r.stamp ++ be8 r.epoch ++ r.super ++ be8 r.rat ++ r.rsum ++ be8 r.bseg ++ be8 r.bslot ++ be8 r.tseg ++ be8 r.tslot)]) (fun _ => True) :: CameV w.heap.size (fun v => [.bytes 5 v (be8 r.gen ++ be8 r.stamp ++ be8 r.epoch ++ r.super ++ be8 r.rat ++ r.rsum ++ be8 r.bseg ++ be8 r.bslot ++ be8 r.tseg ++ be8 r.tslot)]) (fun _ => True) :: [])) T.tab59_5_i E T.mixed T.tab59_5 rfl (AllS.lasts ⟨trivial, trivial, trivial, LastsS.cameV, trivial, trivial, LastsS.cameV, LastsS.cameV, trivial⟩) ⟨fv rfl rfl (fun x w hx hk => run_move rfl rfl),
      fv rfl rfl (fun x w hx hk => run_fieldAddr rfl rfl T.fld62_5),
      fv rfl rfl (fun x w hx hk => run_loadN' (vs := ([iv r.bseg, iv r.bslot]).toArray) rfl rfl T.agg60 ((M.ext ((Ext.drew _).trans hx)).row (i := 2) rfl) (by simp [Rec.len hr]) (congrArg List.toArray (Rec.m_base hr))),
      fs_ext rfl rfl (fun x w hx hk => ⟨_, _, rfl, rfl, rfl, run_call rfl rfl T.fn76, (place_x (l := be8 r.gen ++ be8 r.stamp ++ be8 r.epoch ++ r.super ++ be8 r.rat ++ r.rsum) (s := r.bseg) (q := r.bslot) ((M.ext ((Ext.drew _).trans hx)).reads 0 rfl) (by simp [be8, hr.super, hr.rsum, hr.bsum, hr.tsum])).extV hx.size⟩),
      fv rfl rfl (fun x w hx hk => run_fieldAddr rfl rfl T.fld62_6),
      fv rfl rfl (fun x w hx hk => run_loadN' (vs := ([iv r.tseg, iv r.tslot]).toArray) rfl rfl T.agg60 ((M.ext ((Ext.drew _).trans hx)).row (i := 2) rfl) (by simp [Rec.len hr]) (congrArg List.toArray (Rec.m_tail hr))),
      fs_ext rfl rfl (fun x w hx hk => ⟨_, _, rfl, rfl, rfl, run_call rfl rfl T.fn76, (place_x (l := be8 r.gen ++ be8 r.stamp ++ be8 r.epoch ++ r.super ++ be8 r.rat ++ r.rsum ++ be8 r.bseg ++ be8 r.bslot) (s := r.tseg) (q := r.tslot) ((hk 3 rfl).1.reads 0 rfl) (by simp [be8, hr.super, hr.rsum, hr.bsum, hr.tsum])).extV hx.size⟩),
      fs_val rfl rfl (fun x w hx hk => ⟨_, _, rfl, rfl, rfl, run_assign rfl rfl, Ext.refl _, hk 6 rfl⟩), trivial⟩ ?_)
  intro x fr w hx hk E
  have M := M.adopts hx (hk 7 (by decide)).1 (hk 7 (by decide)).2.1
  refine then_normal ?_
  refine wp_seq (free_reg (B := T.tab59_6_b) (Vs := (.exact _ :: .exact (.pointer (some ⟨_, 72, none⟩)) :: .exact (.agg (bc r.bsum).toArray) :: CameV w.heap.size (fun v => [.bytes 5 v (be8 r.gen ++ be8 r.stamp ++ be8 r.epoch ++ r.super ++ be8 r.rat ++ r.rsum ++ be8 r.bseg ++ be8 r.bslot ++ be8 r.tseg ++ be8 r.tslot ++ r.bsum)]) (fun _ => True) :: .exact (.pointer (some ⟨_, 104, none⟩)) :: .exact (.agg (bc r.tsum).toArray) :: CameV w.heap.size (fun v => [.bytes 5 v (be8 r.gen ++ be8 r.stamp ++ be8 r.epoch ++ r.super ++ be8 r.rat ++ r.rsum ++ be8 r.bseg ++ be8 r.bslot ++ be8 r.tseg ++ be8 r.tslot ++ r.bsum ++ r.tsum)]) (fun _ => True) :: CameV w.heap.size (fun v => [.bytes 5 v (be8 r.gen ++ be8 r.stamp ++ be8 r.epoch ++ r.super ++ be8 r.rat ++ r.rsum ++ be8 r.bseg ++ be8 r.bslot ++ be8 r.tseg ++ be8 r.tslot ++ r.bsum ++ r.tsum)]) (fun _ => True) :: .exact _ :: [])) T.tab59_6_i E T.mixed T.tab59_6 rfl (AllS.lasts ⟨trivial, trivial, trivial, LastsS.cameV, trivial, trivial, LastsS.cameV, LastsS.cameV, trivial, trivial⟩) ⟨fv rfl rfl (fun x w hx hk => run_move rfl rfl),
      fv rfl rfl (fun x w hx hk => run_fieldAddr rfl rfl T.fld62_7),
      fv rfl rfl (fun x w hx hk => run_loadN' (vs := (bc r.bsum).toArray) rfl rfl T.agg54 ((M.ext ((Ext.drew _).trans hx)).row (i := 3) rfl) (by simp [Rec.len hr]) (congrArg List.toArray (Rec.m_bsum hr))),
      fs_ext rfl rfl (fun x w hx hk => ⟨_, _, rfl, rfl, rfl, run_call rfl rfl T.fn75, (Sum_x (l := be8 r.gen ++ be8 r.stamp ++ be8 r.epoch ++ r.super ++ be8 r.rat ++ r.rsum ++ be8 r.bseg ++ be8 r.bslot ++ be8 r.tseg ++ be8 r.tslot) (s := r.bsum) ((M.ext ((Ext.drew _).trans hx)).reads 0 rfl) hr.bsum (by simp [be8, hr.super, hr.rsum, hr.bsum, hr.tsum])).extV hx.size⟩),
      fv rfl rfl (fun x w hx hk => run_fieldAddr rfl rfl T.fld62_8),
      fv rfl rfl (fun x w hx hk => run_loadN' (vs := (bc r.tsum).toArray) rfl rfl T.agg54 ((M.ext ((Ext.drew _).trans hx)).row (i := 3) rfl) (by simp [Rec.len hr]) (congrArg List.toArray (Rec.m_tsum hr))),
      fs_ext rfl rfl (fun x w hx hk => ⟨_, _, rfl, rfl, rfl, run_call rfl rfl T.fn75, (Sum_x (l := be8 r.gen ++ be8 r.stamp ++ be8 r.epoch ++ r.super ++ be8 r.rat ++ r.rsum ++ be8 r.bseg ++ be8 r.bslot ++ be8 r.tseg ++ be8 r.tslot ++ r.bsum) (s := r.tsum) ((hk 3 rfl).1.reads 0 rfl) hr.tsum (by simp [be8, hr.super, hr.rsum, hr.bsum, hr.tsum])).extV hx.size⟩),
      fs_val rfl rfl (fun x w hx hk => ⟨_, _, rfl, rfl, rfl, run_assign rfl rfl, Ext.refl _, hk 6 rfl⟩),
      fv rfl rfl (fun x w hx hk => run_assignC rfl), trivial⟩ ?_)
  intro x fr w hx hk E
  have M := M.adopts hx (hk 7 (by decide)).1 (hk 7 (by decide)).2.1
  refine then_normal ?_
  refine wp_ret ?_
  refine ret2 E rfl rfl rfl ?_
  exact ⟨_, rfl, M.fin (sub1 (i := 0) rfl) trivial⟩
end Go.Proofs.YtnebjbgcibjohaaGreat.K
end
section
namespace Go.Proofs.YtnebjbgcibjohaaGreat.K
open Go.RowKit Go.Rill Go.Proofs
set_option linter.unusedVariables false
set_option linter.unusedSimpArgs false


end Go.Proofs.YtnebjbgcibjohaaGreat.K
end
section
namespace Go.Proofs.YtnebjbgcibjohaaGreat.K
open Go.RowKit Go.Rill Go.Proofs
set_option linter.unusedVariables false
set_option linter.unusedSimpArgs false
end Go.Proofs.YtnebjbgcibjohaaGreat.K
end
section
namespace Go.Proofs.YtnebjbgcibjohaaGreat.K
open Go.RowKit Go.Rill Go.Proofs
set_option linter.unusedVariables false
set_option linter.unusedSimpArgs false
/-- What a reader of a record has left behind k things. -/
def rst (l : List UInt8) : Nat → List UInt8 × Bool
  | 0 => (l, false)
  | k + 1 => rNext (match k with | 3 => 32 | 4 => 40 | 9 => 32 | 10 => 32 | _ => 8) (rst l k)
theorem rNext_len (n : Nat) (s : List UInt8 × Bool) : (rNext n s).1.length ≤ s.1.length := by unfold rNext; split <;> simp
theorem rst_len (l : List UInt8) : ∀ k, (rst l k).1.length ≤ l.length
  | 0 => Nat.le_refl _
  | k + 1 => Nat.le_trans (rNext_len _ _) (rst_len l k)
def Rec.r5 (l : List UInt8) : Rec := { Rec.zero with gen := rInt (rst l 0), stamp := rInt (rst l 1), epoch := rInt (rst l 2), super := rSum (rst l 3), rat := (rRef (rst l 4)).1, rsum := (rRef (rst l 4)).2 }
def Rec.r7 (l : List UInt8) : Rec := { Rec.r5 l with bseg := rInt (rst l 5), bslot := rInt (rst l 6) }
def Rec.r9 (l : List UInt8) : Rec := { Rec.r7 l with tseg := rInt (rst l 7), tslot := rInt (rst l 8) }
def Rec.r10 (l : List UInt8) : Rec := { Rec.r9 l with bsum := rSum (rst l 9) }
def Rec.read (l : List UInt8) : Rec := { Rec.r10 l with tsum := rSum (rst l 10) }
theorem Rec.r5_ok (l : List UInt8) : (Rec.r5 l).Ok := ⟨rSum_len _, rRef_len _, Rec.zero_ok.bsum, Rec.zero_ok.tsum⟩
theorem Rec.r7_ok (l : List UInt8) : (Rec.r7 l).Ok := ⟨rSum_len _, rRef_len _, Rec.zero_ok.bsum, Rec.zero_ok.tsum⟩
theorem Rec.r9_ok (l : List UInt8) : (Rec.r9 l).Ok := ⟨rSum_len _, rRef_len _, Rec.zero_ok.bsum, Rec.zero_ok.tsum⟩
theorem Rec.r10_ok (l : List UInt8) : (Rec.r10 l).Ok := ⟨rSum_len _, rRef_len _, rSum_len _, Rec.zero_ok.tsum⟩
theorem Rec.read_ok (l : List UInt8) : (Rec.read l).Ok := ⟨rSum_len _, rRef_len _, rSum_len _, rSum_len _⟩
theorem r5_cells (l : List UInt8) : ([iv (rInt (rst l 0)), iv (rInt (rst l 1)), iv (rInt (rst l 2)), .agg (bc (rSum (rst l 3))).toArray, .agg (iv (rRef (rst l 4)).1 :: bc (rRef (rst l 4)).2).toArray].map (·.cells.toList)).flatten ++ (iv 0 :: iv 0 :: iv 0 :: iv 0 :: (bc (List.replicate 32 0) ++ bc (List.replicate 32 0))) = (Rec.r5 l).cells := by
  simp only [List.map_cons, List.map_nil, List.flatten_cons, List.flatten_nil, iv, Value.cells, Rec.r5, Rec.cells, Rec.zero, List.append_nil, List.append_assoc, List.cons_append, List.nil_append]
set_option maxRecDepth 100000 in
theorem Get_bad {b : Value} {l : List UInt8} {w0 : World} (hb : Bytes w0 b l) (hz : l.length ≤ 35184372088832) (he : rEnd (rst l 11) ≠ 0) : Gives Tryz.prog 71 [b] w0 (.tuple #[Rec.zero.val, .int .i64 (rEnd (rst l 11))]) := by
  refine enter (n := 52) Tryz.func71 rfl rfl rfl ?_
  intro fr E
  have M : Mem w0 (feet []) [] (fun w' => Bytes w' b l) w0 := Mem.begin (Has.nil w0) (fun w' h => hb.held0 h)
  refine code_region ?_
  refine snew (ob := .cells _ 62) (fun g => .pointer (some ⟨g, 0, none⟩)) E M rfl rfl rfl rfl rfl (run_allocN rfl T.zero62) fun g0 fr w M E => ?_
  refine sw E (run_assignC rfl) fun fr E => ?_
  refine seq_nil' ?_
  refine code_region ?_
  refine mv E fun fr E => ?_
  refine scall E M rfl rfl rfl rfl rfl (run_call rfl rfl T.fn65) (Read_x M.fact hz) rfl ?_
  rintro ⟨g, rv0⟩ fr w - M E
  refine ma E fun fr E => ?_
  refine seq_nil' ?_
  refine code_region ?_
  refine mv E fun fr E => ?_
  refine scallI (rdr g rv0 (rst l 0).1 (rst l 0).2) E M rfl rfl rfl rfl rfl (run_call rfl rfl T.fn66) rfl (fun H => Reader_Int_x H (Nat.le_trans (rst_len l 0) hz)) ?_
  rintro rv1 fr w - M E
  refine mv E fun fr E => ?_
  refine scallI (rdr g rv1 (rst l 1).1 (rst l 1).2) E M rfl rfl rfl rfl rfl (run_call rfl rfl T.fn66) rfl (fun H => Reader_Int_x H (Nat.le_trans (rst_len l 1) hz)) ?_
  rintro rv2 fr w - M E
  refine mv E fun fr E => ?_
  refine scallI (rdr g rv2 (rst l 2).1 (rst l 2).2) E M rfl rfl rfl rfl rfl (run_call rfl rfl T.fn66) rfl (fun H => Reader_Int_x H (Nat.le_trans (rst_len l 2) hz)) ?_
  rintro rv3 fr w - M E
  refine mv E fun fr E => ?_
  refine scallI (rdr g rv3 (rst l 3).1 (rst l 3).2) E M rfl rfl rfl rfl rfl (run_call rfl rfl T.fn83) rfl (fun H => Reader_Sum_x H (Nat.le_trans (rst_len l 3) hz)) ?_
  rintro rv4 fr w - M E
  refine mv E fun fr E => ?_
  refine scallI (rdr g rv4 (rst l 4).1 (rst l 4).2) E M rfl rfl rfl rfl rfl (run_call rfl rfl T.fn84) rfl (fun H => Reader_Ref_x H (Nat.le_trans (rst_len l 4) hz)) ?_
  rintro rv5 fr w - M E
  refine sw (v := .agg ((Rec.r5 l).cells).toArray) E (run_buildP (vs := [iv (rInt (rst l 0)), iv (rInt (rst l 1)), iv (rInt (rst l 2)), .agg (bc (rSum (rst l 3))).toArray, .agg (iv (rRef (rst l 4)).1 :: bc (rRef (rst l 4)).2).toArray]) (us := (Rec.r5 l).cells) rfl rfl T.ts62 T.zeroL62 (by simp [iv, Value.cells, rSum_len, rRef_len]) rfl rfl (r5_cells l)) fun fr E => ?_
  refine snew (ob := .cells _ 62) (fun g => .pointer (some ⟨g, 0, none⟩)) E M rfl rfl rfl rfl rfl (run_allocN rfl T.zero62) fun g1 fr w M E => ?_
  refine sset (i := 0) (cs' := (Rec.r5 l).cells.toArray) E M rfl rfl rfl rfl rfl (run_storeAll (vs := (Rec.r5 l).cells.toArray) rfl rfl rfl T.size62 (Rec.size (Rec.r5_ok l)) (M.row (i := 0) rfl) rfl (by simpa using Rec.ones _)) rfl fun fr w M E => ?_
  refine seq_nil' ?_
  refine code_region ?_
  refine mv E fun fr E => ?_
  have M := M.pull 2 rfl
  have M := M.pull 2 rfl
  refine scallI (rdr g rv5 (rst l 5).1 (rst l 5).2) E M rfl rfl rfl rfl rfl (run_call rfl rfl T.fn66) rfl (fun H => Reader_Int_x H (Nat.le_trans (rst_len l 5) hz)) ?_
  rintro rv6 fr w - M E
  refine mv E fun fr E => ?_
  refine scallI (rdr g rv6 (rst l 6).1 (rst l 6).2) E M rfl rfl rfl rfl rfl (run_call rfl rfl T.fn66) rfl (fun H => Reader_Int_x H (Nat.le_trans (rst_len l 6) hz)) ?_
  rintro rv7 fr w - M E
  refine sw (v := .agg ([_, _]).toArray) E (run_buildP (vs := [_, _]) (us := [_, _]) rfl rfl T.ts60 T.zeroL60 rfl rfl rfl rfl) fun fr E => ?_
  refine sw (v := .pointer (some ⟨_, 68, none⟩)) E (run_fieldAddr rfl rfl T.fld62_5) fun fr E => ?_
  refine sset (i := 2) (cs' := (Rec.r7 l).cells.toArray) E M rfl rfl rfl rfl rfl (run_storeN' (vs := #[iv (rInt (rst l 5)), iv (rInt (rst l 6))]) rfl rfl rfl T.size60 rfl (M.row (i := 2) rfl) (by simp [Rec.len (Rec.r5_ok l)]) rfl (congrArg List.toArray (Rec.s_base (Rec.r5_ok l) _ _))) rfl fun fr w M E => ?_
  refine seq_nil' ?_
  refine code_region ?_
  refine mv E fun fr E => ?_
  refine scallI (rdr g rv7 (rst l 7).1 (rst l 7).2) E M rfl rfl rfl rfl rfl (run_call rfl rfl T.fn66) rfl (fun H => Reader_Int_x H (Nat.le_trans (rst_len l 7) hz)) ?_
  rintro rv8 fr w - M E
  refine mv E fun fr E => ?_
  refine scallI (rdr g rv8 (rst l 8).1 (rst l 8).2) E M rfl rfl rfl rfl rfl (run_call rfl rfl T.fn66) rfl (fun H => Reader_Int_x H (Nat.le_trans (rst_len l 8) hz)) ?_
  rintro rv9 fr w - M E
  refine sw (v := .agg ([_, _]).toArray) E (run_buildP (vs := [_, _]) (us := [_, _]) rfl rfl T.ts60 T.zeroL60 rfl rfl rfl rfl) fun fr E => ?_
  refine sw (v := .pointer (some ⟨_, 70, none⟩)) E (run_fieldAddr rfl rfl T.fld62_6) fun fr E => ?_
  refine sset (i := 2) (cs' := (Rec.r9 l).cells.toArray) E M rfl rfl rfl rfl rfl (run_storeN' (vs := #[iv (rInt (rst l 7)), iv (rInt (rst l 8))]) rfl rfl rfl T.size60 rfl (M.row (i := 2) rfl) (by simp [Rec.len (Rec.r7_ok l)]) rfl (congrArg List.toArray (Rec.s_tail (Rec.r7_ok l) _ _))) rfl fun fr w M E => ?_
  refine seq_nil' ?_
  refine code_region ?_
  refine mv E fun fr E => ?_
  refine scallI (rdr g rv9 (rst l 9).1 (rst l 9).2) E M rfl rfl rfl rfl rfl (run_call rfl rfl T.fn83) rfl (fun H => Reader_Sum_x H (Nat.le_trans (rst_len l 9) hz)) ?_
  rintro rv10 fr w - M E
  refine mv E fun fr E => ?_
  refine scallI (rdr g rv10 (rst l 10).1 (rst l 10).2) E M rfl rfl rfl rfl rfl (run_call rfl rfl T.fn83) rfl (fun H => Reader_Sum_x H (Nat.le_trans (rst_len l 10) hz)) ?_
  rintro rv11 fr w - M E
  refine sw (v := .pointer (some ⟨_, 72, none⟩)) E (run_fieldAddr rfl rfl T.fld62_7) fun fr E => ?_
  refine sset (i := 2) (cs' := (Rec.r10 l).cells.toArray) E M rfl rfl rfl rfl rfl (run_storeN' (vs := (bc (rSum (rst l 9))).toArray) rfl rfl rfl T.size54 (by simp [rSum_len]) (M.row (i := 2) rfl) (by simp [Rec.len (Rec.r9_ok l)]) (by simpa using bc_one _) (congrArg List.toArray (Rec.s_bsum (Rec.r9_ok l) _))) rfl fun fr w M E => ?_
  refine sw (v := .pointer (some ⟨_, 104, none⟩)) E (run_fieldAddr rfl rfl T.fld62_8) fun fr E => ?_
  refine sset (i := 2) (cs' := (Rec.read l).cells.toArray) E M rfl rfl rfl rfl rfl (run_storeN' (vs := (bc (rSum (rst l 10))).toArray) rfl rfl rfl T.size54 (by simp [rSum_len]) (M.row (i := 2) rfl) (by simp [Rec.len (Rec.r10_ok l)]) (by simpa using bc_one _) (congrArg List.toArray (Rec.s_tsum (Rec.r10_ok l) _))) rfl fun fr w M E => ?_
  refine seq_nil' ?_
  refine code_region ?_
  refine mv E fun fr E => ?_
  refine scallI (rdr g rv11 (rst l 11).1 (rst l 11).2) E M rfl rfl rfl rfl rfl (run_call rfl rfl T.fn69) rfl (fun H => End_x H (Nat.le_trans (rst_len l 11) hz)) ?_
  rintro _ fr w - M E
  refine ma E fun fr E => ?_
  refine seq_nil' ?_
  refine wp_seq ?_
  refine code_region ?_
  refine mv E fun fr E => ?_
  refine sw (v := .bool false) E (tst rfl (decide_eq_false he)) fun fr E => ?_
  refine mv E fun fr E => ?_
  refine sno E rfl rfl rfl rfl fun fr E => ?_
  refine sno E rfl rfl rfl rfl fun fr E => ?_
  refine sno E rfl rfl rfl rfl fun fr E => ?_
  refine sw (v := .bool _) E (rfl) fun fr E => ?_
  refine seq_nil' ?_
  refine cond_false E rfl (rfl) ?_
  refine wp_skip ?_
  refine then_normal ?_
  refine wp_seq ?_
  refine code_region ?_
  refine mv E fun fr E => ?_
  refine sw (v := .bool true) E (tst rfl (by simp; exact he)) fun fr E => ?_
  refine seq_nil' ?_
  refine cond_true E rfl (rfl) ?_
  refine code_region ?_
  refine sw (v := .agg (Rec.zero.cells).toArray) E (run_buildP (vs := []) (us := Rec.zero.cells) rfl rfl T.ts62 T.zeroL62 (rfl) rfl rfl (rfl)) fun fr E => ?_
  refine mv E fun fr E => ?_
  refine sset (i := 3) (cs' := Rec.zero.cells.toArray) E M rfl rfl rfl rfl rfl (run_storeAll (vs := Rec.zero.cells.toArray) rfl rfl rfl T.size62 (Rec.size Rec.zero_ok) (M.row (i := 3) rfl) rfl (by simpa using Rec.ones _)) rfl fun fr w M E => ?_
  refine ma E fun fr E => ?_
  refine seq_nil' ?_
  refine wp_ret ?_
  refine then_ret ?_
  refine retC2 E rfl rfl rfl T.agg62 (M.row (i := 3) rfl) (Rec.size (Rec.zero_ok)) ?_
  exact given M

set_option maxRecDepth 100000 in
theorem Get_ok {b : Value} {l : List UInt8} {w0 : World} (hb : Bytes w0 b l) (hz : l.length ≤ 35184372088832) (he : rEnd (rst l 11) = 0) (hm : (Rec.read l).May) : Gives Tryz.prog 71 [b] w0 (.tuple #[(Rec.read l).val, .int .i64 0]) := by
  refine enter (n := 52) Tryz.func71 rfl rfl rfl ?_
  intro fr E
  have M : Mem w0 (feet []) [] (fun w' => Bytes w' b l) w0 := Mem.begin (Has.nil w0) (fun w' h => hb.held0 h)
  refine code_region ?_
  refine snew (ob := .cells _ 62) (fun g => .pointer (some ⟨g, 0, none⟩)) E M rfl rfl rfl rfl rfl (run_allocN rfl T.zero62) fun g0 fr w M E => ?_
  refine sw E (run_assignC rfl) fun fr E => ?_
  refine seq_nil' ?_
  refine code_region ?_
  refine mv E fun fr E => ?_
  refine scall E M rfl rfl rfl rfl rfl (run_call rfl rfl T.fn65) (Read_x M.fact hz) rfl ?_
  rintro ⟨g, rv0⟩ fr w - M E
  refine ma E fun fr E => ?_
  refine seq_nil' ?_
  refine code_region ?_
  refine mv E fun fr E => ?_
  refine scallI (rdr g rv0 (rst l 0).1 (rst l 0).2) E M rfl rfl rfl rfl rfl (run_call rfl rfl T.fn66) rfl (fun H => Reader_Int_x H (Nat.le_trans (rst_len l 0) hz)) ?_
  rintro rv1 fr w - M E
  refine mv E fun fr E => ?_
  refine scallI (rdr g rv1 (rst l 1).1 (rst l 1).2) E M rfl rfl rfl rfl rfl (run_call rfl rfl T.fn66) rfl (fun H => Reader_Int_x H (Nat.le_trans (rst_len l 1) hz)) ?_
  rintro rv2 fr w - M E
  refine mv E fun fr E => ?_
  refine scallI (rdr g rv2 (rst l 2).1 (rst l 2).2) E M rfl rfl rfl rfl rfl (run_call rfl rfl T.fn66) rfl (fun H => Reader_Int_x H (Nat.le_trans (rst_len l 2) hz)) ?_
  rintro rv3 fr w - M E
  refine mv E fun fr E => ?_
  refine scallI (rdr g rv3 (rst l 3).1 (rst l 3).2) E M rfl rfl rfl rfl rfl (run_call rfl rfl T.fn83) rfl (fun H => Reader_Sum_x H (Nat.le_trans (rst_len l 3) hz)) ?_
  rintro rv4 fr w - M E
  refine mv E fun fr E => ?_
  refine scallI (rdr g rv4 (rst l 4).1 (rst l 4).2) E M rfl rfl rfl rfl rfl (run_call rfl rfl T.fn84) rfl (fun H => Reader_Ref_x H (Nat.le_trans (rst_len l 4) hz)) ?_
  rintro rv5 fr w - M E
  refine sw (v := .agg ((Rec.r5 l).cells).toArray) E (run_buildP (vs := [iv (rInt (rst l 0)), iv (rInt (rst l 1)), iv (rInt (rst l 2)), .agg (bc (rSum (rst l 3))).toArray, .agg (iv (rRef (rst l 4)).1 :: bc (rRef (rst l 4)).2).toArray]) (us := (Rec.r5 l).cells) rfl rfl T.ts62 T.zeroL62 (by simp [iv, Value.cells, rSum_len, rRef_len]) rfl rfl (r5_cells l)) fun fr E => ?_
  refine snew (ob := .cells _ 62) (fun g => .pointer (some ⟨g, 0, none⟩)) E M rfl rfl rfl rfl rfl (run_allocN rfl T.zero62) fun g1 fr w M E => ?_
  refine sset (i := 0) (cs' := (Rec.r5 l).cells.toArray) E M rfl rfl rfl rfl rfl (run_storeAll (vs := (Rec.r5 l).cells.toArray) rfl rfl rfl T.size62 (Rec.size (Rec.r5_ok l)) (M.row (i := 0) rfl) rfl (by simpa using Rec.ones _)) rfl fun fr w M E => ?_
  refine seq_nil' ?_
  refine code_region ?_
  refine mv E fun fr E => ?_
  have M := M.pull 2 rfl
  have M := M.pull 2 rfl
  refine scallI (rdr g rv5 (rst l 5).1 (rst l 5).2) E M rfl rfl rfl rfl rfl (run_call rfl rfl T.fn66) rfl (fun H => Reader_Int_x H (Nat.le_trans (rst_len l 5) hz)) ?_
  rintro rv6 fr w - M E
  refine mv E fun fr E => ?_
  refine scallI (rdr g rv6 (rst l 6).1 (rst l 6).2) E M rfl rfl rfl rfl rfl (run_call rfl rfl T.fn66) rfl (fun H => Reader_Int_x H (Nat.le_trans (rst_len l 6) hz)) ?_
  rintro rv7 fr w - M E
  refine sw (v := .agg ([_, _]).toArray) E (run_buildP (vs := [_, _]) (us := [_, _]) rfl rfl T.ts60 T.zeroL60 rfl rfl rfl rfl) fun fr E => ?_
  refine sw (v := .pointer (some ⟨_, 68, none⟩)) E (run_fieldAddr rfl rfl T.fld62_5) fun fr E => ?_
  refine sset (i := 2) (cs' := (Rec.r7 l).cells.toArray) E M rfl rfl rfl rfl rfl (run_storeN' (vs := #[iv (rInt (rst l 5)), iv (rInt (rst l 6))]) rfl rfl rfl T.size60 rfl (M.row (i := 2) rfl) (by simp [Rec.len (Rec.r5_ok l)]) rfl (congrArg List.toArray (Rec.s_base (Rec.r5_ok l) _ _))) rfl fun fr w M E => ?_
  refine seq_nil' ?_
  refine code_region ?_
  refine mv E fun fr E => ?_
  refine scallI (rdr g rv7 (rst l 7).1 (rst l 7).2) E M rfl rfl rfl rfl rfl (run_call rfl rfl T.fn66) rfl (fun H => Reader_Int_x H (Nat.le_trans (rst_len l 7) hz)) ?_
  rintro rv8 fr w - M E
  refine mv E fun fr E => ?_
  refine scallI (rdr g rv8 (rst l 8).1 (rst l 8).2) E M rfl rfl rfl rfl rfl (run_call rfl rfl T.fn66) rfl (fun H => Reader_Int_x H (Nat.le_trans (rst_len l 8) hz)) ?_
  rintro rv9 fr w - M E
  refine sw (v := .agg ([_, _]).toArray) E (run_buildP (vs := [_, _]) (us := [_, _]) rfl rfl T.ts60 T.zeroL60 rfl rfl rfl rfl) fun fr E => ?_
  refine sw (v := .pointer (some ⟨_, 70, none⟩)) E (run_fieldAddr rfl rfl T.fld62_6) fun fr E => ?_
  refine sset (i := 2) (cs' := (Rec.r9 l).cells.toArray) E M rfl rfl rfl rfl rfl (run_storeN' (vs := #[iv (rInt (rst l 7)), iv (rInt (rst l 8))]) rfl rfl rfl T.size60 rfl (M.row (i := 2) rfl) (by simp [Rec.len (Rec.r7_ok l)]) rfl (congrArg List.toArray (Rec.s_tail (Rec.r7_ok l) _ _))) rfl fun fr w M E => ?_
  refine seq_nil' ?_
  refine code_region ?_
  refine mv E fun fr E => ?_
  refine scallI (rdr g rv9 (rst l 9).1 (rst l 9).2) E M rfl rfl rfl rfl rfl (run_call rfl rfl T.fn83) rfl (fun H => Reader_Sum_x H (Nat.le_trans (rst_len l 9) hz)) ?_
  rintro rv10 fr w - M E
  refine mv E fun fr E => ?_
  refine scallI (rdr g rv10 (rst l 10).1 (rst l 10).2) E M rfl rfl rfl rfl rfl (run_call rfl rfl T.fn83) rfl (fun H => Reader_Sum_x H (Nat.le_trans (rst_len l 10) hz)) ?_
  rintro rv11 fr w - M E
  refine sw (v := .pointer (some ⟨_, 72, none⟩)) E (run_fieldAddr rfl rfl T.fld62_7) fun fr E => ?_
  refine sset (i := 2) (cs' := (Rec.r10 l).cells.toArray) E M rfl rfl rfl rfl rfl (run_storeN' (vs := (bc (rSum (rst l 9))).toArray) rfl rfl rfl T.size54 (by simp [rSum_len]) (M.row (i := 2) rfl) (by simp [Rec.len (Rec.r9_ok l)]) (by simpa using bc_one _) (congrArg List.toArray (Rec.s_bsum (Rec.r9_ok l) _))) rfl fun fr w M E => ?_
  refine sw (v := .pointer (some ⟨_, 104, none⟩)) E (run_fieldAddr rfl rfl T.fld62_8) fun fr E => ?_
  refine sset (i := 2) (cs' := (Rec.read l).cells.toArray) E M rfl rfl rfl rfl rfl (run_storeN' (vs := (bc (rSum (rst l 10))).toArray) rfl rfl rfl T.size54 (by simp [rSum_len]) (M.row (i := 2) rfl) (by simp [Rec.len (Rec.r10_ok l)]) (by simpa using bc_one _) (congrArg List.toArray (Rec.s_tsum (Rec.r10_ok l) _))) rfl fun fr w M E => ?_
  refine seq_nil' ?_
  refine code_region ?_
  refine mv E fun fr E => ?_
  refine scallI (rdr g rv11 (rst l 11).1 (rst l 11).2) E M rfl rfl rfl rfl rfl (run_call rfl rfl T.fn69) rfl (fun H => End_x H (Nat.le_trans (rst_len l 11) hz)) ?_
  rintro _ fr w - M E
  refine ma E fun fr E => ?_
  refine seq_nil' ?_
  refine wp_seq ?_
  refine code_region ?_
  refine mv E fun fr E => ?_
  refine sw (v := .bool true) E (tst rfl (decide_eq_true he)) fun fr E => ?_
  refine mv E fun fr E => ?_
  refine sw (v := .agg (Rec.read l).cells.toArray) E (run_loadAll rfl rfl T.agg62 (M.row (i := 2) rfl) (Rec.size (Rec.read_ok l))) fun fr E => ?_
  refine sgive E M rfl rfl rfl rfl rfl (run_call rfl rfl T.fn73) (may_x (Rec.read_ok l) _) fun fr w M E => ?_
  rw [decide_eq_true hm] at E
  refine sw (v := .bool _) E (rfl) fun fr E => ?_
  refine sw (v := .bool _) E (rfl) fun fr E => ?_
  refine seq_nil' ?_
  refine cond_false E rfl (rfl) ?_
  refine wp_skip ?_
  refine then_normal ?_
  refine wp_seq ?_
  refine code_region ?_
  refine mv E fun fr E => ?_
  refine sw (v := .bool false) E (tst rfl (by simp; exact he)) fun fr E => ?_
  refine seq_nil' ?_
  refine cond_false E rfl (rfl) ?_
  refine wp_skip ?_
  refine then_normal ?_
  refine code_region ?_
  refine sw (v := .agg (Rec.read l).cells.toArray) E (run_loadAll rfl rfl T.agg62 (M.row (i := 2) rfl) (Rec.size (Rec.read_ok l))) fun fr E => ?_
  refine sset (i := 3) (cs' := (Rec.read l).cells.toArray) E M rfl rfl rfl rfl rfl (run_storeAll (vs := (Rec.read l).cells.toArray) rfl rfl rfl T.size62 (Rec.size (Rec.read_ok l)) (M.row (i := 3) rfl) rfl (by simpa using Rec.ones _)) rfl fun fr w M E => ?_
  refine sw E (run_assignC rfl) fun fr E => ?_
  refine seq_nil' ?_
  refine wp_ret ?_
  refine retC2 E rfl rfl rfl T.agg62 (M.row (i := 3) rfl) (Rec.size (Rec.read_ok l)) ?_
  exact given M

set_option maxRecDepth 100000 in
theorem Get_no {b : Value} {l : List UInt8} {w0 : World} (hb : Bytes w0 b l) (hz : l.length ≤ 35184372088832) (he : rEnd (rst l 11) = 0) (hm : ¬ (Rec.read l).May) : Gives Tryz.prog 71 [b] w0 (.tuple #[Rec.zero.val, .int .i64 7]) := by
  refine enter (n := 52) Tryz.func71 rfl rfl rfl ?_
  intro fr E
  have M : Mem w0 (feet []) [] (fun w' => Bytes w' b l) w0 := Mem.begin (Has.nil w0) (fun w' h => hb.held0 h)
  refine code_region ?_
  refine snew (ob := .cells _ 62) (fun g => .pointer (some ⟨g, 0, none⟩)) E M rfl rfl rfl rfl rfl (run_allocN rfl T.zero62) fun g0 fr w M E => ?_
  refine sw E (run_assignC rfl) fun fr E => ?_
  refine seq_nil' ?_
  refine code_region ?_
  refine mv E fun fr E => ?_
  refine scall E M rfl rfl rfl rfl rfl (run_call rfl rfl T.fn65) (Read_x M.fact hz) rfl ?_
  rintro ⟨g, rv0⟩ fr w - M E
  refine ma E fun fr E => ?_
  refine seq_nil' ?_
  refine code_region ?_
  refine mv E fun fr E => ?_
  refine scallI (rdr g rv0 (rst l 0).1 (rst l 0).2) E M rfl rfl rfl rfl rfl (run_call rfl rfl T.fn66) rfl (fun H => Reader_Int_x H (Nat.le_trans (rst_len l 0) hz)) ?_
  rintro rv1 fr w - M E
  refine mv E fun fr E => ?_
  refine scallI (rdr g rv1 (rst l 1).1 (rst l 1).2) E M rfl rfl rfl rfl rfl (run_call rfl rfl T.fn66) rfl (fun H => Reader_Int_x H (Nat.le_trans (rst_len l 1) hz)) ?_
  rintro rv2 fr w - M E
  refine mv E fun fr E => ?_
  refine scallI (rdr g rv2 (rst l 2).1 (rst l 2).2) E M rfl rfl rfl rfl rfl (run_call rfl rfl T.fn66) rfl (fun H => Reader_Int_x H (Nat.le_trans (rst_len l 2) hz)) ?_
  rintro rv3 fr w - M E
  refine mv E fun fr E => ?_
  refine scallI (rdr g rv3 (rst l 3).1 (rst l 3).2) E M rfl rfl rfl rfl rfl (run_call rfl rfl T.fn83) rfl (fun H => Reader_Sum_x H (Nat.le_trans (rst_len l 3) hz)) ?_
  rintro rv4 fr w - M E
  refine mv E fun fr E => ?_
  refine scallI (rdr g rv4 (rst l 4).1 (rst l 4).2) E M rfl rfl rfl rfl rfl (run_call rfl rfl T.fn84) rfl (fun H => Reader_Ref_x H (Nat.le_trans (rst_len l 4) hz)) ?_
  rintro rv5 fr w - M E
  refine sw (v := .agg ((Rec.r5 l).cells).toArray) E (run_buildP (vs := [iv (rInt (rst l 0)), iv (rInt (rst l 1)), iv (rInt (rst l 2)), .agg (bc (rSum (rst l 3))).toArray, .agg (iv (rRef (rst l 4)).1 :: bc (rRef (rst l 4)).2).toArray]) (us := (Rec.r5 l).cells) rfl rfl T.ts62 T.zeroL62 (by simp [iv, Value.cells, rSum_len, rRef_len]) rfl rfl (r5_cells l)) fun fr E => ?_
  refine snew (ob := .cells _ 62) (fun g => .pointer (some ⟨g, 0, none⟩)) E M rfl rfl rfl rfl rfl (run_allocN rfl T.zero62) fun g1 fr w M E => ?_
  refine sset (i := 0) (cs' := (Rec.r5 l).cells.toArray) E M rfl rfl rfl rfl rfl (run_storeAll (vs := (Rec.r5 l).cells.toArray) rfl rfl rfl T.size62 (Rec.size (Rec.r5_ok l)) (M.row (i := 0) rfl) rfl (by simpa using Rec.ones _)) rfl fun fr w M E => ?_
  refine seq_nil' ?_
  refine code_region ?_
  refine mv E fun fr E => ?_
  have M := M.pull 2 rfl
  have M := M.pull 2 rfl
  refine scallI (rdr g rv5 (rst l 5).1 (rst l 5).2) E M rfl rfl rfl rfl rfl (run_call rfl rfl T.fn66) rfl (fun H => Reader_Int_x H (Nat.le_trans (rst_len l 5) hz)) ?_
  rintro rv6 fr w - M E
  refine mv E fun fr E => ?_
  refine scallI (rdr g rv6 (rst l 6).1 (rst l 6).2) E M rfl rfl rfl rfl rfl (run_call rfl rfl T.fn66) rfl (fun H => Reader_Int_x H (Nat.le_trans (rst_len l 6) hz)) ?_
  rintro rv7 fr w - M E
  refine sw (v := .agg ([_, _]).toArray) E (run_buildP (vs := [_, _]) (us := [_, _]) rfl rfl T.ts60 T.zeroL60 rfl rfl rfl rfl) fun fr E => ?_
  refine sw (v := .pointer (some ⟨_, 68, none⟩)) E (run_fieldAddr rfl rfl T.fld62_5) fun fr E => ?_
  refine sset (i := 2) (cs' := (Rec.r7 l).cells.toArray) E M rfl rfl rfl rfl rfl (run_storeN' (vs := #[iv (rInt (rst l 5)), iv (rInt (rst l 6))]) rfl rfl rfl T.size60 rfl (M.row (i := 2) rfl) (by simp [Rec.len (Rec.r5_ok l)]) rfl (congrArg List.toArray (Rec.s_base (Rec.r5_ok l) _ _))) rfl fun fr w M E => ?_
  refine seq_nil' ?_
  refine code_region ?_
  refine mv E fun fr E => ?_
  refine scallI (rdr g rv7 (rst l 7).1 (rst l 7).2) E M rfl rfl rfl rfl rfl (run_call rfl rfl T.fn66) rfl (fun H => Reader_Int_x H (Nat.le_trans (rst_len l 7) hz)) ?_
  rintro rv8 fr w - M E
  refine mv E fun fr E => ?_
  refine scallI (rdr g rv8 (rst l 8).1 (rst l 8).2) E M rfl rfl rfl rfl rfl (run_call rfl rfl T.fn66) rfl (fun H => Reader_Int_x H (Nat.le_trans (rst_len l 8) hz)) ?_
  rintro rv9 fr w - M E
  refine sw (v := .agg ([_, _]).toArray) E (run_buildP (vs := [_, _]) (us := [_, _]) rfl rfl T.ts60 T.zeroL60 rfl rfl rfl rfl) fun fr E => ?_
  refine sw (v := .pointer (some ⟨_, 70, none⟩)) E (run_fieldAddr rfl rfl T.fld62_6) fun fr E => ?_
  refine sset (i := 2) (cs' := (Rec.r9 l).cells.toArray) E M rfl rfl rfl rfl rfl (run_storeN' (vs := #[iv (rInt (rst l 7)), iv (rInt (rst l 8))]) rfl rfl rfl T.size60 rfl (M.row (i := 2) rfl) (by simp [Rec.len (Rec.r7_ok l)]) rfl (congrArg List.toArray (Rec.s_tail (Rec.r7_ok l) _ _))) rfl fun fr w M E => ?_
  refine seq_nil' ?_
  refine code_region ?_
  refine mv E fun fr E => ?_
  refine scallI (rdr g rv9 (rst l 9).1 (rst l 9).2) E M rfl rfl rfl rfl rfl (run_call rfl rfl T.fn83) rfl (fun H => Reader_Sum_x H (Nat.le_trans (rst_len l 9) hz)) ?_
  rintro rv10 fr w - M E
  refine mv E fun fr E => ?_
  refine scallI (rdr g rv10 (rst l 10).1 (rst l 10).2) E M rfl rfl rfl rfl rfl (run_call rfl rfl T.fn83) rfl (fun H => Reader_Sum_x H (Nat.le_trans (rst_len l 10) hz)) ?_
  rintro rv11 fr w - M E
  refine sw (v := .pointer (some ⟨_, 72, none⟩)) E (run_fieldAddr rfl rfl T.fld62_7) fun fr E => ?_
  refine sset (i := 2) (cs' := (Rec.r10 l).cells.toArray) E M rfl rfl rfl rfl rfl (run_storeN' (vs := (bc (rSum (rst l 9))).toArray) rfl rfl rfl T.size54 (by simp [rSum_len]) (M.row (i := 2) rfl) (by simp [Rec.len (Rec.r9_ok l)]) (by simpa using bc_one _) (congrArg List.toArray (Rec.s_bsum (Rec.r9_ok l) _))) rfl fun fr w M E => ?_
  refine sw (v := .pointer (some ⟨_, 104, none⟩)) E (run_fieldAddr rfl rfl T.fld62_8) fun fr E => ?_
  refine sset (i := 2) (cs' := (Rec.read l).cells.toArray) E M rfl rfl rfl rfl rfl (run_storeN' (vs := (bc (rSum (rst l 10))).toArray) rfl rfl rfl T.size54 (by simp [rSum_len]) (M.row (i := 2) rfl) (by simp [Rec.len (Rec.r10_ok l)]) (by simpa using bc_one _) (congrArg List.toArray (Rec.s_tsum (Rec.r10_ok l) _))) rfl fun fr w M E => ?_
  refine seq_nil' ?_
  refine code_region ?_
  refine mv E fun fr E => ?_
  refine scallI (rdr g rv11 (rst l 11).1 (rst l 11).2) E M rfl rfl rfl rfl rfl (run_call rfl rfl T.fn69) rfl (fun H => End_x H (Nat.le_trans (rst_len l 11) hz)) ?_
  rintro _ fr w - M E
  refine ma E fun fr E => ?_
  refine seq_nil' ?_
  refine wp_seq ?_
  refine code_region ?_
  refine mv E fun fr E => ?_
  refine sw (v := .bool true) E (tst rfl (decide_eq_true he)) fun fr E => ?_
  refine mv E fun fr E => ?_
  refine sw (v := .agg (Rec.read l).cells.toArray) E (run_loadAll rfl rfl T.agg62 (M.row (i := 2) rfl) (Rec.size (Rec.read_ok l))) fun fr E => ?_
  refine sgive E M rfl rfl rfl rfl rfl (run_call rfl rfl T.fn73) (may_x (Rec.read_ok l) _) fun fr w M E => ?_
  rw [decide_eq_false hm] at E
  refine sw (v := .bool _) E (rfl) fun fr E => ?_
  refine sw (v := .bool _) E (rfl) fun fr E => ?_
  refine seq_nil' ?_
  refine cond_true E rfl (rfl) ?_
  refine code_last ?_
  refine sw E (run_assignC rfl) fun fr E => ?_
  refine seq_nil ?_
  refine then_normal ?_
  refine wp_seq ?_
  refine code_region ?_
  refine mv E fun fr E => ?_
  refine sw (v := .bool _) E (rfl) fun fr E => ?_
  refine seq_nil' ?_
  refine cond_true E rfl (rfl) ?_
  refine code_region ?_
  refine sw (v := .agg (Rec.zero.cells).toArray) E (run_buildP (vs := []) (us := Rec.zero.cells) rfl rfl T.ts62 T.zeroL62 (rfl) rfl rfl (rfl)) fun fr E => ?_
  refine mv E fun fr E => ?_
  refine sset (i := 3) (cs' := Rec.zero.cells.toArray) E M rfl rfl rfl rfl rfl (run_storeAll (vs := Rec.zero.cells.toArray) rfl rfl rfl T.size62 (Rec.size Rec.zero_ok) (M.row (i := 3) rfl) rfl (by simpa using Rec.ones _)) rfl fun fr w M E => ?_
  refine ma E fun fr E => ?_
  refine seq_nil' ?_
  refine wp_ret ?_
  refine then_ret ?_
  refine retC2 E rfl rfl rfl T.agg62 (M.row (i := 3) rfl) (Rec.size (Rec.zero_ok)) ?_
  exact given M
end Go.Proofs.YtnebjbgcibjohaaGreat.K
end
section
namespace Go.Proofs.YtnebjbgcibjohaaGreat.K
open Go.RowKit Go.Rill Go.Proofs
set_option linter.unusedVariables false
set_option linter.unusedSimpArgs false
theorem Bytes.mid {w : World} {v : Value} {l : List UInt8} {at_ n : Nat} (h : Bytes w v l) (hn : at_ + n ≤ l.length) : Bytes w (cutV 1 v at_ (at_ + n)) ((l.drop at_).take n) := by
  have := Bytes.cut at_ (at_ + n) h (Nat.le_add_right _ _) hn
  rwa [Nat.add_sub_cancel_left] at this
end Go.Proofs.YtnebjbgcibjohaaGreat.K
end
section
namespace Go.Proofs.YtnebjbgcibjohaaGreat.K
open Go.RowKit Go.Rill Go.Proofs
set_option linter.unusedVariables false
set_option linter.unusedSimpArgs false
/-- The record as it is filled, field by field. -/
def Rec.q (l : List UInt8) : Nat → Rec
  | 0 => Rec.zero
  | 1 => { Rec.zero with gen := rInt (rst l 0) }
  | 2 => { Rec.zero with gen := rInt (rst l 0), stamp := rInt (rst l 1) }
  | 3 => { Rec.zero with gen := rInt (rst l 0), stamp := rInt (rst l 1), epoch := rInt (rst l 2) }
  | 4 => { Rec.zero with gen := rInt (rst l 0), stamp := rInt (rst l 1), epoch := rInt (rst l 2), super := rSum (rst l 3) }
  | 5 => Rec.r5 l
  | 6 => { Rec.r5 l with bseg := rInt (rst l 5) }
  | 7 => Rec.r7 l
  | 8 => { Rec.r7 l with tseg := rInt (rst l 7) }
  | 9 => Rec.r9 l
  | 10 => Rec.r10 l
  | _ => Rec.read l
end Go.Proofs.YtnebjbgcibjohaaGreat.K
end
section
namespace Go.Proofs.YtnebjbgcibjohaaGreat.K
open Go.RowKit Go.Rill Go.Proofs
set_option linter.unusedVariables false
set_option linter.unusedSimpArgs false
theorem fill_step {F : List UInt8} {i n : Nat} {c : UInt8} (hi : i < n) (hF : F.length = n) (hc : F[i]'(by omega) = c) : (F.take i ++ List.replicate (n - i) 0).set i c = F.take (i + 1) ++ List.replicate (n - (i + 1)) 0 := by
  subst hc
  have e : n - i = (n - (i + 1)) + 1 := by omega
  rw [List.take_succ_eq_append_getElem (by omega), e, List.replicate_succ, List.set_append_right _ _ (by simp; omega)]
  have e2 : i - (F.take i).length = 0 := by simp; omega
  rw [e2, List.set_cons_zero]
  simp only [List.append_assoc, List.singleton_append]

end Go.Proofs.YtnebjbgcibjohaaGreat.K
end
section
namespace Go.Proofs.YtnebjbgcibjohaaGreat.K
open Go.RowKit Go.Rill Go.Proofs
set_option linter.unusedVariables false
set_option linter.unusedSimpArgs false
def Rec.mk3 (a b : Int) : Rec := { Rec.zero with gen := a, stamp := b, epoch := 2 }
theorem tmod_gt (x : Int) : -2 < x.tmod 2 := by
  have := Int.tmod_lt_of_pos (-x) (show (0 : Int) < 2 by decide)
  rw [Int.neg_tmod] at this
  omega
set_option maxRecDepth 100000 in
theorem nwithin_1 {n : Int} {w0 : World} (h : 0 ≤ n) : Gives Tryz.prog 137 [.int .i64 n] w0 (.bool (decide (n ≤ 1099511627776))) := by
  refine enter (n := 9) Tryz.func137 rfl rfl rfl ?_
  intro fr E
  have M : Mem w0 (feet []) [] (fun _ => True) w0 := Mem.begin (Has.nil w0) (fun _ _ => trivial)
  refine code_region ?_
  refine sw E (run_assignC rfl) fun fr E => ?_
  refine seq_nil' ?_
  refine code_region ?_
  refine mv E fun fr E => ?_
  refine sw (v := .bool true) E (tst rfl (decide_eq_true h)) fun fr E => ?_
  refine mv E fun fr E => ?_
  refine mv E fun fr E => ?_
  refine sw (v := .bool _) E (rfl) fun fr E => ?_
  refine sw (v := .bool _) E (rfl) fun fr E => ?_
  refine ma E fun fr E => ?_
  refine seq_nil' ?_
  refine wp_ret ?_
  refine ret1 E rfl rfl ?_
  exact given M

set_option maxRecDepth 100000 in
theorem nwithin_2 {n : Int} {w0 : World} (h : ¬ 0 ≤ n) : Gives Tryz.prog 137 [.int .i64 n] w0 (.bool false) := by
  refine enter (n := 9) Tryz.func137 rfl rfl rfl ?_
  intro fr E
  have M : Mem w0 (feet []) [] (fun _ => True) w0 := Mem.begin (Has.nil w0) (fun _ _ => trivial)
  refine code_region ?_
  refine sw E (run_assignC rfl) fun fr E => ?_
  refine seq_nil' ?_
  refine code_region ?_
  refine mv E fun fr E => ?_
  refine sw (v := .bool false) E (tst rfl (decide_eq_false h)) fun fr E => ?_
  refine mv E fun fr E => ?_
  refine sno E rfl rfl rfl rfl fun fr E => ?_
  refine sno E rfl rfl rfl rfl fun fr E => ?_
  refine sw (v := .bool _) E (rfl) fun fr E => ?_
  refine ma E fun fr E => ?_
  refine seq_nil' ?_
  refine wp_ret ?_
  refine ret1 E rfl rfl ?_
  exact given M

theorem nwithin_x (n : Int) (w0 : World) : Gives Tryz.prog 137 [.int .i64 n] w0 (.bool (decide (0 ≤ n ∧ n ≤ 1099511627776))) := by
  by_cases h : 0 ≤ n
  · have e : decide (0 ≤ n ∧ n ≤ 1099511627776) = decide (n ≤ 1099511627776) := by simp [h]
    rw [e]; exact nwithin_1 h
  · have e : decide (0 ≤ n ∧ n ≤ 1099511627776) = false := by simp [h]
    rw [e]; exact nwithin_2 h


set_option maxRecDepth 100000 in
theorem at_x {r : Rec} (hr : r.Ok) (w0 : World) : Gives Tryz.prog 60 [r.val] w0 (.int .i64 (1 + r.gen.tmod 2)) := by
  refine enter (n := 7) Tryz.func60 rfl rfl rfl ?_
  intro fr E
  have M : Mem w0 (feet []) [] (fun _ => True) w0 := Mem.begin (Has.nil w0) (fun _ _ => trivial)
  refine code_region ?_
  refine snew (ob := .cells (r.cells.toArray) 62) (fun g => .pointer (some ⟨g, 0, none⟩)) E M rfl rfl rfl rfl rfl (run_boxN (cs := (r.cells.toArray)) rfl rfl) fun g0 fr w M E => ?_
  refine sw E (run_assignC rfl) fun fr E => ?_
  refine seq_nil' ?_
  refine code_region ?_
  refine sw (v := .pointer (some ⟨_, 0, none⟩)) E (run_fieldAddr rfl rfl T.fld62_0) fun fr E => ?_
  refine sw (v := .int .i64 _) E (run_loadB rfl rfl T.one3 (M.row (i := 0) rfl) Rec.c_gen) fun fr E => ?_
  refine sw (v := .int _ (r.gen.tmod 2)) E (num rfl (rfl)) fun fr E => ?_
  refine sw (v := .int _ (1 + r.gen.tmod 2)) E (num rfl (i64_id (by have := Int.tmod_lt_of_pos r.gen (show (0 : Int) < 2 by decide); have := tmod_gt r.gen; omega) (by have := Int.tmod_lt_of_pos r.gen (show (0 : Int) < 2 by decide); omega))) fun fr E => ?_
  refine ma E fun fr E => ?_
  refine seq_nil' ?_
  refine wp_ret ?_
  refine ret1 E rfl rfl ?_
  exact given M

set_option maxRecDepth 100000 in
theorem nnumber_x (v : Int) (w0 : World) : Does Tryz.prog 136 [.int .i64 v] w0 [] (fun s : Value => s) (fun s => [.bytes 5 s (be8 v)]) (fun _ => True) := by
  refine enter (n := 23) Tryz.func136 rfl rfl rfl ?_
  intro fr E
  have M : Mem w0 (feet []) [] (fun _ => True) w0 := Mem.begin (Has.nil w0) (fun _ _ => trivial)
  refine code_region ?_
  refine sw E (run_assignC rfl) fun fr E => ?_
  refine seq_nil' ?_
  refine code_region ?_
  refine smakeB (k := 8) (c := 8) E M rfl rfl rfl rfl rfl rfl rfl rfl (rfl) (rfl) T.slice36 T.zt5 T.zc5 T.by5 (Nat.le_refl _) (by decide) fun o fr w M E => ?_
  refine ma E fun fr E => ?_
  refine seq_nil' ?_
  refine wp_seq ?_
  refine code_region ?_
  refine mv E fun fr E => ?_
  refine sw (v := .int .i64 _) E (run_lenR rfl rfl rfl rfl T.slice36 (M.reads 0 rfl)) fun fr E => ?_
  refine sw E (run_moveC rfl) fun fr E => ?_
  refine seq_nil' ?_
  refine wp_block ?_
  refine loop_dec (fun d fr w => ∃ i : Nat, d = 8 - i ∧ i ≤ 8 ∧ Env [(8, .int .i64 i), (7, .int .i64 8), (6, o), (3, o), (0, .int .i64 v)] 23 fr ∧ Mem w0 (feet []) [.bytes 5 o ((be8 v).take i ++ List.replicate (8 - i) 0)] (fun _ => True) w) (8) ?_ ?_
  · refine ⟨0, rfl, by omega, (((((Env.nil E).add E (t := 0) rfl).add E (t := 3) rfl).add E (t := 6) rfl).add E (t := 7) rfl).add E (t := 8) rfl, M.as (by simp)⟩
  · clear E M
    rintro d fr w ⟨i, hd, hle, E, M⟩
    have hX : ((be8 v).take i ++ List.replicate (8 - i) 0).length = 8 := by rw [List.length_append, List.length_take, List.length_replicate, be8_len]; omega
    by_cases hi : i < 8
    · refine code_region ?_
      refine sw (v := .bool true) E (tst rfl (decide_eq_true (by omega))) fun fr E => ?_
      refine seq_nil' ?_
      refine wp_seq ?_
      refine cond_true E rfl (rfl) ?_
      refine wp_skip ?_
      refine then_normal ?_
      refine wp_seq ?_
      refine wp_block ?_
      refine code_region ?_
      refine mv E fun fr E => ?_
      refine ma E fun fr E => ?_
      refine seq_nil' ?_
      refine code_last ?_
      refine mv E fun fr E => ?_
      refine mv E fun fr E => ?_
      refine mv E fun fr E => ?_
      refine sw (v := .int _ (IntKind.u64.wrap v)) E (num rfl (rfl)) fun fr E => ?_
      refine mv E fun fr E => ?_
      refine sw (v := .int _ (((8 - i : Nat) : Int) - 1)) E (num rfl ((i64_id (by omega) (by omega)).trans (by omega))) fun fr E => ?_
      refine sw (v := .int _ (8 * (((8 - i : Nat) : Int) - 1))) E (num rfl (i64_id (by omega) (by omega))) fun fr E => ?_
      refine sw (v := .int .u64 _) E (run_shrV rfl rfl rfl (by omega) rfl) fun fr E => ?_
      refine sw (v := .int _ ((((be8 v)[8 - (8 - i)]'(by rw [be8_len]; omega)).toNat : Int))) E (num rfl (ref_byte v (by omega) (by omega))) fun fr E => ?_
      refine sw E (run_indexR (i := i) rfl (M.reads 0 rfl) rfl rfl (rfl) ((by omega)) T.slice36 T.size5) fun fr E => ?_
      refine ssetB (i := 0) (k := i) (b := (be8 v)[8 - (8 - i)]'(by rw [be8_len]; omega)) E M rfl rfl rfl rfl rfl rfl rfl rfl (rfl) T.size5 (by omega) fun fr w M E => ?_
      refine seq_nil ?_
      refine block_normal ?_
      refine then_normal ?_
      refine code_last ?_
      refine sw (v := .int _ (((i + 1 : Nat) : Int))) E (num rfl ((i64_id (by omega) (by omega)).trans (by omega))) fun fr E => ?_
      refine mv E fun fr E => ?_
      refine seq_nil ?_
      refine then_any ?_
      refine ⟨8 - (i + 1), by omega, i + 1, rfl, by omega, (((((Env.nil E).add E (t := 0) rfl).add E (t := 3) rfl).add E (t := 6) rfl).add E (t := 7) rfl).add E (t := 8) rfl, M.as ?_⟩
      refine congrArg (fun x => [Ent.bytes 5 o x]) ?_
      exact fill_step (F := be8 v) hi (be8_len v) (by congr 1; omega)
    · obtain rfl : i = 8 := by omega
      refine code_region ?_
      refine sw (v := .bool false) E (tst rfl (rfl)) fun fr E => ?_
      refine seq_nil' ?_
      refine wp_seq ?_
      refine cond_false E rfl (rfl) ?_
      refine wp_exit ?_
      refine then_exit ?_
      refine then_exit ?_
      refine block_exit ?_
      refine then_normal ?_
      refine code_region ?_
      refine mv E fun fr E => ?_
      refine ma E fun fr E => ?_
      refine seq_nil' ?_
      refine wp_ret ?_
      refine ret1 E rfl rfl ?_
      exact ⟨_, rfl, M.fin (.refl _) trivial⟩

set_option maxRecDepth 100000 in
theorem Clone_nil (w0 : World) : Does Tryz.prog 32 [.slice none 0 0] w0 [] (fun s : Value => s) (fun s => [.bytes 5 s []]) (fun _ => True) := by
  refine enter (n := 8) Tryz.func32 rfl rfl rfl ?_
  intro fr E
  have M : Mem w0 (feet []) [] (fun _ => True) w0 := Mem.begin (Has.nil w0) (fun _ _ => trivial)
  refine code_region ?_
  refine sw E (run_assignC rfl) fun fr E => ?_
  refine seq_nil' ?_
  refine wp_seq ?_
  refine code_region ?_
  refine mv E fun fr E => ?_
  refine sw (v := .bool true) E (run_sliceNil rfl rfl rfl T.slice36 rfl) fun fr E => ?_
  refine seq_nil' ?_
  refine cond_true E rfl (rfl) ?_
  refine code_region ?_
  refine sw E (run_assignC rfl) fun fr E => ?_
  refine seq_nil' ?_
  refine wp_ret ?_
  refine then_ret ?_
  refine ret1 E rfl rfl ?_
  have M := M.nilRow 5
  exact ⟨_, rfl, M.fin (.refl _) trivial⟩

set_option maxRecDepth 100000 in
theorem Clone_some {g off c : Nat} {l : List UInt8} {w0 : World} (hb : Bytes w0 (.slice (some ⟨g, off, none⟩) l.length c) l) (hz : l.length ≤ 35184372088832) : Does Tryz.prog 32 [.slice (some ⟨g, off, none⟩) l.length c] w0 [] (fun s : Value => s) (fun s => [.bytes 5 s l]) (fun _ => True) := by
  refine enter (n := 8) Tryz.func32 rfl rfl rfl ?_
  intro fr E
  have M : Mem w0 (feet []) [] (fun w' => Bytes w' (.slice (some ⟨g, off, none⟩) l.length c) l) w0 := Mem.begin (Has.nil w0) (fun w' h => hb.held0 h)
  refine code_region ?_
  refine sw E (run_assignC rfl) fun fr E => ?_
  refine seq_nil' ?_
  refine wp_seq ?_
  refine code_region ?_
  refine mv E fun fr E => ?_
  refine sw (v := .bool false) E (run_sliceNil rfl rfl rfl T.slice36 rfl) fun fr E => ?_
  refine seq_nil' ?_
  refine cond_false E rfl (rfl) ?_
  refine wp_skip ?_
  refine then_normal ?_
  refine code_region ?_
  refine srow (sz := 1) (xs := bc []) E M rfl rfl rfl rfl rfl (run_buildSlice0 rfl T.slice36 rfl) (rfl) (Nat.le_refl _) (by decide) (rfl) fun o fr w M E => ?_
  refine mv E fun fr E => ?_
  refine sappB (i := 0) E M rfl rfl rfl rfl rfl rfl rfl rfl rfl rfl rfl T.slice36 T.slice36 T.zt5 T.by5 M.fact (by simp; omega) fun o fr w M E => ?_
  refine ma E fun fr E => ?_
  refine seq_nil' ?_
  refine wp_ret ?_
  refine ret1 E rfl rfl ?_
  have M := M.as (L' := [.bytes 5 o l]) (by simp)
  exact ⟨_, rfl, M.fin (.refl _) trivial⟩

theorem Clone_x {b : Value} {l : List UInt8} {w0 : World} (hb : Bytes w0 b l) (hz : l.length ≤ 35184372088832) : Does Tryz.prog 32 [b] w0 [] (fun s : Value => s) (fun s => [.bytes 5 s l]) (fun _ => True) := by
  rcases hb.2 with ⟨rfl, h⟩ | ⟨g, off, c, rfl, _⟩
  · have e : l = [] := List.eq_nil_of_length_eq_zero h
    subst e
    exact Clone_nil w0
  · exact Clone_some hb hz
end Go.Proofs.YtnebjbgcibjohaaGreat.K
end
section
namespace Go.Proofs.YtnebjbgcibjohaaGreat.K
open Go.RowKit Go.Rill Go.Proofs
set_option linter.unusedVariables false
set_option linter.unusedSimpArgs false
def mn3 (x y z : Int) : Int := if z < (if y < x then y else x) then z else (if y < x then y else x)
def mx2 (x y : Int) : Int := if y > x then y else x
set_option maxRecDepth 100000 in
theorem Equal_ne {a b : Value} {l k : List UInt8} {w0 : World} (ha : Bytes w0 a l) (hb : Bytes w0 b k) (hn : l.length ≠ k.length) : Gives Tryz.prog 134 [a, b] w0 (.bool false) := by
  refine enter (n := 26) Tryz.func134 rfl rfl rfl ?_
  intro fr E
  have M : Mem w0 (feet []) [] (fun w' => Bytes w' a l ∧ Bytes w' b k) w0 := Mem.begin (Has.nil w0) (fun w' h => ⟨ha.held0 h, hb.held0 h⟩)
  refine code_region ?_
  refine sw E (run_assignC rfl) fun fr E => ?_
  refine seq_nil' ?_
  refine wp_seq ?_
  refine code_region ?_
  refine mv E fun fr E => ?_
  refine sw (v := .int .i64 _) E (run_lenR rfl rfl rfl rfl T.slice36 M.fact.1) fun fr E => ?_
  refine mv E fun fr E => ?_
  refine sw (v := .int .i64 _) E (run_lenR rfl rfl rfl rfl T.slice36 M.fact.2) fun fr E => ?_
  refine sw (v := .bool true) E (tst rfl (by simp <;> omega)) fun fr E => ?_
  refine seq_nil' ?_
  refine cond_true E rfl (rfl) ?_
  refine code_region ?_
  refine sw E (run_assignC rfl) fun fr E => ?_
  refine seq_nil' ?_
  refine wp_ret ?_
  refine then_ret ?_
  refine ret1 E rfl rfl ?_
  exact given M

set_option maxRecDepth 100000 in
theorem Equal_eq {a b : Value} {l k : List UInt8} {w0 : World} (ha : Bytes w0 a l) (hb : Bytes w0 b k) (hl : l.length = k.length) (hz : l.length ≤ 35184372088832) : Gives Tryz.prog 134 [a, b] w0 (.bool (decide (l = k))) := by
  refine enter (n := 26) Tryz.func134 rfl rfl rfl ?_
  intro fr E
  have M : Mem w0 (feet []) [] (fun w' => Bytes w' a l ∧ Bytes w' b k) w0 := Mem.begin (Has.nil w0) (fun w' h => ⟨ha.held0 h, hb.held0 h⟩)
  refine code_region ?_
  refine sw E (run_assignC rfl) fun fr E => ?_
  refine seq_nil' ?_
  refine wp_seq ?_
  refine code_region ?_
  refine mv E fun fr E => ?_
  refine sw (v := .int .i64 _) E (run_lenR rfl rfl rfl rfl T.slice36 M.fact.1) fun fr E => ?_
  refine mv E fun fr E => ?_
  refine sw (v := .int .i64 _) E (run_lenR rfl rfl rfl rfl T.slice36 M.fact.2) fun fr E => ?_
  refine sw (v := .bool false) E (tst rfl (by simp <;> omega)) fun fr E => ?_
  refine seq_nil' ?_
  refine cond_false E rfl (rfl) ?_
  refine wp_skip ?_
  refine then_normal ?_
  refine wp_seq ?_
  refine code_region ?_
  refine mv E fun fr E => ?_
  refine sw (v := .int .i64 _) E (run_lenR rfl rfl rfl rfl T.slice36 M.fact.1) fun fr E => ?_
  refine sw E (run_moveC rfl) fun fr E => ?_
  refine seq_nil' ?_
  refine wp_block ?_
  refine loop_dec (fun d fr w => ∃ i : Nat, d = l.length - i ∧ i ≤ l.length ∧ (∀ j, j < i → l[j]? = k[j]?) ∧ Env [(13, .int .i64 i), (12, .int .i64 l.length), (1, b), (0, a)] 26 fr ∧ Mem w0 (feet []) [] (fun w' => Bytes w' a l ∧ Bytes w' b k) w) (l.length) ?_ ?_
  · refine ⟨0, rfl, Nat.zero_le _, fun j hj => absurd hj (by omega), ((((Env.nil E).add E (t := 0) rfl).add E (t := 1) rfl).add E (t := 12) rfl).add E (t := 13) rfl, M⟩
  · clear E M
    rintro d fr w ⟨i, rfl, hle, heq, E, M⟩
    by_cases hi : i < l.length
    · by_cases hc : l[i] = k[i]'(hl ▸ hi)
      · refine code_region ?_
        refine sw (v := .bool true) E (tst rfl (decide_eq_true (by omega))) fun fr E => ?_
        refine seq_nil' ?_
        refine wp_seq ?_
        refine cond_true E rfl (rfl) ?_
        refine wp_skip ?_
        refine then_normal ?_
        refine wp_seq ?_
        refine wp_block ?_
        refine code_region ?_
        refine mv E fun fr E => ?_
        refine ma E fun fr E => ?_
        refine seq_nil' ?_
        refine wp_seq (free_reg (B := T.tab134_6_b) (Vs := (.exact _ :: .exact _ :: .exact (cellAt a (i * 1)) :: .exact (.int .u8 ((l[i]).toNat : Int)) :: .exact _ :: .exact _ :: .exact (cellAt b (i * 1)) :: .exact (.int .u8 ((k[i]'(hl ▸ hi)).toNat : Int)) :: .exact (.bool false) :: [])) T.tab134_6_i E T.mixed T.tab134_6 rfl (AllS.lasts ⟨trivial, trivial, trivial, trivial, trivial, trivial, trivial, trivial, trivial, trivial⟩) ⟨fv rfl rfl (fun x w hx hk => run_move rfl rfl),
      fv rfl rfl (fun x w hx hk => run_move rfl rfl),
      fv rfl rfl (fun x w hx hk => run_indexR (i := i) rfl (M.ext ((Ext.drew _).trans hx)).fact.1 rfl rfl (rfl) (hi) T.slice36 T.size5),
      fv rfl rfl (fun x w hx hk => run_loadR rfl (M.ext ((Ext.drew _).trans hx)).fact.1 rfl T.one5 (by rw [Nat.mul_one]; exact bc_get hi)),
      fv rfl rfl (fun x w hx hk => run_move rfl rfl),
      fv rfl rfl (fun x w hx hk => run_move rfl rfl),
      fv rfl rfl (fun x w hx hk => run_indexR (i := i) rfl (M.ext ((Ext.drew _).trans hx)).fact.2 rfl rfl (rfl) ((by omega)) T.slice36 T.size5),
      fv rfl rfl (fun x w hx hk => run_loadR rfl (M.ext ((Ext.drew _).trans hx)).fact.2 rfl T.one5 (by rw [Nat.mul_one]; exact bc_get (l := k) (by omega))),
      fv rfl rfl (fun x w hx hk => tst rfl (by simp [hc])), trivial⟩ ?_)
        intro x fr w hx hk E
        have M := M.ext hx
        refine then_normal ?_
        refine cond_false E rfl (rfl) ?_
        refine wp_skip ?_
        refine block_normal ?_
        refine then_normal ?_
        refine code_last ?_
        refine sw (v := .int _ (((i + 1 : Nat) : Int))) E (num rfl ((i64_id (by omega) (by omega)).trans (by omega))) fun fr E => ?_
        refine mv E fun fr E => ?_
        refine seq_nil ?_
        refine then_any ?_
        refine ⟨l.length - (i + 1), by omega, i + 1, rfl, by omega, fun j hj => ?_, ((((Env.nil E).add E (t := 0) rfl).add E (t := 1) rfl).add E (t := 12) rfl).add E (t := 13) rfl, M⟩
        rcases Nat.lt_or_eq_of_le (Nat.le_of_lt_succ hj) with h | rfl
        · exact heq j h
        · rw [List.getElem?_eq_getElem hi, List.getElem?_eq_getElem (hl ▸ hi), hc]
      · refine code_region ?_
        refine sw (v := .bool true) E (tst rfl (decide_eq_true (by omega))) fun fr E => ?_
        refine seq_nil' ?_
        refine wp_seq ?_
        refine cond_true E rfl (rfl) ?_
        refine wp_skip ?_
        refine then_normal ?_
        refine wp_seq ?_
        refine wp_block ?_
        refine code_region ?_
        refine mv E fun fr E => ?_
        refine ma E fun fr E => ?_
        refine seq_nil' ?_
        refine wp_seq (free_reg (B := T.tab134_6_b) (Vs := (.exact _ :: .exact _ :: .exact (cellAt a (i * 1)) :: .exact (.int .u8 ((l[i]).toNat : Int)) :: .exact _ :: .exact _ :: .exact (cellAt b (i * 1)) :: .exact (.int .u8 ((k[i]'(hl ▸ hi)).toNat : Int)) :: .exact (.bool true) :: [])) T.tab134_6_i E T.mixed T.tab134_6 rfl (AllS.lasts ⟨trivial, trivial, trivial, trivial, trivial, trivial, trivial, trivial, trivial, trivial⟩) ⟨fv rfl rfl (fun x w hx hk => run_move rfl rfl),
      fv rfl rfl (fun x w hx hk => run_move rfl rfl),
      fv rfl rfl (fun x w hx hk => run_indexR (i := i) rfl (M.ext ((Ext.drew _).trans hx)).fact.1 rfl rfl (rfl) (hi) T.slice36 T.size5),
      fv rfl rfl (fun x w hx hk => run_loadR rfl (M.ext ((Ext.drew _).trans hx)).fact.1 rfl T.one5 (by rw [Nat.mul_one]; exact bc_get hi)),
      fv rfl rfl (fun x w hx hk => run_move rfl rfl),
      fv rfl rfl (fun x w hx hk => run_move rfl rfl),
      fv rfl rfl (fun x w hx hk => run_indexR (i := i) rfl (M.ext ((Ext.drew _).trans hx)).fact.2 rfl rfl (rfl) ((by omega)) T.slice36 T.size5),
      fv rfl rfl (fun x w hx hk => run_loadR rfl (M.ext ((Ext.drew _).trans hx)).fact.2 rfl T.one5 (by rw [Nat.mul_one]; exact bc_get (l := k) (by omega))),
      fv rfl rfl (fun x w hx hk => tst rfl (by simp; exact fun h => hc (UInt8.toNat_inj.1 (Int.ofNat_inj.1 h)))), trivial⟩ ?_)
        intro x fr w hx hk E
        have M := M.ext hx
        refine then_normal ?_
        refine cond_true E rfl (rfl) ?_
        refine code_region ?_
        refine sw E (run_assignC rfl) fun fr E => ?_
        refine seq_nil' ?_
        refine wp_ret ?_
        refine block_ret ?_
        refine then_ret ?_
        refine then_ret ?_
        refine block_ret ?_
        refine then_ret ?_
        refine ret1 E rfl rfl ?_
        have e : decide (l = k) = false := decide_eq_false (fun h => hc (by subst h; rfl))
        rw [e]
        exact given M
    · refine code_region ?_
      refine sw (v := .bool false) E (tst rfl (decide_eq_false (by omega))) fun fr E => ?_
      refine seq_nil' ?_
      refine wp_seq ?_
      refine cond_false E rfl (rfl) ?_
      refine wp_exit ?_
      refine then_exit ?_
      refine then_exit ?_
      refine block_exit ?_
      refine then_normal ?_
      refine code_region ?_
      refine sw E (run_assignC rfl) fun fr E => ?_
      refine seq_nil' ?_
      refine wp_ret ?_
      refine ret1 E rfl rfl ?_
      have e : decide (l = k) = true := decide_eq_true (List.ext_getElem? fun j => by by_cases hj : j < i; exact heq j hj; rw [List.getElem?_eq_none (by omega), List.getElem?_eq_none (by omega)])
      rw [e]
      exact given M

theorem Equal_x {a b : Value} {l k : List UInt8} {w0 : World} (ha : Bytes w0 a l) (hb : Bytes w0 b k) (hz : l.length ≤ 35184372088832) : Gives Tryz.prog 134 [a, b] w0 (.bool (decide (l = k))) := by
  by_cases hl : l.length = k.length
  · exact Equal_eq ha hb hl hz
  · rw [decide_eq_false (fun h => hl (by rw [h]))]; exact Equal_ne ha hb hl

set_option maxRecDepth 100000 in
theorem head_x (k n : Int) (w0 : World) : Does Tryz.prog 68 [.int .i64 k, .int .i64 n] w0 [] (fun s : Value => s) (fun s => [.bytes 5 s ([UInt8.ofInt k] ++ be8 n)]) (fun _ => True) := by
  refine enter (n := 10) Tryz.func68 rfl rfl rfl ?_
  intro fr E
  have M : Mem w0 (feet []) [] (fun _ => True) w0 := Mem.begin (Has.nil w0) (fun _ _ => trivial)
  refine code_region ?_
  refine sw E (run_assignC rfl) fun fr E => ?_
  refine seq_nil' ?_
  refine code_region ?_
  refine mv E fun fr E => ?_
  refine sw (v := .int _ (((UInt8.ofInt k).toNat : Int))) E (num rfl ((ofInt_toNat k).symm)) fun fr E => ?_
  refine srow (sz := 1) (xs := bc [UInt8.ofInt k]) E M rfl rfl rfl rfl rfl (run_buildSliceA (us := [_]) (vs := [_]) rfl rfl rfl T.slice36 T.size5 T.zl5 rfl rfl rfl rfl rfl) (rfl) (Nat.le_refl _) (by decide) (rfl) fun t fr w M E => ?_
  refine mv E fun fr E => ?_
  refine scall E M rfl rfl rfl rfl rfl (run_call rfl rfl T.fn72) (Int_x n (M.reads 0 rfl : Bytes _ _ [UInt8.ofInt k]) (by simp)) rfl ?_
  rintro r fr w - M E
  refine ma E fun fr E => ?_
  refine seq_nil' ?_
  refine wp_ret ?_
  refine ret1 E rfl rfl ?_
  exact ⟨_, rfl, M.fin (sub1 (i := 0) rfl) trivial⟩

set_option maxRecDepth 100000 in
theorem Kind_short {b : Value} {l : List UInt8} {w0 : World} (hb : Bytes w0 b l) (hz : l.length ≤ 35184372088832) (h1 : l.length < 17) : Gives Tryz.prog 64 [b] w0 (.int .i64 0) := by
  refine enter (n := 22) Tryz.func64 rfl rfl rfl ?_
  intro fr E
  have M : Mem w0 (feet []) [] (fun w' => Bytes w' b l) w0 := Mem.begin (Has.nil w0) (fun w' h => hb.held0 h)
  refine code_region ?_
  refine sw E (run_assignC rfl) fun fr E => ?_
  refine seq_nil' ?_
  refine wp_seq ?_
  refine code_region ?_
  refine mv E fun fr E => ?_
  refine sw (v := .int .i64 _) E (run_lenR rfl rfl rfl rfl T.slice36 M.fact) fun fr E => ?_
  refine sw (v := .bool true) E (tst rfl (decide_eq_true (by omega))) fun fr E => ?_
  refine mv E fun fr E => ?_
  refine sno E rfl rfl rfl rfl fun fr E => ?_
  refine sno E rfl rfl rfl rfl fun fr E => ?_
  refine sno E rfl rfl rfl rfl fun fr E => ?_
  refine sno E rfl rfl rfl rfl fun fr E => ?_
  refine sw (v := .bool _) E (rfl) fun fr E => ?_
  refine mv E fun fr E => ?_
  refine sno E rfl rfl rfl rfl fun fr E => ?_
  refine sno E rfl rfl rfl rfl fun fr E => ?_
  refine sno E rfl rfl rfl rfl fun fr E => ?_
  refine sno E rfl rfl rfl rfl fun fr E => ?_
  refine sw (v := .bool _) E (rfl) fun fr E => ?_
  refine seq_nil' ?_
  refine cond_true E rfl (rfl) ?_
  refine code_region ?_
  refine sw E (run_assignC rfl) fun fr E => ?_
  refine seq_nil' ?_
  refine wp_ret ?_
  refine then_ret ?_
  refine ret1 E rfl rfl ?_
  exact given M

set_option maxRecDepth 100000 in
theorem Kind_low {b : Value} {l : List UInt8} {w0 : World} (hb : Bytes w0 b l) (hz : l.length ≤ 35184372088832) (h1 : 17 ≤ l.length) (h2 : (l[0]'(by omega)).toNat < 1) : Gives Tryz.prog 64 [b] w0 (.int .i64 0) := by
  refine enter (n := 22) Tryz.func64 rfl rfl rfl ?_
  intro fr E
  have M : Mem w0 (feet []) [] (fun w' => Bytes w' b l) w0 := Mem.begin (Has.nil w0) (fun w' h => hb.held0 h)
  refine code_region ?_
  refine sw E (run_assignC rfl) fun fr E => ?_
  refine seq_nil' ?_
  refine wp_seq ?_
  refine code_region ?_
  refine mv E fun fr E => ?_
  refine sw (v := .int .i64 _) E (run_lenR rfl rfl rfl rfl T.slice36 M.fact) fun fr E => ?_
  refine sw (v := .bool false) E (tst rfl (decide_eq_false (by omega))) fun fr E => ?_
  refine mv E fun fr E => ?_
  refine mv E fun fr E => ?_
  refine sw E (run_indexR (i := 0) rfl M.fact rfl rfl (rfl) ((by omega)) T.slice36 T.size5) fun fr E => ?_
  refine sw (v := .int .u8 ((l[0]'(by omega)).toNat : Int)) E (run_loadR rfl M.fact rfl T.one5 (by rw [Nat.mul_one]; exact bc_get (by omega))) fun fr E => ?_
  refine sw (v := .bool true) E (tst rfl (decide_eq_true (by omega))) fun fr E => ?_
  refine sw (v := .bool _) E (rfl) fun fr E => ?_
  refine mv E fun fr E => ?_
  refine sno E rfl rfl rfl rfl fun fr E => ?_
  refine sno E rfl rfl rfl rfl fun fr E => ?_
  refine sno E rfl rfl rfl rfl fun fr E => ?_
  refine sno E rfl rfl rfl rfl fun fr E => ?_
  refine sw (v := .bool _) E (rfl) fun fr E => ?_
  refine seq_nil' ?_
  refine cond_true E rfl (rfl) ?_
  refine code_region ?_
  refine sw E (run_assignC rfl) fun fr E => ?_
  refine seq_nil' ?_
  refine wp_ret ?_
  refine then_ret ?_
  refine ret1 E rfl rfl ?_
  exact given M

set_option maxRecDepth 100000 in
theorem Kind_high {b : Value} {l : List UInt8} {w0 : World} (hb : Bytes w0 b l) (hz : l.length ≤ 35184372088832) (h1 : 17 ≤ l.length) (h2 : ¬ (l[0]'(by omega)).toNat < 1) (h3 : 5 < (l[0]'(by omega)).toNat) : Gives Tryz.prog 64 [b] w0 (.int .i64 0) := by
  refine enter (n := 22) Tryz.func64 rfl rfl rfl ?_
  intro fr E
  have M : Mem w0 (feet []) [] (fun w' => Bytes w' b l) w0 := Mem.begin (Has.nil w0) (fun w' h => hb.held0 h)
  refine code_region ?_
  refine sw E (run_assignC rfl) fun fr E => ?_
  refine seq_nil' ?_
  refine wp_seq ?_
  refine code_region ?_
  refine mv E fun fr E => ?_
  refine sw (v := .int .i64 _) E (run_lenR rfl rfl rfl rfl T.slice36 M.fact) fun fr E => ?_
  refine sw (v := .bool false) E (tst rfl (decide_eq_false (by omega))) fun fr E => ?_
  refine mv E fun fr E => ?_
  refine mv E fun fr E => ?_
  refine sw E (run_indexR (i := 0) rfl M.fact rfl rfl (rfl) ((by omega)) T.slice36 T.size5) fun fr E => ?_
  refine sw (v := .int .u8 ((l[0]'(by omega)).toNat : Int)) E (run_loadR rfl M.fact rfl T.one5 (by rw [Nat.mul_one]; exact bc_get (by omega))) fun fr E => ?_
  refine sw (v := .bool false) E (tst rfl (decide_eq_false (by omega))) fun fr E => ?_
  refine sw (v := .bool _) E (rfl) fun fr E => ?_
  refine mv E fun fr E => ?_
  refine mv E fun fr E => ?_
  refine sw E (run_indexR (i := 0) rfl M.fact rfl rfl (rfl) ((by omega)) T.slice36 T.size5) fun fr E => ?_
  refine sw (v := .int .u8 ((l[0]'(by omega)).toNat : Int)) E (run_loadR rfl M.fact rfl T.one5 (by rw [Nat.mul_one]; exact bc_get (by omega))) fun fr E => ?_
  refine sw (v := .bool true) E (tst rfl (decide_eq_true (by omega))) fun fr E => ?_
  refine sw (v := .bool _) E (rfl) fun fr E => ?_
  refine seq_nil' ?_
  refine cond_true E rfl (rfl) ?_
  refine code_region ?_
  refine sw E (run_assignC rfl) fun fr E => ?_
  refine seq_nil' ?_
  refine wp_ret ?_
  refine then_ret ?_
  refine ret1 E rfl rfl ?_
  exact given M

set_option maxRecDepth 100000 in
theorem Kind_ok {b : Value} {l : List UInt8} {w0 : World} (hb : Bytes w0 b l) (hz : l.length ≤ 35184372088832) (h1 : 17 ≤ l.length) (h2 : ¬ (l[0]'(by omega)).toNat < 1) (h3 : ¬ 5 < (l[0]'(by omega)).toNat) : Gives Tryz.prog 64 [b] w0 (.int .i64 ((l[0]'(by omega)).toNat : Int)) := by
  refine enter (n := 22) Tryz.func64 rfl rfl rfl ?_
  intro fr E
  have M : Mem w0 (feet []) [] (fun w' => Bytes w' b l) w0 := Mem.begin (Has.nil w0) (fun w' h => hb.held0 h)
  refine code_region ?_
  refine sw E (run_assignC rfl) fun fr E => ?_
  refine seq_nil' ?_
  refine wp_seq ?_
  refine code_region ?_
  refine mv E fun fr E => ?_
  refine sw (v := .int .i64 _) E (run_lenR rfl rfl rfl rfl T.slice36 M.fact) fun fr E => ?_
  refine sw (v := .bool false) E (tst rfl (decide_eq_false (by omega))) fun fr E => ?_
  refine mv E fun fr E => ?_
  refine mv E fun fr E => ?_
  refine sw E (run_indexR (i := 0) rfl M.fact rfl rfl (rfl) ((by omega)) T.slice36 T.size5) fun fr E => ?_
  refine sw (v := .int .u8 ((l[0]'(by omega)).toNat : Int)) E (run_loadR rfl M.fact rfl T.one5 (by rw [Nat.mul_one]; exact bc_get (by omega))) fun fr E => ?_
  refine sw (v := .bool false) E (tst rfl (decide_eq_false (by omega))) fun fr E => ?_
  refine sw (v := .bool _) E (rfl) fun fr E => ?_
  refine mv E fun fr E => ?_
  refine mv E fun fr E => ?_
  refine sw E (run_indexR (i := 0) rfl M.fact rfl rfl (rfl) ((by omega)) T.slice36 T.size5) fun fr E => ?_
  refine sw (v := .int .u8 ((l[0]'(by omega)).toNat : Int)) E (run_loadR rfl M.fact rfl T.one5 (by rw [Nat.mul_one]; exact bc_get (by omega))) fun fr E => ?_
  refine sw (v := .bool false) E (tst rfl (decide_eq_false (by omega))) fun fr E => ?_
  refine sw (v := .bool _) E (rfl) fun fr E => ?_
  refine seq_nil' ?_
  refine cond_false E rfl (rfl) ?_
  refine wp_skip ?_
  refine then_normal ?_
  refine code_region ?_
  refine mv E fun fr E => ?_
  refine sw E (run_indexR (i := 0) rfl M.fact rfl rfl (rfl) ((by omega)) T.slice36 T.size5) fun fr E => ?_
  refine sw (v := .int .u8 ((l[0]'(by omega)).toNat : Int)) E (run_loadR rfl M.fact rfl T.one5 (by rw [Nat.mul_one]; exact bc_get (by omega))) fun fr E => ?_
  refine sw (v := .int _ (((l[0]'(by omega)).toNat : Int))) E (num rfl (i64_id (by omega) (by have := (l[0]'(by omega)).toNat_lt; omega))) fun fr E => ?_
  refine ma E fun fr E => ?_
  refine seq_nil' ?_
  refine wp_ret ?_
  refine ret1 E rfl rfl ?_
  exact given M

set_option maxRecDepth 100000 in
theorem right_neg {e n a : Int} {w0 : World} (h1 : ¬ (0 ≤ e ∧ 0 ≤ n ∧ 0 ≤ a)) : Gives Tryz.prog 67 [.int .i64 e, .int .i64 n, .int .i64 a] w0 (.bool false) := by
  refine enter (n := 22) Tryz.func67 rfl rfl rfl ?_
  intro fr E
  have M : Mem w0 (feet []) [] (fun _ => True) w0 := Mem.begin (Has.nil w0) (fun _ _ => trivial)
  refine code_region ?_
  refine sw E (run_assignC rfl) fun fr E => ?_
  refine seq_nil' ?_
  refine code_region ?_
  refine mv E fun fr E => ?_
  refine mv E fun fr E => ?_
  refine mv E fun fr E => ?_
  refine sw (v := .int .i64 (mn3 e n a)) E (num (run_min3 rfl rfl rfl rfl rfl) rfl) fun fr E => ?_
  refine sw (v := .bool false) E (tst rfl (decide_eq_false (by unfold mn3; (repeat' split) <;> omega))) fun fr E => ?_
  refine mv E fun fr E => ?_
  refine sno E rfl rfl rfl rfl fun fr E => ?_
  refine sno E rfl rfl rfl rfl fun fr E => ?_
  refine sno E rfl rfl rfl rfl fun fr E => ?_
  refine sno E rfl rfl rfl rfl fun fr E => ?_
  refine sw (v := .bool _) E (rfl) fun fr E => ?_
  refine mv E fun fr E => ?_
  refine sno E rfl rfl rfl rfl fun fr E => ?_
  refine sno E rfl rfl rfl rfl fun fr E => ?_
  refine sw (v := .bool _) E (rfl) fun fr E => ?_
  refine ma E fun fr E => ?_
  refine seq_nil' ?_
  refine wp_ret ?_
  refine ret1 E rfl rfl ?_
  exact given M

set_option maxRecDepth 100000 in
theorem right_big {e n a : Int} {w0 : World} (h1 : 0 ≤ e ∧ 0 ≤ n ∧ 0 ≤ a) (h2 : ¬ (e ≤ 1099511627776 ∧ n ≤ 1099511627776)) : Gives Tryz.prog 67 [.int .i64 e, .int .i64 n, .int .i64 a] w0 (.bool false) := by
  refine enter (n := 22) Tryz.func67 rfl rfl rfl ?_
  intro fr E
  have M : Mem w0 (feet []) [] (fun _ => True) w0 := Mem.begin (Has.nil w0) (fun _ _ => trivial)
  refine code_region ?_
  refine sw E (run_assignC rfl) fun fr E => ?_
  refine seq_nil' ?_
  refine code_region ?_
  refine mv E fun fr E => ?_
  refine mv E fun fr E => ?_
  refine mv E fun fr E => ?_
  refine sw (v := .int .i64 (mn3 e n a)) E (num (run_min3 rfl rfl rfl rfl rfl) rfl) fun fr E => ?_
  refine sw (v := .bool true) E (tst rfl (decide_eq_true (by unfold mn3; (repeat' split) <;> omega))) fun fr E => ?_
  refine mv E fun fr E => ?_
  refine mv E fun fr E => ?_
  refine mv E fun fr E => ?_
  refine sw (v := .int .i64 (mx2 e n)) E (num (run_max2 rfl rfl rfl rfl) rfl) fun fr E => ?_
  refine sw (v := .bool false) E (tst rfl (decide_eq_false (by unfold mx2; (repeat' split) <;> omega))) fun fr E => ?_
  refine sw (v := .bool _) E (rfl) fun fr E => ?_
  refine mv E fun fr E => ?_
  refine sno E rfl rfl rfl rfl fun fr E => ?_
  refine sno E rfl rfl rfl rfl fun fr E => ?_
  refine sw (v := .bool _) E (rfl) fun fr E => ?_
  refine ma E fun fr E => ?_
  refine seq_nil' ?_
  refine wp_ret ?_
  refine ret1 E rfl rfl ?_
  exact given M

set_option maxRecDepth 100000 in
theorem right_ok {e n a : Int} {w0 : World} (h1 : 0 ≤ e ∧ 0 ≤ n ∧ 0 ≤ a) (h2 : e ≤ 1099511627776 ∧ n ≤ 1099511627776) : Gives Tryz.prog 67 [.int .i64 e, .int .i64 n, .int .i64 a] w0 (.bool (decide (a < 4096))) := by
  refine enter (n := 22) Tryz.func67 rfl rfl rfl ?_
  intro fr E
  have M : Mem w0 (feet []) [] (fun _ => True) w0 := Mem.begin (Has.nil w0) (fun _ _ => trivial)
  refine code_region ?_
  refine sw E (run_assignC rfl) fun fr E => ?_
  refine seq_nil' ?_
  refine code_region ?_
  refine mv E fun fr E => ?_
  refine mv E fun fr E => ?_
  refine mv E fun fr E => ?_
  refine sw (v := .int .i64 (mn3 e n a)) E (num (run_min3 rfl rfl rfl rfl rfl) rfl) fun fr E => ?_
  refine sw (v := .bool true) E (tst rfl (decide_eq_true (by unfold mn3; (repeat' split) <;> omega))) fun fr E => ?_
  refine mv E fun fr E => ?_
  refine mv E fun fr E => ?_
  refine mv E fun fr E => ?_
  refine sw (v := .int .i64 (mx2 e n)) E (num (run_max2 rfl rfl rfl rfl) rfl) fun fr E => ?_
  refine sw (v := .bool true) E (tst rfl (decide_eq_true (by unfold mx2; (repeat' split) <;> omega))) fun fr E => ?_
  refine sw (v := .bool _) E (rfl) fun fr E => ?_
  refine mv E fun fr E => ?_
  refine mv E fun fr E => ?_
  refine sw (v := .bool _) E (rfl) fun fr E => ?_
  refine sw (v := .bool _) E (rfl) fun fr E => ?_
  refine ma E fun fr E => ?_
  refine seq_nil' ?_
  refine wp_ret ?_
  refine ret1 E rfl rfl ?_
  exact given M

def SRight (e n a : Int) : Prop := (0 ≤ e ∧ 0 ≤ n ∧ 0 ≤ a) ∧ (e ≤ 1099511627776 ∧ n ≤ 1099511627776) ∧ a < 4096
instance (e n a : Int) : Decidable (SRight e n a) := by unfold SRight; infer_instance
theorem right_x (e n a : Int) (w0 : World) : Gives Tryz.prog 67 [.int .i64 e, .int .i64 n, .int .i64 a] w0 (.bool (decide (SRight e n a))) := by
  by_cases h1 : 0 ≤ e ∧ 0 ≤ n ∧ 0 ≤ a
  · by_cases h2 : e ≤ 1099511627776 ∧ n ≤ 1099511627776
    · have e1 : decide (SRight e n a) = decide (a < 4096) := decide_eq_decide.2 ⟨fun h => h.2.2, fun h => ⟨h1, h2, h⟩⟩
      rw [e1]; exact right_ok h1 h2
    · rw [decide_eq_false (fun h => h2 h.2.1)]; exact right_big h1 h2
  · rw [decide_eq_false (fun h => h1 h.1)]; exact right_neg h1
end Go.Proofs.YtnebjbgcibjohaaGreat.K
end

/- Facts on this translation's types and functions. -/
import Derived.Test.YtnojooafgehhaaaProg
import Derived.Test.YtnojooafgehhaaaRR
namespace Go.Rill.T
open Go.Proofs
theorem agg23 : tyAgg Try.prog 23 32 = true := by kernel_rfl
theorem agg25 : tyAgg Try.prog 25 33 = true := by kernel_rfl
theorem agg27 : tyAgg Try.prog 27 2 = true := by kernel_rfl
theorem agg29 : tyAgg Try.prog 29 136 = true := by kernel_rfl
theorem arr23 : tyArr Try.prog 23 5 32 = true := by kernel_rfl
theorem by5 : tyBytes' Try.prog 5 1 = true := by kernel_rfl
theorem flat25 : tyFlat Try.prog 25 ([.i64] ++ List.replicate 32 .u8) = true := by kernel_rfl
theorem flat29 : tyFlat Try.prog 29 ([.i64] ++ [.i64] ++ [.i64] ++ List.replicate 32 .u8 ++ [.i64] ++ List.replicate 32 .u8 ++ [.i64] ++ [.i64] ++ [.i64] ++ [.i64] ++ List.replicate 32 .u8 ++ List.replicate 32 .u8) = true := by kernel_rfl
theorem fld110_0 : tyFld Try.prog 110 0 0 = true := by kernel_rfl
theorem fld110_1 : tyFld Try.prog 110 1 1 = true := by kernel_rfl
theorem fld25_0 : tyFld Try.prog 25 0 0 = true := by kernel_rfl
theorem fld25_1 : tyFld Try.prog 25 1 1 = true := by kernel_rfl
theorem fld27_0 : tyFld Try.prog 27 0 0 = true := by kernel_rfl
theorem fld27_1 : tyFld Try.prog 27 1 1 = true := by kernel_rfl
theorem fld29_0 : tyFld Try.prog 29 0 0 = true := by kernel_rfl
theorem fld29_1 : tyFld Try.prog 29 1 1 = true := by kernel_rfl
theorem fld29_2 : tyFld Try.prog 29 2 2 = true := by kernel_rfl
theorem fld29_3 : tyFld Try.prog 29 3 3 = true := by kernel_rfl
theorem fld29_4 : tyFld Try.prog 29 4 35 = true := by kernel_rfl
theorem fld29_5 : tyFld Try.prog 29 5 68 = true := by kernel_rfl
theorem fld29_6 : tyFld Try.prog 29 6 70 = true := by kernel_rfl
theorem fld29_7 : tyFld Try.prog 29 7 72 = true := by kernel_rfl
theorem fld29_8 : tyFld Try.prog 29 8 104 = true := by kernel_rfl
theorem fn11 : goFn Try.prog 11 = true := by kernel_rfl
theorem fn13 : goFn Try.prog 13 = true := by kernel_rfl
theorem fn15 : goFn Try.prog 15 = true := by kernel_rfl
theorem fn17 : goFn Try.prog 17 = true := by kernel_rfl
theorem fn38 : goFn Try.prog 38 = true := by kernel_rfl
theorem fn39 : goFn Try.prog 39 = true := by kernel_rfl
theorem fn40 : goFn Try.prog 40 = true := by kernel_rfl
theorem fn41 : goFn Try.prog 41 = true := by kernel_rfl
theorem fn42 : goFn Try.prog 42 = true := by kernel_rfl
theorem fn47 : goFn Try.prog 47 = true := by kernel_rfl
theorem fn48 : goFn Try.prog 48 = true := by kernel_rfl
theorem fn49 : goFn Try.prog 49 = true := by kernel_rfl
theorem fn50 : goFn Try.prog 50 = true := by kernel_rfl
theorem fn51 : goFn Try.prog 51 = true := by kernel_rfl
theorem fn71 : goFn Try.prog 71 = true := by kernel_rfl
theorem fn72 : goFn Try.prog 72 = true := by kernel_rfl
theorem fn73 : goFn Try.prog 73 = true := by kernel_rfl
theorem fn74 : goFn Try.prog 74 = true := by kernel_rfl
theorem fn75 : goFn Try.prog 75 = true := by kernel_rfl
theorem fn76 : goFn Try.prog 76 = true := by kernel_rfl
theorem fn79 : goFn Try.prog 79 = true := by kernel_rfl
theorem fn80 : goFn Try.prog 80 = true := by kernel_rfl
theorem fn81 : goFn Try.prog 81 = true := by kernel_rfl
theorem fn82 : goFn Try.prog 82 = true := by kernel_rfl
theorem fn83 : goFn Try.prog 83 = true := by kernel_rfl
theorem fn84 : goFn Try.prog 84 = true := by kernel_rfl
theorem fn93 : goFn Try.prog 93 = true := by kernel_rfl
theorem mixed : Try.prog.follows .mixedOrders = true := by kernel_rfl
theorem one3 : tyOne Try.prog 3 = true := by kernel_rfl
theorem one30 : tyOne Try.prog 30 = true := by kernel_rfl
theorem one4 : tyOne Try.prog 4 = true := by kernel_rfl
theorem one5 : tyOne Try.prog 5 = true := by kernel_rfl
theorem size23 : tySize Try.prog 23 32 = true := by kernel_rfl
theorem size25 : tySize Try.prog 25 33 = true := by kernel_rfl
theorem size27 : tySize Try.prog 27 2 = true := by kernel_rfl
theorem size29 : tySize Try.prog 29 136 = true := by kernel_rfl
theorem size3 : tySize Try.prog 3 1 = true := by kernel_rfl
theorem size30 : tySize Try.prog 30 1 = true := by kernel_rfl
theorem size4 : tySize Try.prog 4 1 = true := by kernel_rfl
theorem size5 : tySize Try.prog 5 1 = true := by kernel_rfl
theorem slice30 : tySlice Try.prog 30 5 = true := by kernel_rfl
theorem slice58 : tySlice Try.prog 58 3 = true := by kernel_rfl
abbrev tab11_3_b : List Nat := [0, 1, 3, 0, 8, 31, 0, 64, 255, 511]
abbrev tab11_3_i : List Nat := [0, 1, 2, 3, 4, 5, 6, 7, 8, 9]
theorem tab11_3 : tabOk (regOps Try.f11 3) tab11_3_b 38 = true := by kernel_rfl
abbrev tab11_4_b : List Nat := [0, 0, 2, 7, 0, 16, 63, 127]
abbrev tab11_4_i : List Nat := [0, 1, 2, 3, 4, 5, 6, 7]
theorem tab11_4 : tabOk (regOps Try.f11 4) tab11_4_b 38 = true := by kernel_rfl
abbrev tab11_5_b : List Nat := [0, 0, 2, 7, 0, 16, 63, 127]
abbrev tab11_5_i : List Nat := [0, 1, 2, 3, 4, 5, 6, 7]
theorem tab11_5 : tabOk (regOps Try.f11 5) tab11_5_b 38 = true := by kernel_rfl
abbrev tab11_6_b : List Nat := [0, 0, 2, 7, 0, 16, 63, 127, 255]
abbrev tab11_6_i : List Nat := [0, 1, 2, 3, 4, 5, 6, 7, 8]
theorem tab11_6 : tabOk (regOps Try.f11 6) tab11_6_b 38 = true := by kernel_rfl
abbrev tab13_6_b : List Nat := [0, 0, 3, 7, 0, 0, 48, 112, 255]
abbrev tab13_6_i : List Nat := [0, 1, 2, 3, 4, 5, 6, 7, 8]
theorem tab13_6 : tabOk (regOps Try.f13 6) tab13_6_b 26 = true := by kernel_rfl
abbrev tab40_1_b : List Nat := [0, 0, 2, 7, 0, 16, 63, 127]
abbrev tab40_1_i : List Nat := [0, 1, 2, 3, 4, 5, 6, 7]
theorem tab40_1 : tabOk (regOps Try.f40 1) tab40_1_b 12 = true := by kernel_rfl
abbrev tab42_1_b : List Nat := [0, 0, 2, 7, 0, 16, 63, 127]
abbrev tab42_1_i : List Nat := [0, 1, 2, 3, 4, 5, 6, 7]
theorem tab42_1 : tabOk (regOps Try.f42 1) tab42_1_b 12 = true := by kernel_rfl
abbrev tab84_1_b : List Nat := [0, 1, 3, 0, 8, 31, 63, 127]
theorem tab84_1 : tabOk (regOps Try.f84 1) tab84_1_b 10 = true := by kernel_rfl
abbrev tab84_1_j : List Nat := [0, 1, 2, 3, 4, 5, 6]
theorem ts110 : tyStruct Try.prog 110 [1, 1] [.slice none 0 0, .bool false] = true := by kernel_rfl
theorem ts25 : tyStruct Try.prog 25 [1, 32] [.int .i64 0, .int .u8 0, .int .u8 0, .int .u8 0, .int .u8 0, .int .u8 0, .int .u8 0, .int .u8 0, .int .u8 0, .int .u8 0, .int .u8 0, .int .u8 0, .int .u8 0, .int .u8 0, .int .u8 0, .int .u8 0, .int .u8 0, .int .u8 0, .int .u8 0, .int .u8 0, .int .u8 0, .int .u8 0, .int .u8 0, .int .u8 0, .int .u8 0, .int .u8 0, .int .u8 0, .int .u8 0, .int .u8 0, .int .u8 0, .int .u8 0, .int .u8 0, .int .u8 0] = true := by kernel_rfl
theorem ts27 : tyStruct Try.prog 27 [1, 1] [.int .i64 0, .int .i64 0] = true := by kernel_rfl
theorem ts29 : tyStruct Try.prog 29 [1, 1, 1, 32, 33, 2, 2, 32, 32] [.int .i64 0, .int .i64 0, .int .i64 0, .int .u8 0, .int .u8 0, .int .u8 0, .int .u8 0, .int .u8 0, .int .u8 0, .int .u8 0, .int .u8 0, .int .u8 0, .int .u8 0, .int .u8 0, .int .u8 0, .int .u8 0, .int .u8 0, .int .u8 0, .int .u8 0, .int .u8 0, .int .u8 0, .int .u8 0, .int .u8 0, .int .u8 0, .int .u8 0, .int .u8 0, .int .u8 0, .int .u8 0, .int .u8 0, .int .u8 0, .int .u8 0, .int .u8 0, .int .u8 0, .int .u8 0, .int .u8 0, .int .i64 0, .int .u8 0, .int .u8 0, .int .u8 0, .int .u8 0, .int .u8 0, .int .u8 0, .int .u8 0, .int .u8 0, .int .u8 0, .int .u8 0, .int .u8 0, .int .u8 0, .int .u8 0, .int .u8 0, .int .u8 0, .int .u8 0, .int .u8 0, .int .u8 0, .int .u8 0, .int .u8 0, .int .u8 0, .int .u8 0, .int .u8 0, .int .u8 0, .int .u8 0, .int .u8 0, .int .u8 0, .int .u8 0, .int .u8 0, .int .u8 0, .int .u8 0, .int .u8 0, .int .i64 0, .int .i64 0, .int .i64 0, .int .i64 0, .int .u8 0, .int .u8 0, .int .u8 0, .int .u8 0, .int .u8 0, .int .u8 0, .int .u8 0, .int .u8 0, .int .u8 0, .int .u8 0, .int .u8 0, .int .u8 0, .int .u8 0, .int .u8 0, .int .u8 0, .int .u8 0, .int .u8 0, .int .u8 0, .int .u8 0, .int .u8 0, .int .u8 0, .int .u8 0, .int .u8 0, .int .u8 0, .int .u8 0, .int .u8 0, .int .u8 0, .int .u8 0, .int .u8 0, .int .u8 0, .int .u8 0, .int .u8 0, .int .u8 0, .int .u8 0, .int .u8 0, .int .u8 0, .int .u8 0, .int .u8 0, .int .u8 0, .int .u8 0, .int .u8 0, .int .u8 0, .int .u8 0, .int .u8 0, .int .u8 0, .int .u8 0, .int .u8 0, .int .u8 0, .int .u8 0, .int .u8 0, .int .u8 0, .int .u8 0, .int .u8 0, .int .u8 0, .int .u8 0, .int .u8 0, .int .u8 0, .int .u8 0, .int .u8 0, .int .u8 0, .int .u8 0, .int .u8 0, .int .u8 0, .int .u8 0] = true := by kernel_rfl
theorem zc5 : (zeroOf Try.prog 5).map (·.cells) = some #[.int .u8 0] := by kernel_rfl
theorem zero23 : zeroOf Try.prog 23 = some (.agg #[.int .u8 0, .int .u8 0, .int .u8 0, .int .u8 0, .int .u8 0, .int .u8 0, .int .u8 0, .int .u8 0, .int .u8 0, .int .u8 0, .int .u8 0, .int .u8 0, .int .u8 0, .int .u8 0, .int .u8 0, .int .u8 0, .int .u8 0, .int .u8 0, .int .u8 0, .int .u8 0, .int .u8 0, .int .u8 0, .int .u8 0, .int .u8 0, .int .u8 0, .int .u8 0, .int .u8 0, .int .u8 0, .int .u8 0, .int .u8 0, .int .u8 0, .int .u8 0]) := by kernel_rfl
theorem zero25 : zeroOf Try.prog 25 = some (.agg #[.int .i64 0, .int .u8 0, .int .u8 0, .int .u8 0, .int .u8 0, .int .u8 0, .int .u8 0, .int .u8 0, .int .u8 0, .int .u8 0, .int .u8 0, .int .u8 0, .int .u8 0, .int .u8 0, .int .u8 0, .int .u8 0, .int .u8 0, .int .u8 0, .int .u8 0, .int .u8 0, .int .u8 0, .int .u8 0, .int .u8 0, .int .u8 0, .int .u8 0, .int .u8 0, .int .u8 0, .int .u8 0, .int .u8 0, .int .u8 0, .int .u8 0, .int .u8 0, .int .u8 0]) := by kernel_rfl
theorem zero29 : zeroOf Try.prog 29 = some (.agg #[.int .i64 0, .int .i64 0, .int .i64 0, .int .u8 0, .int .u8 0, .int .u8 0, .int .u8 0, .int .u8 0, .int .u8 0, .int .u8 0, .int .u8 0, .int .u8 0, .int .u8 0, .int .u8 0, .int .u8 0, .int .u8 0, .int .u8 0, .int .u8 0, .int .u8 0, .int .u8 0, .int .u8 0, .int .u8 0, .int .u8 0, .int .u8 0, .int .u8 0, .int .u8 0, .int .u8 0, .int .u8 0, .int .u8 0, .int .u8 0, .int .u8 0, .int .u8 0, .int .u8 0, .int .u8 0, .int .u8 0, .int .i64 0, .int .u8 0, .int .u8 0, .int .u8 0, .int .u8 0, .int .u8 0, .int .u8 0, .int .u8 0, .int .u8 0, .int .u8 0, .int .u8 0, .int .u8 0, .int .u8 0, .int .u8 0, .int .u8 0, .int .u8 0, .int .u8 0, .int .u8 0, .int .u8 0, .int .u8 0, .int .u8 0, .int .u8 0, .int .u8 0, .int .u8 0, .int .u8 0, .int .u8 0, .int .u8 0, .int .u8 0, .int .u8 0, .int .u8 0, .int .u8 0, .int .u8 0, .int .u8 0, .int .i64 0, .int .i64 0, .int .i64 0, .int .i64 0, .int .u8 0, .int .u8 0, .int .u8 0, .int .u8 0, .int .u8 0, .int .u8 0, .int .u8 0, .int .u8 0, .int .u8 0, .int .u8 0, .int .u8 0, .int .u8 0, .int .u8 0, .int .u8 0, .int .u8 0, .int .u8 0, .int .u8 0, .int .u8 0, .int .u8 0, .int .u8 0, .int .u8 0, .int .u8 0, .int .u8 0, .int .u8 0, .int .u8 0, .int .u8 0, .int .u8 0, .int .u8 0, .int .u8 0, .int .u8 0, .int .u8 0, .int .u8 0, .int .u8 0, .int .u8 0, .int .u8 0, .int .u8 0, .int .u8 0, .int .u8 0, .int .u8 0, .int .u8 0, .int .u8 0, .int .u8 0, .int .u8 0, .int .u8 0, .int .u8 0, .int .u8 0, .int .u8 0, .int .u8 0, .int .u8 0, .int .u8 0, .int .u8 0, .int .u8 0, .int .u8 0, .int .u8 0, .int .u8 0, .int .u8 0, .int .u8 0, .int .u8 0, .int .u8 0, .int .u8 0, .int .u8 0, .int .u8 0, .int .u8 0, .int .u8 0]) := by kernel_rfl
theorem zeroL110 : zeroOf Try.prog 110 = some (.agg [.slice none 0 0, .bool false].toArray) := by kernel_rfl
theorem zeroL25 : zeroOf Try.prog 25 = some (.agg [.int .i64 0, .int .u8 0, .int .u8 0, .int .u8 0, .int .u8 0, .int .u8 0, .int .u8 0, .int .u8 0, .int .u8 0, .int .u8 0, .int .u8 0, .int .u8 0, .int .u8 0, .int .u8 0, .int .u8 0, .int .u8 0, .int .u8 0, .int .u8 0, .int .u8 0, .int .u8 0, .int .u8 0, .int .u8 0, .int .u8 0, .int .u8 0, .int .u8 0, .int .u8 0, .int .u8 0, .int .u8 0, .int .u8 0, .int .u8 0, .int .u8 0, .int .u8 0, .int .u8 0].toArray) := by kernel_rfl
theorem zeroL27 : zeroOf Try.prog 27 = some (.agg [.int .i64 0, .int .i64 0].toArray) := by kernel_rfl
theorem zeroL29 : zeroOf Try.prog 29 = some (.agg [.int .i64 0, .int .i64 0, .int .i64 0, .int .u8 0, .int .u8 0, .int .u8 0, .int .u8 0, .int .u8 0, .int .u8 0, .int .u8 0, .int .u8 0, .int .u8 0, .int .u8 0, .int .u8 0, .int .u8 0, .int .u8 0, .int .u8 0, .int .u8 0, .int .u8 0, .int .u8 0, .int .u8 0, .int .u8 0, .int .u8 0, .int .u8 0, .int .u8 0, .int .u8 0, .int .u8 0, .int .u8 0, .int .u8 0, .int .u8 0, .int .u8 0, .int .u8 0, .int .u8 0, .int .u8 0, .int .u8 0, .int .i64 0, .int .u8 0, .int .u8 0, .int .u8 0, .int .u8 0, .int .u8 0, .int .u8 0, .int .u8 0, .int .u8 0, .int .u8 0, .int .u8 0, .int .u8 0, .int .u8 0, .int .u8 0, .int .u8 0, .int .u8 0, .int .u8 0, .int .u8 0, .int .u8 0, .int .u8 0, .int .u8 0, .int .u8 0, .int .u8 0, .int .u8 0, .int .u8 0, .int .u8 0, .int .u8 0, .int .u8 0, .int .u8 0, .int .u8 0, .int .u8 0, .int .u8 0, .int .u8 0, .int .i64 0, .int .i64 0, .int .i64 0, .int .i64 0, .int .u8 0, .int .u8 0, .int .u8 0, .int .u8 0, .int .u8 0, .int .u8 0, .int .u8 0, .int .u8 0, .int .u8 0, .int .u8 0, .int .u8 0, .int .u8 0, .int .u8 0, .int .u8 0, .int .u8 0, .int .u8 0, .int .u8 0, .int .u8 0, .int .u8 0, .int .u8 0, .int .u8 0, .int .u8 0, .int .u8 0, .int .u8 0, .int .u8 0, .int .u8 0, .int .u8 0, .int .u8 0, .int .u8 0, .int .u8 0, .int .u8 0, .int .u8 0, .int .u8 0, .int .u8 0, .int .u8 0, .int .u8 0, .int .u8 0, .int .u8 0, .int .u8 0, .int .u8 0, .int .u8 0, .int .u8 0, .int .u8 0, .int .u8 0, .int .u8 0, .int .u8 0, .int .u8 0, .int .u8 0, .int .u8 0, .int .u8 0, .int .u8 0, .int .u8 0, .int .u8 0, .int .u8 0, .int .u8 0, .int .u8 0, .int .u8 0, .int .u8 0, .int .u8 0, .int .u8 0, .int .u8 0, .int .u8 0, .int .u8 0, .int .u8 0].toArray) := by kernel_rfl
theorem zl3 : (zeroOf Try.prog 3).map (·.cells.toList) = some [.int .i64 0] := by kernel_rfl
theorem zl5 : (zeroOf Try.prog 5).map (·.cells.toList) = some [.int .u8 0] := by kernel_rfl
theorem zt5 : tyZero Try.prog 5 1 = true := by kernel_rfl
end Go.Rill.T

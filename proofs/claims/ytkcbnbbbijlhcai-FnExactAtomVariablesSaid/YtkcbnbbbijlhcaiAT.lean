/- WHAT THE TYPES OF THIS TRANSLATION COME TO. Conditions: none. (Printed by a program of this session.) -/
import Derived.Test.YtkcbnbbbijlhcaiA39
import Derived.Test.YtkcbnbbbijlhcaiProg
namespace Go.Proofs.Ytkcbnbbbijlhcai.A
open Go
theorem agg2 : aggOf Try.prog 2 = some none := by kernel_rfl
attribute [go_sem] agg2
theorem zero2 : zeroOf Try.prog 2 = some [.int .i64 0] := by kernel_rfl
attribute [go_sem] zero2
theorem und2 : Try.prog.underlying 2 = some (.int .i64) := by kernel_rfl
attribute [go_sem] und2
theorem agg3 : aggOf Try.prog 3 = some none := by kernel_rfl
attribute [go_sem] agg3
theorem zero3 : zeroOf Try.prog 3 = some [.int .i64 0] := by kernel_rfl
attribute [go_sem] zero3
theorem und3 : Try.prog.underlying 3 = some (.int .i64) := by kernel_rfl
attribute [go_sem] und3
theorem agg4 : aggOf Try.prog 4 = some none := by kernel_rfl
attribute [go_sem] agg4
theorem zero4 : zeroOf Try.prog 4 = some [.bool false] := by kernel_rfl
attribute [go_sem] zero4
theorem und4 : Try.prog.underlying 4 = some .bool := by kernel_rfl
attribute [go_sem] und4
theorem agg5 : aggOf Try.prog 5 = some none := by kernel_rfl
attribute [go_sem] agg5
theorem zero5 : zeroOf Try.prog 5 = some [.int .u8 0] := by kernel_rfl
attribute [go_sem] zero5
theorem und5 : Try.prog.underlying 5 = some (.int .u8) := by kernel_rfl
attribute [go_sem] und5
theorem agg9 : aggOf Try.prog 9 = some none := by kernel_rfl
attribute [go_sem] agg9
theorem zero9 : zeroOf Try.prog 9 = some [.string ByteArray.empty] := by kernel_rfl
attribute [go_sem] zero9
theorem und9 : Try.prog.underlying 9 = some .string := by kernel_rfl
attribute [go_sem] und9
theorem appT9 : appT Try.prog 9 = true := by kernel_rfl
attribute [go_sem] appT9
theorem agg12 : aggOf Try.prog 12 = some none := by kernel_rfl
attribute [go_sem] agg12
theorem zero12 : zeroOf Try.prog 12 = some [.int .u64 0] := by kernel_rfl
attribute [go_sem] zero12
theorem und12 : Try.prog.underlying 12 = some (.int .u64) := by kernel_rfl
attribute [go_sem] und12
theorem agg21 : aggOf Try.prog 21 = some none := by kernel_rfl
attribute [go_sem] agg21
theorem zero21 : zeroOf Try.prog 21 = some [.int .i32 0] := by kernel_rfl
attribute [go_sem] zero21
theorem und21 : Try.prog.underlying 21 = some (.int .i32) := by kernel_rfl
attribute [go_sem] und21
theorem agg22 : aggOf Try.prog 22 = some none := by kernel_rfl
attribute [go_sem] agg22
theorem zero22 : zeroOf Try.prog 22 = some [.slice none 0 0] := by kernel_rfl
attribute [go_sem] zero22
theorem elem22 : elemOf' Try.prog 22 = some (1, 8, [.int .i64 0]) := by kernel_rfl
attribute [go_sem] elem22
theorem und22 : Try.prog.underlying 22 = some (.slice 3) := by kernel_rfl
attribute [go_sem] und22
theorem appT22 : appT Try.prog 22 = true := by kernel_rfl
attribute [go_sem] appT22
theorem agg24 : aggOf Try.prog 24 = some (some 2) := by kernel_rfl
attribute [go_sem] agg24
theorem zero24 : zeroOf Try.prog 24 = some [.int .i64 0, .slice none 0 0] := by kernel_rfl
attribute [go_sem] zero24
theorem fld24_0 : fieldOf Try.prog 24 0 = some (0, none) := by kernel_rfl
attribute [go_sem] fld24_0
theorem fld24_1 : fieldOf Try.prog 24 1 = some (1, none) := by kernel_rfl
attribute [go_sem] fld24_1
theorem places24 : placesOf Try.prog 24 = some [(0, 1), (1, 1)] := by kernel_rfl
attribute [go_sem] places24
theorem agg27 : aggOf Try.prog 27 = some (some 2) := by kernel_rfl
attribute [go_sem] agg27
theorem zero27 : zeroOf Try.prog 27 = some [.int .i64 0, .slice none 0 0] := by kernel_rfl
attribute [go_sem] zero27
theorem fld27_0 : fieldOf Try.prog 27 0 = some (0, none) := by kernel_rfl
attribute [go_sem] fld27_0
theorem fld27_1 : fieldOf Try.prog 27 1 = some (1, none) := by kernel_rfl
attribute [go_sem] fld27_1
theorem places27 : placesOf Try.prog 27 = some [(0, 1), (1, 1)] := by kernel_rfl
attribute [go_sem] places27
theorem agg40 : aggOf Try.prog 40 = some none := by kernel_rfl
attribute [go_sem] agg40
theorem zero40 : zeroOf Try.prog 40 = some [.slice none 0 0] := by kernel_rfl
attribute [go_sem] zero40
theorem elem40 : elemOf' Try.prog 40 = some (1, 24, [.slice none 0 0]) := by kernel_rfl
attribute [go_sem] elem40
theorem und40 : Try.prog.underlying 40 = some (.slice 22) := by kernel_rfl
attribute [go_sem] und40
theorem appT40 : appT Try.prog 40 = true := by kernel_rfl
attribute [go_sem] appT40
theorem agg44 : aggOf Try.prog 44 = some none := by kernel_rfl
attribute [go_sem] agg44
theorem zero44 : zeroOf Try.prog 44 = some [.int .u64 0] := by kernel_rfl
attribute [go_sem] zero44
theorem und44 : Try.prog.underlying 44 = some (.int .u64) := by kernel_rfl
attribute [go_sem] und44
theorem agg55 : aggOf Try.prog 55 = some none := by kernel_rfl
attribute [go_sem] agg55
theorem zero55 : zeroOf Try.prog 55 = some [.int .u32 0] := by kernel_rfl
attribute [go_sem] zero55
theorem und55 : Try.prog.underlying 55 = some (.int .u32) := by kernel_rfl
attribute [go_sem] und55
theorem agg57 : aggOf Try.prog 57 = some none := by kernel_rfl
attribute [go_sem] agg57
theorem zero57 : zeroOf Try.prog 57 = some [.int .u64 0] := by kernel_rfl
attribute [go_sem] zero57
theorem und57 : Try.prog.underlying 57 = some (.int .u64) := by kernel_rfl
attribute [go_sem] und57
end Go.Proofs.Ytkcbnbbbijlhcai.A

/- WHAT THE TYPES OF THIS TRANSLATION COME TO. Conditions: none. (Printed by a program of this session.) -/
import Derived.Test.YtkcbnbbbijlhcabA39
import Derived.Test.YtkcbnbbbijlhcabProg
namespace Go.Proofs.Ytkcbnbbbijlhcab.A
open Go
theorem agg2 : aggOf Try.prog 2 = some none := by kernel_rfl
attribute [go_sem] agg2
theorem zero2 : zeroOf Try.prog 2 = some [.int .i64 0] := by kernel_rfl
attribute [go_sem] zero2
theorem und2 : Try.prog.underlying 2 = some (.int .i64) := by kernel_rfl
attribute [go_sem] und2
theorem agg3 : aggOf Try.prog 3 = some none := by kernel_rfl
attribute [go_sem] agg3
theorem zero3 : zeroOf Try.prog 3 = some [.int .i64 0] := by kernel_rfl
attribute [go_sem] zero3
theorem und3 : Try.prog.underlying 3 = some (.int .i64) := by kernel_rfl
attribute [go_sem] und3
theorem agg4 : aggOf Try.prog 4 = some none := by kernel_rfl
attribute [go_sem] agg4
theorem zero4 : zeroOf Try.prog 4 = some [.bool false] := by kernel_rfl
attribute [go_sem] zero4
theorem und4 : Try.prog.underlying 4 = some .bool := by kernel_rfl
attribute [go_sem] und4
theorem agg5 : aggOf Try.prog 5 = some none := by kernel_rfl
attribute [go_sem] agg5
theorem zero5 : zeroOf Try.prog 5 = some [.int .u8 0] := by kernel_rfl
attribute [go_sem] zero5
theorem und5 : Try.prog.underlying 5 = some (.int .u8) := by kernel_rfl
attribute [go_sem] und5
theorem agg9 : aggOf Try.prog 9 = some none := by kernel_rfl
attribute [go_sem] agg9
theorem zero9 : zeroOf Try.prog 9 = some [.string ByteArray.empty] := by kernel_rfl
attribute [go_sem] zero9
theorem und9 : Try.prog.underlying 9 = some .string := by kernel_rfl
attribute [go_sem] und9
theorem appT9 : appT Try.prog 9 = true := by kernel_rfl
attribute [go_sem] appT9
theorem agg12 : aggOf Try.prog 12 = some none := by kernel_rfl
attribute [go_sem] agg12
theorem zero12 : zeroOf Try.prog 12 = some [.int .u64 0] := by kernel_rfl
attribute [go_sem] zero12
theorem und12 : Try.prog.underlying 12 = some (.int .u64) := by kernel_rfl
attribute [go_sem] und12
theorem agg21 : aggOf Try.prog 21 = some none := by kernel_rfl
attribute [go_sem] agg21
theorem zero21 : zeroOf Try.prog 21 = some [.int .i32 0] := by kernel_rfl
attribute [go_sem] zero21
theorem und21 : Try.prog.underlying 21 = some (.int .i32) := by kernel_rfl
attribute [go_sem] und21
theorem agg22 : aggOf Try.prog 22 = some none := by kernel_rfl
attribute [go_sem] agg22
theorem zero22 : zeroOf Try.prog 22 = some [.slice none 0 0] := by kernel_rfl
attribute [go_sem] zero22
theorem elem22 : elemOf' Try.prog 22 = some (2, 32, [.int .i64 0, .slice none 0 0]) := by kernel_rfl
attribute [go_sem] elem22
theorem und22 : Try.prog.underlying 22 = some (.slice 45) := by kernel_rfl
attribute [go_sem] und22
theorem appT22 : appT Try.prog 22 = true := by kernel_rfl
attribute [go_sem] appT22
theorem agg23 : aggOf Try.prog 23 = some none := by kernel_rfl
attribute [go_sem] agg23
theorem zero23 : zeroOf Try.prog 23 = some [.slice none 0 0] := by kernel_rfl
attribute [go_sem] zero23
theorem elem23 : elemOf' Try.prog 23 = some (1, 8, [.int .i64 0]) := by kernel_rfl
attribute [go_sem] elem23
theorem und23 : Try.prog.underlying 23 = some (.slice 3) := by kernel_rfl
attribute [go_sem] und23
theorem appT23 : appT Try.prog 23 = true := by kernel_rfl
attribute [go_sem] appT23
theorem agg25 : aggOf Try.prog 25 = some (some 3) := by kernel_rfl
attribute [go_sem] agg25
theorem zero25 : zeroOf Try.prog 25 = some [.int .i64 0, .slice none 0 0, .slice none 0 0] := by kernel_rfl
attribute [go_sem] zero25
theorem fld25_0 : fieldOf Try.prog 25 0 = some (0, none) := by kernel_rfl
attribute [go_sem] fld25_0
theorem fld25_1 : fieldOf Try.prog 25 1 = some (1, none) := by kernel_rfl
attribute [go_sem] fld25_1
theorem fld25_2 : fieldOf Try.prog 25 2 = some (2, none) := by kernel_rfl
attribute [go_sem] fld25_2
theorem places25 : placesOf Try.prog 25 = some [(0, 1), (1, 1), (2, 1)] := by kernel_rfl
attribute [go_sem] places25
theorem agg28 : aggOf Try.prog 28 = some none := by kernel_rfl
attribute [go_sem] agg28
theorem zero28 : zeroOf Try.prog 28 = some [.slice none 0 0] := by kernel_rfl
attribute [go_sem] zero28
theorem elem28 : elemOf' Try.prog 28 = some (2, 32, [.int .i64 0, .slice none 0 0]) := by kernel_rfl
attribute [go_sem] elem28
theorem und28 : Try.prog.underlying 28 = some (.slice 46) := by kernel_rfl
attribute [go_sem] und28
theorem appT28 : appT Try.prog 28 = true := by kernel_rfl
attribute [go_sem] appT28
theorem agg30 : aggOf Try.prog 30 = some (some 3) := by kernel_rfl
attribute [go_sem] agg30
theorem zero30 : zeroOf Try.prog 30 = some [.int .i64 0, .slice none 0 0, .slice none 0 0] := by kernel_rfl
attribute [go_sem] zero30
theorem fld30_0 : fieldOf Try.prog 30 0 = some (0, none) := by kernel_rfl
attribute [go_sem] fld30_0
theorem fld30_1 : fieldOf Try.prog 30 1 = some (1, none) := by kernel_rfl
attribute [go_sem] fld30_1
theorem fld30_2 : fieldOf Try.prog 30 2 = some (2, none) := by kernel_rfl
attribute [go_sem] fld30_2
theorem places30 : placesOf Try.prog 30 = some [(0, 1), (1, 1), (2, 1)] := by kernel_rfl
attribute [go_sem] places30
theorem agg45 : aggOf Try.prog 45 = some (some 2) := by kernel_rfl
attribute [go_sem] agg45
theorem zero45 : zeroOf Try.prog 45 = some [.int .i64 0, .slice none 0 0] := by kernel_rfl
attribute [go_sem] zero45
theorem fld45_0 : fieldOf Try.prog 45 0 = some (0, none) := by kernel_rfl
attribute [go_sem] fld45_0
theorem fld45_1 : fieldOf Try.prog 45 1 = some (1, none) := by kernel_rfl
attribute [go_sem] fld45_1
theorem places45 : placesOf Try.prog 45 = some [(0, 1), (1, 1)] := by kernel_rfl
attribute [go_sem] places45
theorem agg46 : aggOf Try.prog 46 = some (some 2) := by kernel_rfl
attribute [go_sem] agg46
theorem zero46 : zeroOf Try.prog 46 = some [.int .i64 0, .slice none 0 0] := by kernel_rfl
attribute [go_sem] zero46
theorem fld46_0 : fieldOf Try.prog 46 0 = some (0, none) := by kernel_rfl
attribute [go_sem] fld46_0
theorem fld46_1 : fieldOf Try.prog 46 1 = some (1, none) := by kernel_rfl
attribute [go_sem] fld46_1
theorem places46 : placesOf Try.prog 46 = some [(0, 1), (1, 1)] := by kernel_rfl
attribute [go_sem] places46
theorem agg56 : aggOf Try.prog 56 = some none := by kernel_rfl
attribute [go_sem] agg56
theorem zero56 : zeroOf Try.prog 56 = some [.int .u32 0] := by kernel_rfl
attribute [go_sem] zero56
theorem und56 : Try.prog.underlying 56 = some (.int .u32) := by kernel_rfl
attribute [go_sem] und56
end Go.Proofs.Ytkcbnbbbijlhcab.A

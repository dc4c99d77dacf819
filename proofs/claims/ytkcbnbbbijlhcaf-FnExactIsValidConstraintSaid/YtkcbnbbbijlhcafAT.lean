/- WHAT THE TYPES OF THIS TRANSLATION COME TO. Conditions: none. (Printed by a program of this session.) -/
import Derived.Test.YtkcbnbbbijlhcafA39
import Derived.Test.YtkcbnbbbijlhcafProg
namespace Go.Proofs.Ytkcbnbbbijlhcaf.A
open Go
theorem agg2 : aggOf Try.prog 2 = some none := by kernel_rfl
attribute [go_sem] agg2
theorem zero2 : zeroOf Try.prog 2 = some [.int .i64 0] := by kernel_rfl
attribute [go_sem] zero2
theorem und2 : Try.prog.underlying 2 = some (.int .i64) := by kernel_rfl
attribute [go_sem] und2
theorem agg3 : aggOf Try.prog 3 = some none := by kernel_rfl
attribute [go_sem] agg3
theorem zero3 : zeroOf Try.prog 3 = some [.int .i64 0] := by kernel_rfl
attribute [go_sem] zero3
theorem und3 : Try.prog.underlying 3 = some (.int .i64) := by kernel_rfl
attribute [go_sem] und3
theorem agg4 : aggOf Try.prog 4 = some none := by kernel_rfl
attribute [go_sem] agg4
theorem zero4 : zeroOf Try.prog 4 = some [.bool false] := by kernel_rfl
attribute [go_sem] zero4
theorem und4 : Try.prog.underlying 4 = some .bool := by kernel_rfl
attribute [go_sem] und4
theorem agg5 : aggOf Try.prog 5 = some none := by kernel_rfl
attribute [go_sem] agg5
theorem zero5 : zeroOf Try.prog 5 = some [.int .u8 0] := by kernel_rfl
attribute [go_sem] zero5
theorem und5 : Try.prog.underlying 5 = some (.int .u8) := by kernel_rfl
attribute [go_sem] und5
theorem agg9 : aggOf Try.prog 9 = some none := by kernel_rfl
attribute [go_sem] agg9
theorem zero9 : zeroOf Try.prog 9 = some [.string ByteArray.empty] := by kernel_rfl
attribute [go_sem] zero9
theorem und9 : Try.prog.underlying 9 = some .string := by kernel_rfl
attribute [go_sem] und9
theorem appT9 : appT Try.prog 9 = true := by kernel_rfl
attribute [go_sem] appT9
theorem agg12 : aggOf Try.prog 12 = some none := by kernel_rfl
attribute [go_sem] agg12
theorem zero12 : zeroOf Try.prog 12 = some [.int .u64 0] := by kernel_rfl
attribute [go_sem] zero12
theorem und12 : Try.prog.underlying 12 = some (.int .u64) := by kernel_rfl
attribute [go_sem] und12
theorem agg21 : aggOf Try.prog 21 = some none := by kernel_rfl
attribute [go_sem] agg21
theorem zero21 : zeroOf Try.prog 21 = some [.int .i32 0] := by kernel_rfl
attribute [go_sem] zero21
theorem und21 : Try.prog.underlying 21 = some (.int .i32) := by kernel_rfl
attribute [go_sem] und21
theorem agg22 : aggOf Try.prog 22 = some none := by kernel_rfl
attribute [go_sem] agg22
theorem zero22 : zeroOf Try.prog 22 = some [.slice none 0 0] := by kernel_rfl
attribute [go_sem] zero22
theorem elem22 : elemOf' Try.prog 22 = some (3, 32, [.string ByteArray.empty, .int .i64 0, .int .i64 0]) := by kernel_rfl
attribute [go_sem] elem22
theorem und22 : Try.prog.underlying 22 = some (.slice 50) := by kernel_rfl
attribute [go_sem] und22
theorem appT22 : appT Try.prog 22 = true := by kernel_rfl
attribute [go_sem] appT22
theorem agg23 : aggOf Try.prog 23 = some none := by kernel_rfl
attribute [go_sem] agg23
theorem zero23 : zeroOf Try.prog 23 = some [.slice none 0 0] := by kernel_rfl
attribute [go_sem] zero23
theorem elem23 : elemOf' Try.prog 23 = some (2, 32, [.int .i64 0, .slice none 0 0]) := by kernel_rfl
attribute [go_sem] elem23
theorem und23 : Try.prog.underlying 23 = some (.slice 54) := by kernel_rfl
attribute [go_sem] und23
theorem appT23 : appT Try.prog 23 = true := by kernel_rfl
attribute [go_sem] appT23
theorem agg25 : aggOf Try.prog 25 = some (some 2) := by kernel_rfl
attribute [go_sem] agg25
theorem zero25 : zeroOf Try.prog 25 = some [.slice none 0 0, .slice none 0 0] := by kernel_rfl
attribute [go_sem] zero25
theorem fld25_0 : fieldOf Try.prog 25 0 = some (0, none) := by kernel_rfl
attribute [go_sem] fld25_0
theorem fld25_1 : fieldOf Try.prog 25 1 = some (1, none) := by kernel_rfl
attribute [go_sem] fld25_1
theorem places25 : placesOf Try.prog 25 = some [(0, 1), (1, 1)] := by kernel_rfl
attribute [go_sem] places25
theorem agg27 : aggOf Try.prog 27 = some (some 7) := by kernel_rfl
attribute [go_sem] agg27
theorem zero27 : zeroOf Try.prog 27 = some [.int .i64 0, .int .i64 0, .int .i64 0, .int .i64 0, .int .i64 0, .int .i64 0, .int .i64 0] := by kernel_rfl
attribute [go_sem] zero27
theorem fld27_0 : fieldOf Try.prog 27 0 = some (0, none) := by kernel_rfl
attribute [go_sem] fld27_0
theorem fld27_1 : fieldOf Try.prog 27 1 = some (1, none) := by kernel_rfl
attribute [go_sem] fld27_1
theorem fld27_2 : fieldOf Try.prog 27 2 = some (2, none) := by kernel_rfl
attribute [go_sem] fld27_2
theorem fld27_3 : fieldOf Try.prog 27 3 = some (3, none) := by kernel_rfl
attribute [go_sem] fld27_3
theorem fld27_4 : fieldOf Try.prog 27 4 = some (4, none) := by kernel_rfl
attribute [go_sem] fld27_4
theorem fld27_5 : fieldOf Try.prog 27 5 = some (5, none) := by kernel_rfl
attribute [go_sem] fld27_5
theorem fld27_6 : fieldOf Try.prog 27 6 = some (6, none) := by kernel_rfl
attribute [go_sem] fld27_6
theorem places27 : placesOf Try.prog 27 = some [(0, 1), (1, 1), (2, 1), (3, 1), (4, 1), (5, 1), (6, 1)] := by kernel_rfl
attribute [go_sem] places27
theorem agg30 : aggOf Try.prog 30 = some none := by kernel_rfl
attribute [go_sem] agg30
theorem zero30 : zeroOf Try.prog 30 = some [.slice none 0 0] := by kernel_rfl
attribute [go_sem] zero30
theorem elem30 : elemOf' Try.prog 30 = some (3, 32, [.string ByteArray.empty, .int .i64 0, .int .i64 0]) := by kernel_rfl
attribute [go_sem] elem30
theorem und30 : Try.prog.underlying 30 = some (.slice 44) := by kernel_rfl
attribute [go_sem] und30
theorem appT30 : appT Try.prog 30 = true := by kernel_rfl
attribute [go_sem] appT30
theorem agg31 : aggOf Try.prog 31 = some none := by kernel_rfl
attribute [go_sem] agg31
theorem zero31 : zeroOf Try.prog 31 = some [.slice none 0 0] := by kernel_rfl
attribute [go_sem] zero31
theorem elem31 : elemOf' Try.prog 31 = some (2, 32, [.int .i64 0, .slice none 0 0]) := by kernel_rfl
attribute [go_sem] elem31
theorem und31 : Try.prog.underlying 31 = some (.slice 56) := by kernel_rfl
attribute [go_sem] und31
theorem appT31 : appT Try.prog 31 = true := by kernel_rfl
attribute [go_sem] appT31
theorem agg33 : aggOf Try.prog 33 = some (some 2) := by kernel_rfl
attribute [go_sem] agg33
theorem zero33 : zeroOf Try.prog 33 = some [.slice none 0 0, .slice none 0 0] := by kernel_rfl
attribute [go_sem] zero33
theorem fld33_0 : fieldOf Try.prog 33 0 = some (0, none) := by kernel_rfl
attribute [go_sem] fld33_0
theorem fld33_1 : fieldOf Try.prog 33 1 = some (1, none) := by kernel_rfl
attribute [go_sem] fld33_1
theorem places33 : placesOf Try.prog 33 = some [(0, 1), (1, 1)] := by kernel_rfl
attribute [go_sem] places33
theorem agg35 : aggOf Try.prog 35 = some (some 7) := by kernel_rfl
attribute [go_sem] agg35
theorem zero35 : zeroOf Try.prog 35 = some [.int .i64 0, .int .i64 0, .int .i64 0, .int .i64 0, .int .i64 0, .int .i64 0, .int .i64 0] := by kernel_rfl
attribute [go_sem] zero35
theorem fld35_0 : fieldOf Try.prog 35 0 = some (0, none) := by kernel_rfl
attribute [go_sem] fld35_0
theorem fld35_1 : fieldOf Try.prog 35 1 = some (1, none) := by kernel_rfl
attribute [go_sem] fld35_1
theorem fld35_2 : fieldOf Try.prog 35 2 = some (2, none) := by kernel_rfl
attribute [go_sem] fld35_2
theorem fld35_3 : fieldOf Try.prog 35 3 = some (3, none) := by kernel_rfl
attribute [go_sem] fld35_3
theorem fld35_4 : fieldOf Try.prog 35 4 = some (4, none) := by kernel_rfl
attribute [go_sem] fld35_4
theorem fld35_5 : fieldOf Try.prog 35 5 = some (5, none) := by kernel_rfl
attribute [go_sem] fld35_5
theorem fld35_6 : fieldOf Try.prog 35 6 = some (6, none) := by kernel_rfl
attribute [go_sem] fld35_6
theorem places35 : placesOf Try.prog 35 = some [(0, 1), (1, 1), (2, 1), (3, 1), (4, 1), (5, 1), (6, 1)] := by kernel_rfl
attribute [go_sem] places35
theorem agg44 : aggOf Try.prog 44 = some (some 3) := by kernel_rfl
attribute [go_sem] agg44
theorem zero44 : zeroOf Try.prog 44 = some [.string ByteArray.empty, .int .i64 0, .int .i64 0] := by kernel_rfl
attribute [go_sem] zero44
theorem fld44_0 : fieldOf Try.prog 44 0 = some (0, none) := by kernel_rfl
attribute [go_sem] fld44_0
theorem fld44_1 : fieldOf Try.prog 44 1 = some (1, none) := by kernel_rfl
attribute [go_sem] fld44_1
theorem fld44_2 : fieldOf Try.prog 44 2 = some (2, none) := by kernel_rfl
attribute [go_sem] fld44_2
theorem places44 : placesOf Try.prog 44 = some [(0, 1), (1, 1), (2, 1)] := by kernel_rfl
attribute [go_sem] places44
theorem agg50 : aggOf Try.prog 50 = some (some 3) := by kernel_rfl
attribute [go_sem] agg50
theorem zero50 : zeroOf Try.prog 50 = some [.string ByteArray.empty, .int .i64 0, .int .i64 0] := by kernel_rfl
attribute [go_sem] zero50
theorem fld50_0 : fieldOf Try.prog 50 0 = some (0, none) := by kernel_rfl
attribute [go_sem] fld50_0
theorem fld50_1 : fieldOf Try.prog 50 1 = some (1, none) := by kernel_rfl
attribute [go_sem] fld50_1
theorem fld50_2 : fieldOf Try.prog 50 2 = some (2, none) := by kernel_rfl
attribute [go_sem] fld50_2
theorem places50 : placesOf Try.prog 50 = some [(0, 1), (1, 1), (2, 1)] := by kernel_rfl
attribute [go_sem] places50
theorem agg52 : aggOf Try.prog 52 = some none := by kernel_rfl
attribute [go_sem] agg52
theorem zero52 : zeroOf Try.prog 52 = some [.slice none 0 0] := by kernel_rfl
attribute [go_sem] zero52
theorem elem52 : elemOf' Try.prog 52 = some (1, 8, [.int .i64 0]) := by kernel_rfl
attribute [go_sem] elem52
theorem und52 : Try.prog.underlying 52 = some (.slice 3) := by kernel_rfl
attribute [go_sem] und52
theorem appT52 : appT Try.prog 52 = true := by kernel_rfl
attribute [go_sem] appT52
theorem agg54 : aggOf Try.prog 54 = some (some 2) := by kernel_rfl
attribute [go_sem] agg54
theorem zero54 : zeroOf Try.prog 54 = some [.int .i64 0, .slice none 0 0] := by kernel_rfl
attribute [go_sem] zero54
theorem fld54_0 : fieldOf Try.prog 54 0 = some (0, none) := by kernel_rfl
attribute [go_sem] fld54_0
theorem fld54_1 : fieldOf Try.prog 54 1 = some (1, none) := by kernel_rfl
attribute [go_sem] fld54_1
theorem places54 : placesOf Try.prog 54 = some [(0, 1), (1, 1)] := by kernel_rfl
attribute [go_sem] places54
theorem agg56 : aggOf Try.prog 56 = some (some 2) := by kernel_rfl
attribute [go_sem] agg56
theorem zero56 : zeroOf Try.prog 56 = some [.int .i64 0, .slice none 0 0] := by kernel_rfl
attribute [go_sem] zero56
theorem fld56_0 : fieldOf Try.prog 56 0 = some (0, none) := by kernel_rfl
attribute [go_sem] fld56_0
theorem fld56_1 : fieldOf Try.prog 56 1 = some (1, none) := by kernel_rfl
attribute [go_sem] fld56_1
theorem places56 : placesOf Try.prog 56 = some [(0, 1), (1, 1)] := by kernel_rfl
attribute [go_sem] places56
theorem agg80 : aggOf Try.prog 80 = some none := by kernel_rfl
attribute [go_sem] agg80
theorem zero80 : zeroOf Try.prog 80 = some [.int .u32 0] := by kernel_rfl
attribute [go_sem] zero80
theorem und80 : Try.prog.underlying 80 = some (.int .u32) := by kernel_rfl
attribute [go_sem] und80
end Go.Proofs.Ytkcbnbbbijlhcaf.A

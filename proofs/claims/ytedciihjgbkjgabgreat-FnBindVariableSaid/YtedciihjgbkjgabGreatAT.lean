/- WHAT THE TYPES OF THIS TRANSLATION COME TO. Conditions: none. (Printed by a program of this session.) -/
import Derived.Test.YtedciihjgbkjgabGreatA39
import Derived.Test.YtedciihjgbkjgabGreatProg
namespace Go.Proofs.YtedciihjgbkjgabGreat.A
open Go
theorem agg2 : aggOf Tryz.prog 2 = some none := by kernel_rfl
attribute [go_sem] agg2
theorem zero2 : zeroOf Tryz.prog 2 = some [.int .i64 0] := by kernel_rfl
attribute [go_sem] zero2
theorem und2 : Tryz.prog.underlying 2 = some (.int .i64) := by kernel_rfl
attribute [go_sem] und2
theorem agg3 : aggOf Tryz.prog 3 = some none := by kernel_rfl
attribute [go_sem] agg3
theorem zero3 : zeroOf Tryz.prog 3 = some [.int .i64 0] := by kernel_rfl
attribute [go_sem] zero3
theorem und3 : Tryz.prog.underlying 3 = some (.int .i64) := by kernel_rfl
attribute [go_sem] und3
theorem agg4 : aggOf Tryz.prog 4 = some none := by kernel_rfl
attribute [go_sem] agg4
theorem zero4 : zeroOf Tryz.prog 4 = some [.bool false] := by kernel_rfl
attribute [go_sem] zero4
theorem und4 : Tryz.prog.underlying 4 = some .bool := by kernel_rfl
attribute [go_sem] und4
theorem agg5 : aggOf Tryz.prog 5 = some none := by kernel_rfl
attribute [go_sem] agg5
theorem zero5 : zeroOf Tryz.prog 5 = some [.int .u8 0] := by kernel_rfl
attribute [go_sem] zero5
theorem und5 : Tryz.prog.underlying 5 = some (.int .u8) := by kernel_rfl
attribute [go_sem] und5
theorem agg9 : aggOf Tryz.prog 9 = some none := by kernel_rfl
attribute [go_sem] agg9
theorem zero9 : zeroOf Tryz.prog 9 = some [.string ByteArray.empty] := by kernel_rfl
attribute [go_sem] zero9
theorem und9 : Tryz.prog.underlying 9 = some .string := by kernel_rfl
attribute [go_sem] und9
theorem appT9 : appT Tryz.prog 9 = true := by kernel_rfl
attribute [go_sem] appT9
theorem agg12 : aggOf Tryz.prog 12 = some none := by kernel_rfl
attribute [go_sem] agg12
theorem zero12 : zeroOf Tryz.prog 12 = some [.int .u64 0] := by kernel_rfl
attribute [go_sem] zero12
theorem und12 : Tryz.prog.underlying 12 = some (.int .u64) := by kernel_rfl
attribute [go_sem] und12
theorem agg21 : aggOf Tryz.prog 21 = some none := by kernel_rfl
attribute [go_sem] agg21
theorem zero21 : zeroOf Tryz.prog 21 = some [.int .i32 0] := by kernel_rfl
attribute [go_sem] zero21
theorem und21 : Tryz.prog.underlying 21 = some (.int .i32) := by kernel_rfl
attribute [go_sem] und21
theorem agg22 : aggOf Tryz.prog 22 = some none := by kernel_rfl
attribute [go_sem] agg22
theorem zero22 : zeroOf Tryz.prog 22 = some [.slice none 0 0] := by kernel_rfl
attribute [go_sem] zero22
theorem elem22 : elemOf' Tryz.prog 22 = some (1, 1, [.int .u8 0]) := by kernel_rfl
attribute [go_sem] elem22
theorem und22 : Tryz.prog.underlying 22 = some (.slice 5) := by kernel_rfl
attribute [go_sem] und22
theorem appT22 : appT Tryz.prog 22 = true := by kernel_rfl
attribute [go_sem] appT22
theorem agg24 : aggOf Tryz.prog 24 = some none := by kernel_rfl
attribute [go_sem] agg24
theorem zero24 : zeroOf Tryz.prog 24 = some [.slice none 0 0] := by kernel_rfl
attribute [go_sem] zero24
theorem elem24 : elemOf' Tryz.prog 24 = some (3, 32, [.string ByteArray.empty, .int .i64 0, .int .i64 0]) := by kernel_rfl
attribute [go_sem] elem24
theorem und24 : Tryz.prog.underlying 24 = some (.slice 74) := by kernel_rfl
attribute [go_sem] und24
theorem appT24 : appT Tryz.prog 24 = true := by kernel_rfl
attribute [go_sem] appT24
theorem agg25 : aggOf Tryz.prog 25 = some none := by kernel_rfl
attribute [go_sem] agg25
theorem zero25 : zeroOf Tryz.prog 25 = some [.slice none 0 0] := by kernel_rfl
attribute [go_sem] zero25
theorem elem25 : elemOf' Tryz.prog 25 = some (2, 32, [.int .i64 0, .slice none 0 0]) := by kernel_rfl
attribute [go_sem] elem25
theorem und25 : Tryz.prog.underlying 25 = some (.slice 48) := by kernel_rfl
attribute [go_sem] und25
theorem appT25 : appT Tryz.prog 25 = true := by kernel_rfl
attribute [go_sem] appT25
theorem agg27 : aggOf Tryz.prog 27 = some (some 2) := by kernel_rfl
attribute [go_sem] agg27
theorem zero27 : zeroOf Tryz.prog 27 = some [.slice none 0 0, .slice none 0 0] := by kernel_rfl
attribute [go_sem] zero27
theorem fld27_0 : fieldOf Tryz.prog 27 0 = some (0, none) := by kernel_rfl
attribute [go_sem] fld27_0
theorem fld27_1 : fieldOf Tryz.prog 27 1 = some (1, none) := by kernel_rfl
attribute [go_sem] fld27_1
theorem places27 : placesOf Tryz.prog 27 = some [(0, 1), (1, 1)] := by kernel_rfl
attribute [go_sem] places27
theorem agg28 : aggOf Tryz.prog 28 = some none := by kernel_rfl
attribute [go_sem] agg28
theorem zero28 : zeroOf Tryz.prog 28 = some [.slice none 0 0] := by kernel_rfl
attribute [go_sem] zero28
theorem elem28 : elemOf' Tryz.prog 28 = some (2, 32, [.int .i64 0, .slice none 0 0]) := by kernel_rfl
attribute [go_sem] elem28
theorem und28 : Tryz.prog.underlying 28 = some (.slice 50) := by kernel_rfl
attribute [go_sem] und28
theorem appT28 : appT Tryz.prog 28 = true := by kernel_rfl
attribute [go_sem] appT28
theorem agg29 : aggOf Tryz.prog 29 = some none := by kernel_rfl
attribute [go_sem] agg29
theorem zero29 : zeroOf Tryz.prog 29 = some [.slice none 0 0] := by kernel_rfl
attribute [go_sem] zero29
theorem elem29 : elemOf' Tryz.prog 29 = some (1, 8, [.int .i64 0]) := by kernel_rfl
attribute [go_sem] elem29
theorem und29 : Tryz.prog.underlying 29 = some (.slice 3) := by kernel_rfl
attribute [go_sem] und29
theorem appT29 : appT Tryz.prog 29 = true := by kernel_rfl
attribute [go_sem] appT29
theorem agg31 : aggOf Tryz.prog 31 = some (some 3) := by kernel_rfl
attribute [go_sem] agg31
theorem zero31 : zeroOf Tryz.prog 31 = some [.int .i64 0, .slice none 0 0, .slice none 0 0] := by kernel_rfl
attribute [go_sem] zero31
theorem fld31_0 : fieldOf Tryz.prog 31 0 = some (0, none) := by kernel_rfl
attribute [go_sem] fld31_0
theorem fld31_1 : fieldOf Tryz.prog 31 1 = some (1, none) := by kernel_rfl
attribute [go_sem] fld31_1
theorem fld31_2 : fieldOf Tryz.prog 31 2 = some (2, none) := by kernel_rfl
attribute [go_sem] fld31_2
theorem places31 : placesOf Tryz.prog 31 = some [(0, 1), (1, 1), (2, 1)] := by kernel_rfl
attribute [go_sem] places31
theorem agg41 : aggOf Tryz.prog 41 = some none := by kernel_rfl
attribute [go_sem] agg41
theorem zero41 : zeroOf Tryz.prog 41 = some [.slice none 0 0] := by kernel_rfl
attribute [go_sem] zero41
theorem elem41 : elemOf' Tryz.prog 41 = some (2, 48, [.slice none 0 0, .slice none 0 0]) := by kernel_rfl
attribute [go_sem] elem41
theorem und41 : Tryz.prog.underlying 41 = some (.slice 44) := by kernel_rfl
attribute [go_sem] und41
theorem appT41 : appT Tryz.prog 41 = true := by kernel_rfl
attribute [go_sem] appT41
theorem agg44 : aggOf Tryz.prog 44 = some (some 2) := by kernel_rfl
attribute [go_sem] agg44
theorem zero44 : zeroOf Tryz.prog 44 = some [.slice none 0 0, .slice none 0 0] := by kernel_rfl
attribute [go_sem] zero44
theorem fld44_0 : fieldOf Tryz.prog 44 0 = some (0, none) := by kernel_rfl
attribute [go_sem] fld44_0
theorem fld44_1 : fieldOf Tryz.prog 44 1 = some (1, none) := by kernel_rfl
attribute [go_sem] fld44_1
theorem places44 : placesOf Tryz.prog 44 = some [(0, 1), (1, 1)] := by kernel_rfl
attribute [go_sem] places44
theorem agg48 : aggOf Tryz.prog 48 = some (some 2) := by kernel_rfl
attribute [go_sem] agg48
theorem zero48 : zeroOf Tryz.prog 48 = some [.int .i64 0, .slice none 0 0] := by kernel_rfl
attribute [go_sem] zero48
theorem fld48_0 : fieldOf Tryz.prog 48 0 = some (0, none) := by kernel_rfl
attribute [go_sem] fld48_0
theorem fld48_1 : fieldOf Tryz.prog 48 1 = some (1, none) := by kernel_rfl
attribute [go_sem] fld48_1
theorem places48 : placesOf Tryz.prog 48 = some [(0, 1), (1, 1)] := by kernel_rfl
attribute [go_sem] places48
theorem agg50 : aggOf Tryz.prog 50 = some (some 2) := by kernel_rfl
attribute [go_sem] agg50
theorem zero50 : zeroOf Tryz.prog 50 = some [.int .i64 0, .slice none 0 0] := by kernel_rfl
attribute [go_sem] zero50
theorem fld50_0 : fieldOf Tryz.prog 50 0 = some (0, none) := by kernel_rfl
attribute [go_sem] fld50_0
theorem fld50_1 : fieldOf Tryz.prog 50 1 = some (1, none) := by kernel_rfl
attribute [go_sem] fld50_1
theorem places50 : placesOf Tryz.prog 50 = some [(0, 1), (1, 1)] := by kernel_rfl
attribute [go_sem] places50
theorem agg51 : aggOf Tryz.prog 51 = some none := by kernel_rfl
attribute [go_sem] agg51
theorem zero51 : zeroOf Tryz.prog 51 = some [.slice none 0 0] := by kernel_rfl
attribute [go_sem] zero51
theorem elem51 : elemOf' Tryz.prog 51 = some (1, 24, [.slice none 0 0]) := by kernel_rfl
attribute [go_sem] elem51
theorem und51 : Tryz.prog.underlying 51 = some (.slice 29) := by kernel_rfl
attribute [go_sem] und51
theorem appT51 : appT Tryz.prog 51 = true := by kernel_rfl
attribute [go_sem] appT51
theorem agg56 : aggOf Tryz.prog 56 = some none := by kernel_rfl
attribute [go_sem] agg56
theorem zero56 : zeroOf Tryz.prog 56 = some [.pointer none] := by kernel_rfl
attribute [go_sem] zero56
theorem agg72 : aggOf Tryz.prog 72 = some none := by kernel_rfl
attribute [go_sem] agg72
theorem zero72 : zeroOf Tryz.prog 72 = some [.slice none 0 0] := by kernel_rfl
attribute [go_sem] zero72
theorem elem72 : elemOf' Tryz.prog 72 = some (1, 1, [.bool false]) := by kernel_rfl
attribute [go_sem] elem72
theorem und72 : Tryz.prog.underlying 72 = some (.slice 4) := by kernel_rfl
attribute [go_sem] und72
theorem appT72 : appT Tryz.prog 72 = true := by kernel_rfl
attribute [go_sem] appT72
theorem agg74 : aggOf Tryz.prog 74 = some (some 3) := by kernel_rfl
attribute [go_sem] agg74
theorem zero74 : zeroOf Tryz.prog 74 = some [.string ByteArray.empty, .int .i64 0, .int .i64 0] := by kernel_rfl
attribute [go_sem] zero74
theorem fld74_0 : fieldOf Tryz.prog 74 0 = some (0, none) := by kernel_rfl
attribute [go_sem] fld74_0
theorem fld74_1 : fieldOf Tryz.prog 74 1 = some (1, none) := by kernel_rfl
attribute [go_sem] fld74_1
theorem fld74_2 : fieldOf Tryz.prog 74 2 = some (2, none) := by kernel_rfl
attribute [go_sem] fld74_2
theorem places74 : placesOf Tryz.prog 74 = some [(0, 1), (1, 1), (2, 1)] := by kernel_rfl
attribute [go_sem] places74
theorem agg75 : aggOf Tryz.prog 75 = some none := by kernel_rfl
attribute [go_sem] agg75
theorem agg100 : aggOf Tryz.prog 100 = some none := by kernel_rfl
attribute [go_sem] agg100
theorem zero100 : zeroOf Tryz.prog 100 = some [.int .u64 0] := by kernel_rfl
attribute [go_sem] zero100
theorem und100 : Tryz.prog.underlying 100 = some (.int .u64) := by kernel_rfl
attribute [go_sem] und100
theorem agg105 : aggOf Tryz.prog 105 = some (some 3) := by kernel_rfl
attribute [go_sem] agg105
theorem zero105 : zeroOf Tryz.prog 105 = some [.slice none 0 0, .int .i64 0, .int .i64 0] := by kernel_rfl
attribute [go_sem] zero105
theorem fld105_0 : fieldOf Tryz.prog 105 0 = some (0, none) := by kernel_rfl
attribute [go_sem] fld105_0
theorem fld105_1 : fieldOf Tryz.prog 105 1 = some (1, none) := by kernel_rfl
attribute [go_sem] fld105_1
theorem fld105_2 : fieldOf Tryz.prog 105 2 = some (2, none) := by kernel_rfl
attribute [go_sem] fld105_2
theorem places105 : placesOf Tryz.prog 105 = some [(0, 1), (1, 1), (2, 1)] := by kernel_rfl
attribute [go_sem] places105
theorem agg126 : aggOf Tryz.prog 126 = some none := by kernel_rfl
attribute [go_sem] agg126
theorem zero126 : zeroOf Tryz.prog 126 = some [.int .u32 0] := by kernel_rfl
attribute [go_sem] zero126
theorem und126 : Tryz.prog.underlying 126 = some (.int .u32) := by kernel_rfl
attribute [go_sem] und126
theorem agg128 : aggOf Tryz.prog 128 = some none := by kernel_rfl
attribute [go_sem] agg128
theorem zero128 : zeroOf Tryz.prog 128 = some [.int .u64 0] := by kernel_rfl
attribute [go_sem] zero128
theorem und128 : Tryz.prog.underlying 128 = some (.int .u64) := by kernel_rfl
attribute [go_sem] und128
theorem agg134 : aggOf Tryz.prog 134 = some none := by kernel_rfl
attribute [go_sem] agg134
theorem zero134 : zeroOf Tryz.prog 134 = some [.slice none 0 0] := by kernel_rfl
attribute [go_sem] zero134
theorem elem134 : elemOf' Tryz.prog 134 = some (1, 16, [.string ByteArray.empty]) := by kernel_rfl
attribute [go_sem] elem134
theorem und134 : Tryz.prog.underlying 134 = some (.slice 9) := by kernel_rfl
attribute [go_sem] und134
theorem appT134 : appT Tryz.prog 134 = true := by kernel_rfl
attribute [go_sem] appT134
end Go.Proofs.YtedciihjgbkjgabGreat.A

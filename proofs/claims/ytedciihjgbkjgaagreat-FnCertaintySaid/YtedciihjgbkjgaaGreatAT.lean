/- WHAT THE TYPES OF THIS TRANSLATION COME TO. Conditions: none. (Printed by a program of this session.) -/
import Derived.Test.YtedciihjgbkjgaaGreatA39
import Derived.Test.YtedciihjgbkjgaaGreatProg
namespace Go.Proofs.YtedciihjgbkjgaaGreat.A
open Go
theorem agg2 : aggOf Tryz.prog 2 = some none := by kernel_rfl
attribute [go_sem] agg2
theorem zero2 : zeroOf Tryz.prog 2 = some [.int .i64 0] := by kernel_rfl
attribute [go_sem] zero2
theorem und2 : Tryz.prog.underlying 2 = some (.int .i64) := by kernel_rfl
attribute [go_sem] und2
theorem agg3 : aggOf Tryz.prog 3 = some none := by kernel_rfl
attribute [go_sem] agg3
theorem zero3 : zeroOf Tryz.prog 3 = some [.int .i64 0] := by kernel_rfl
attribute [go_sem] zero3
theorem und3 : Tryz.prog.underlying 3 = some (.int .i64) := by kernel_rfl
attribute [go_sem] und3
theorem agg4 : aggOf Tryz.prog 4 = some none := by kernel_rfl
attribute [go_sem] agg4
theorem zero4 : zeroOf Tryz.prog 4 = some [.bool false] := by kernel_rfl
attribute [go_sem] zero4
theorem und4 : Tryz.prog.underlying 4 = some .bool := by kernel_rfl
attribute [go_sem] und4
theorem agg5 : aggOf Tryz.prog 5 = some none := by kernel_rfl
attribute [go_sem] agg5
theorem zero5 : zeroOf Tryz.prog 5 = some [.int .u8 0] := by kernel_rfl
attribute [go_sem] zero5
theorem und5 : Tryz.prog.underlying 5 = some (.int .u8) := by kernel_rfl
attribute [go_sem] und5
theorem agg9 : aggOf Tryz.prog 9 = some none := by kernel_rfl
attribute [go_sem] agg9
theorem zero9 : zeroOf Tryz.prog 9 = some [.string ByteArray.empty] := by kernel_rfl
attribute [go_sem] zero9
theorem und9 : Tryz.prog.underlying 9 = some .string := by kernel_rfl
attribute [go_sem] und9
theorem appT9 : appT Tryz.prog 9 = true := by kernel_rfl
attribute [go_sem] appT9
theorem agg12 : aggOf Tryz.prog 12 = some none := by kernel_rfl
attribute [go_sem] agg12
theorem zero12 : zeroOf Tryz.prog 12 = some [.int .u64 0] := by kernel_rfl
attribute [go_sem] zero12
theorem und12 : Tryz.prog.underlying 12 = some (.int .u64) := by kernel_rfl
attribute [go_sem] und12
theorem agg21 : aggOf Tryz.prog 21 = some none := by kernel_rfl
attribute [go_sem] agg21
theorem zero21 : zeroOf Tryz.prog 21 = some [.int .i32 0] := by kernel_rfl
attribute [go_sem] zero21
theorem und21 : Tryz.prog.underlying 21 = some (.int .i32) := by kernel_rfl
attribute [go_sem] und21
theorem agg22 : aggOf Tryz.prog 22 = some none := by kernel_rfl
attribute [go_sem] agg22
theorem zero22 : zeroOf Tryz.prog 22 = some [.slice none 0 0] := by kernel_rfl
attribute [go_sem] zero22
theorem elem22 : elemOf' Tryz.prog 22 = some (1, 1, [.int .u8 0]) := by kernel_rfl
attribute [go_sem] elem22
theorem und22 : Tryz.prog.underlying 22 = some (.slice 5) := by kernel_rfl
attribute [go_sem] und22
theorem appT22 : appT Tryz.prog 22 = true := by kernel_rfl
attribute [go_sem] appT22
theorem agg24 : aggOf Tryz.prog 24 = some none := by kernel_rfl
attribute [go_sem] agg24
theorem zero24 : zeroOf Tryz.prog 24 = some [.slice none 0 0] := by kernel_rfl
attribute [go_sem] zero24
theorem elem24 : elemOf' Tryz.prog 24 = some (3, 32, [.string ByteArray.empty, .int .i64 0, .int .i64 0]) := by kernel_rfl
attribute [go_sem] elem24
theorem und24 : Tryz.prog.underlying 24 = some (.slice 79) := by kernel_rfl
attribute [go_sem] und24
theorem appT24 : appT Tryz.prog 24 = true := by kernel_rfl
attribute [go_sem] appT24
theorem agg25 : aggOf Tryz.prog 25 = some none := by kernel_rfl
attribute [go_sem] agg25
theorem zero25 : zeroOf Tryz.prog 25 = some [.slice none 0 0] := by kernel_rfl
attribute [go_sem] zero25
theorem elem25 : elemOf' Tryz.prog 25 = some (2, 32, [.int .i64 0, .slice none 0 0]) := by kernel_rfl
attribute [go_sem] elem25
theorem und25 : Tryz.prog.underlying 25 = some (.slice 71) := by kernel_rfl
attribute [go_sem] und25
theorem appT25 : appT Tryz.prog 25 = true := by kernel_rfl
attribute [go_sem] appT25
theorem agg27 : aggOf Tryz.prog 27 = some (some 2) := by kernel_rfl
attribute [go_sem] agg27
theorem zero27 : zeroOf Tryz.prog 27 = some [.slice none 0 0, .slice none 0 0] := by kernel_rfl
attribute [go_sem] zero27
theorem fld27_0 : fieldOf Tryz.prog 27 0 = some (0, none) := by kernel_rfl
attribute [go_sem] fld27_0
theorem fld27_1 : fieldOf Tryz.prog 27 1 = some (1, none) := by kernel_rfl
attribute [go_sem] fld27_1
theorem places27 : placesOf Tryz.prog 27 = some [(0, 1), (1, 1)] := by kernel_rfl
attribute [go_sem] places27
theorem agg28 : aggOf Tryz.prog 28 = some none := by kernel_rfl
attribute [go_sem] agg28
theorem zero28 : zeroOf Tryz.prog 28 = some [.slice none 0 0] := by kernel_rfl
attribute [go_sem] zero28
theorem elem28 : elemOf' Tryz.prog 28 = some (2, 32, [.int .i64 0, .slice none 0 0]) := by kernel_rfl
attribute [go_sem] elem28
theorem und28 : Tryz.prog.underlying 28 = some (.slice 77) := by kernel_rfl
attribute [go_sem] und28
theorem appT28 : appT Tryz.prog 28 = true := by kernel_rfl
attribute [go_sem] appT28
theorem agg29 : aggOf Tryz.prog 29 = some none := by kernel_rfl
attribute [go_sem] agg29
theorem zero29 : zeroOf Tryz.prog 29 = some [.slice none 0 0] := by kernel_rfl
attribute [go_sem] zero29
theorem elem29 : elemOf' Tryz.prog 29 = some (1, 8, [.int .i64 0]) := by kernel_rfl
attribute [go_sem] elem29
theorem und29 : Tryz.prog.underlying 29 = some (.slice 3) := by kernel_rfl
attribute [go_sem] und29
theorem appT29 : appT Tryz.prog 29 = true := by kernel_rfl
attribute [go_sem] appT29
theorem agg31 : aggOf Tryz.prog 31 = some (some 3) := by kernel_rfl
attribute [go_sem] agg31
theorem zero31 : zeroOf Tryz.prog 31 = some [.int .i64 0, .slice none 0 0, .slice none 0 0] := by kernel_rfl
attribute [go_sem] zero31
theorem fld31_0 : fieldOf Tryz.prog 31 0 = some (0, none) := by kernel_rfl
attribute [go_sem] fld31_0
theorem fld31_1 : fieldOf Tryz.prog 31 1 = some (1, none) := by kernel_rfl
attribute [go_sem] fld31_1
theorem fld31_2 : fieldOf Tryz.prog 31 2 = some (2, none) := by kernel_rfl
attribute [go_sem] fld31_2
theorem places31 : placesOf Tryz.prog 31 = some [(0, 1), (1, 1), (2, 1)] := by kernel_rfl
attribute [go_sem] places31
theorem agg41 : aggOf Tryz.prog 41 = some none := by kernel_rfl
attribute [go_sem] agg41
theorem zero41 : zeroOf Tryz.prog 41 = some [.slice none 0 0] := by kernel_rfl
attribute [go_sem] zero41
theorem elem41 : elemOf' Tryz.prog 41 = some (2, 48, [.slice none 0 0, .slice none 0 0]) := by kernel_rfl
attribute [go_sem] elem41
theorem und41 : Tryz.prog.underlying 41 = some (.slice 83) := by kernel_rfl
attribute [go_sem] und41
theorem appT41 : appT Tryz.prog 41 = true := by kernel_rfl
attribute [go_sem] appT41
theorem agg43 : aggOf Tryz.prog 43 = some none := by kernel_rfl
attribute [go_sem] agg43
theorem zero43 : zeroOf Tryz.prog 43 = some [.pointer none] := by kernel_rfl
attribute [go_sem] zero43
theorem agg50 : aggOf Tryz.prog 50 = some none := by kernel_rfl
attribute [go_sem] agg50
theorem zero50 : zeroOf Tryz.prog 50 = some [.slice none 0 0] := by kernel_rfl
attribute [go_sem] zero50
theorem elem50 : elemOf' Tryz.prog 50 = some (1, 24, [.slice none 0 0]) := by kernel_rfl
attribute [go_sem] elem50
theorem und50 : Tryz.prog.underlying 50 = some (.slice 29) := by kernel_rfl
attribute [go_sem] und50
theorem appT50 : appT Tryz.prog 50 = true := by kernel_rfl
attribute [go_sem] appT50
theorem agg71 : aggOf Tryz.prog 71 = some (some 2) := by kernel_rfl
attribute [go_sem] agg71
theorem zero71 : zeroOf Tryz.prog 71 = some [.int .i64 0, .slice none 0 0] := by kernel_rfl
attribute [go_sem] zero71
theorem fld71_0 : fieldOf Tryz.prog 71 0 = some (0, none) := by kernel_rfl
attribute [go_sem] fld71_0
theorem fld71_1 : fieldOf Tryz.prog 71 1 = some (1, none) := by kernel_rfl
attribute [go_sem] fld71_1
theorem places71 : placesOf Tryz.prog 71 = some [(0, 1), (1, 1)] := by kernel_rfl
attribute [go_sem] places71
theorem agg75 : aggOf Tryz.prog 75 = some none := by kernel_rfl
attribute [go_sem] agg75
theorem zero75 : zeroOf Tryz.prog 75 = some [.slice none 0 0] := by kernel_rfl
attribute [go_sem] zero75
theorem elem75 : elemOf' Tryz.prog 75 = some (1, 1, [.bool false]) := by kernel_rfl
attribute [go_sem] elem75
theorem und75 : Tryz.prog.underlying 75 = some (.slice 4) := by kernel_rfl
attribute [go_sem] und75
theorem appT75 : appT Tryz.prog 75 = true := by kernel_rfl
attribute [go_sem] appT75
theorem agg77 : aggOf Tryz.prog 77 = some (some 2) := by kernel_rfl
attribute [go_sem] agg77
theorem zero77 : zeroOf Tryz.prog 77 = some [.int .i64 0, .slice none 0 0] := by kernel_rfl
attribute [go_sem] zero77
theorem fld77_0 : fieldOf Tryz.prog 77 0 = some (0, none) := by kernel_rfl
attribute [go_sem] fld77_0
theorem fld77_1 : fieldOf Tryz.prog 77 1 = some (1, none) := by kernel_rfl
attribute [go_sem] fld77_1
theorem places77 : placesOf Tryz.prog 77 = some [(0, 1), (1, 1)] := by kernel_rfl
attribute [go_sem] places77
theorem agg79 : aggOf Tryz.prog 79 = some (some 3) := by kernel_rfl
attribute [go_sem] agg79
theorem zero79 : zeroOf Tryz.prog 79 = some [.string ByteArray.empty, .int .i64 0, .int .i64 0] := by kernel_rfl
attribute [go_sem] zero79
theorem fld79_0 : fieldOf Tryz.prog 79 0 = some (0, none) := by kernel_rfl
attribute [go_sem] fld79_0
theorem fld79_1 : fieldOf Tryz.prog 79 1 = some (1, none) := by kernel_rfl
attribute [go_sem] fld79_1
theorem fld79_2 : fieldOf Tryz.prog 79 2 = some (2, none) := by kernel_rfl
attribute [go_sem] fld79_2
theorem places79 : placesOf Tryz.prog 79 = some [(0, 1), (1, 1), (2, 1)] := by kernel_rfl
attribute [go_sem] places79
theorem agg83 : aggOf Tryz.prog 83 = some (some 2) := by kernel_rfl
attribute [go_sem] agg83
theorem zero83 : zeroOf Tryz.prog 83 = some [.slice none 0 0, .slice none 0 0] := by kernel_rfl
attribute [go_sem] zero83
theorem fld83_0 : fieldOf Tryz.prog 83 0 = some (0, none) := by kernel_rfl
attribute [go_sem] fld83_0
theorem fld83_1 : fieldOf Tryz.prog 83 1 = some (1, none) := by kernel_rfl
attribute [go_sem] fld83_1
theorem places83 : placesOf Tryz.prog 83 = some [(0, 1), (1, 1)] := by kernel_rfl
attribute [go_sem] places83
theorem agg88 : aggOf Tryz.prog 88 = some (some 3) := by kernel_rfl
attribute [go_sem] agg88
theorem zero88 : zeroOf Tryz.prog 88 = some [.slice none 0 0, .int .i64 0, .int .i64 0] := by kernel_rfl
attribute [go_sem] zero88
theorem fld88_0 : fieldOf Tryz.prog 88 0 = some (0, none) := by kernel_rfl
attribute [go_sem] fld88_0
theorem fld88_1 : fieldOf Tryz.prog 88 1 = some (1, none) := by kernel_rfl
attribute [go_sem] fld88_1
theorem fld88_2 : fieldOf Tryz.prog 88 2 = some (2, none) := by kernel_rfl
attribute [go_sem] fld88_2
theorem places88 : placesOf Tryz.prog 88 = some [(0, 1), (1, 1), (2, 1)] := by kernel_rfl
attribute [go_sem] places88
theorem agg111 : aggOf Tryz.prog 111 = some none := by kernel_rfl
attribute [go_sem] agg111
theorem zero111 : zeroOf Tryz.prog 111 = some [.slice none 0 0] := by kernel_rfl
attribute [go_sem] zero111
theorem elem111 : elemOf' Tryz.prog 111 = some (1, 16, [.string ByteArray.empty]) := by kernel_rfl
attribute [go_sem] elem111
theorem und111 : Tryz.prog.underlying 111 = some (.slice 9) := by kernel_rfl
attribute [go_sem] und111
theorem appT111 : appT Tryz.prog 111 = true := by kernel_rfl
attribute [go_sem] appT111
theorem agg112 : aggOf Tryz.prog 112 = some none := by kernel_rfl
attribute [go_sem] agg112
theorem zero112 : zeroOf Tryz.prog 112 = some [.int .u64 0] := by kernel_rfl
attribute [go_sem] zero112
theorem und112 : Tryz.prog.underlying 112 = some (.int .u64) := by kernel_rfl
attribute [go_sem] und112
theorem agg117 : aggOf Tryz.prog 117 = some none := by kernel_rfl
attribute [go_sem] agg117
theorem agg144 : aggOf Tryz.prog 144 = some none := by kernel_rfl
attribute [go_sem] agg144
theorem zero144 : zeroOf Tryz.prog 144 = some [.int .u32 0] := by kernel_rfl
attribute [go_sem] zero144
theorem und144 : Tryz.prog.underlying 144 = some (.int .u32) := by kernel_rfl
attribute [go_sem] und144
theorem agg146 : aggOf Tryz.prog 146 = some none := by kernel_rfl
attribute [go_sem] agg146
theorem zero146 : zeroOf Tryz.prog 146 = some [.int .u64 0] := by kernel_rfl
attribute [go_sem] zero146
theorem und146 : Tryz.prog.underlying 146 = some (.int .u64) := by kernel_rfl
attribute [go_sem] und146
end Go.Proofs.YtedciihjgbkjgaaGreat.A

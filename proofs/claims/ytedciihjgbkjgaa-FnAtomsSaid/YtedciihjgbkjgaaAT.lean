/- WHAT THE TYPES OF THIS TRANSLATION COME TO. Conditions: none. (Printed by a program of this session.) -/
import Derived.Test.YtedciihjgbkjgaaA39
import Derived.Test.YtedciihjgbkjgaaProg
namespace Go.Proofs.Ytedciihjgbkjgaa.A
open Go
theorem agg2 : aggOf Try.prog 2 = some none := by kernel_rfl
attribute [go_sem] agg2
theorem zero2 : zeroOf Try.prog 2 = some [.int .i64 0] := by kernel_rfl
attribute [go_sem] zero2
theorem und2 : Try.prog.underlying 2 = some (.int .i64) := by kernel_rfl
attribute [go_sem] und2
theorem agg3 : aggOf Try.prog 3 = some none := by kernel_rfl
attribute [go_sem] agg3
theorem zero3 : zeroOf Try.prog 3 = some [.int .i64 0] := by kernel_rfl
attribute [go_sem] zero3
theorem und3 : Try.prog.underlying 3 = some (.int .i64) := by kernel_rfl
attribute [go_sem] und3
theorem agg4 : aggOf Try.prog 4 = some none := by kernel_rfl
attribute [go_sem] agg4
theorem zero4 : zeroOf Try.prog 4 = some [.bool false] := by kernel_rfl
attribute [go_sem] zero4
theorem und4 : Try.prog.underlying 4 = some .bool := by kernel_rfl
attribute [go_sem] und4
theorem agg5 : aggOf Try.prog 5 = some none := by kernel_rfl
attribute [go_sem] agg5
theorem zero5 : zeroOf Try.prog 5 = some [.int .u8 0] := by kernel_rfl
attribute [go_sem] zero5
theorem und5 : Try.prog.underlying 5 = some (.int .u8) := by kernel_rfl
attribute [go_sem] und5
theorem agg9 : aggOf Try.prog 9 = some none := by kernel_rfl
attribute [go_sem] agg9
theorem zero9 : zeroOf Try.prog 9 = some [.string ByteArray.empty] := by kernel_rfl
attribute [go_sem] zero9
theorem und9 : Try.prog.underlying 9 = some .string := by kernel_rfl
attribute [go_sem] und9
theorem appT9 : appT Try.prog 9 = true := by kernel_rfl
attribute [go_sem] appT9
theorem agg12 : aggOf Try.prog 12 = some none := by kernel_rfl
attribute [go_sem] agg12
theorem zero12 : zeroOf Try.prog 12 = some [.int .u64 0] := by kernel_rfl
attribute [go_sem] zero12
theorem und12 : Try.prog.underlying 12 = some (.int .u64) := by kernel_rfl
attribute [go_sem] und12
theorem agg21 : aggOf Try.prog 21 = some none := by kernel_rfl
attribute [go_sem] agg21
theorem zero21 : zeroOf Try.prog 21 = some [.int .i32 0] := by kernel_rfl
attribute [go_sem] zero21
theorem und21 : Try.prog.underlying 21 = some (.int .i32) := by kernel_rfl
attribute [go_sem] und21
theorem agg22 : aggOf Try.prog 22 = some none := by kernel_rfl
attribute [go_sem] agg22
theorem zero22 : zeroOf Try.prog 22 = some [.slice none 0 0] := by kernel_rfl
attribute [go_sem] zero22
theorem elem22 : elemOf' Try.prog 22 = some (1, 1, [.int .u8 0]) := by kernel_rfl
attribute [go_sem] elem22
theorem und22 : Try.prog.underlying 22 = some (.slice 5) := by kernel_rfl
attribute [go_sem] und22
theorem appT22 : appT Try.prog 22 = true := by kernel_rfl
attribute [go_sem] appT22
theorem agg24 : aggOf Try.prog 24 = some none := by kernel_rfl
attribute [go_sem] agg24
theorem zero24 : zeroOf Try.prog 24 = some [.slice none 0 0] := by kernel_rfl
attribute [go_sem] zero24
theorem elem24 : elemOf' Try.prog 24 = some (3, 32, [.string ByteArray.empty, .int .i64 0, .int .i64 0]) := by kernel_rfl
attribute [go_sem] elem24
theorem und24 : Try.prog.underlying 24 = some (.slice 71) := by kernel_rfl
attribute [go_sem] und24
theorem appT24 : appT Try.prog 24 = true := by kernel_rfl
attribute [go_sem] appT24
theorem agg25 : aggOf Try.prog 25 = some none := by kernel_rfl
attribute [go_sem] agg25
theorem zero25 : zeroOf Try.prog 25 = some [.slice none 0 0] := by kernel_rfl
attribute [go_sem] zero25
theorem elem25 : elemOf' Try.prog 25 = some (2, 32, [.int .i64 0, .slice none 0 0]) := by kernel_rfl
attribute [go_sem] elem25
theorem und25 : Try.prog.underlying 25 = some (.slice 52) := by kernel_rfl
attribute [go_sem] und25
theorem appT25 : appT Try.prog 25 = true := by kernel_rfl
attribute [go_sem] appT25
theorem agg26 : aggOf Try.prog 26 = some none := by kernel_rfl
attribute [go_sem] agg26
theorem zero26 : zeroOf Try.prog 26 = some [.slice none 0 0] := by kernel_rfl
attribute [go_sem] zero26
theorem elem26 : elemOf' Try.prog 26 = some (1, 8, [.int .i64 0]) := by kernel_rfl
attribute [go_sem] elem26
theorem und26 : Try.prog.underlying 26 = some (.slice 3) := by kernel_rfl
attribute [go_sem] und26
theorem appT26 : appT Try.prog 26 = true := by kernel_rfl
attribute [go_sem] appT26
theorem agg28 : aggOf Try.prog 28 = some (some 3) := by kernel_rfl
attribute [go_sem] agg28
theorem zero28 : zeroOf Try.prog 28 = some [.int .i64 0, .slice none 0 0, .slice none 0 0] := by kernel_rfl
attribute [go_sem] zero28
theorem fld28_0 : fieldOf Try.prog 28 0 = some (0, none) := by kernel_rfl
attribute [go_sem] fld28_0
theorem fld28_1 : fieldOf Try.prog 28 1 = some (1, none) := by kernel_rfl
attribute [go_sem] fld28_1
theorem fld28_2 : fieldOf Try.prog 28 2 = some (2, none) := by kernel_rfl
attribute [go_sem] fld28_2
theorem places28 : placesOf Try.prog 28 = some [(0, 1), (1, 1), (2, 1)] := by kernel_rfl
attribute [go_sem] places28
theorem agg42 : aggOf Try.prog 42 = some none := by kernel_rfl
attribute [go_sem] agg42
theorem zero42 : zeroOf Try.prog 42 = some [.slice none 0 0] := by kernel_rfl
attribute [go_sem] zero42
theorem elem42 : elemOf' Try.prog 42 = some (2, 32, [.int .i64 0, .slice none 0 0]) := by kernel_rfl
attribute [go_sem] elem42
theorem und42 : Try.prog.underlying 42 = some (.slice 91) := by kernel_rfl
attribute [go_sem] und42
theorem appT42 : appT Try.prog 42 = true := by kernel_rfl
attribute [go_sem] appT42
theorem agg44 : aggOf Try.prog 44 = some (some 3) := by kernel_rfl
attribute [go_sem] agg44
theorem zero44 : zeroOf Try.prog 44 = some [.int .i64 0, .slice none 0 0, .slice none 0 0] := by kernel_rfl
attribute [go_sem] zero44
theorem fld44_0 : fieldOf Try.prog 44 0 = some (0, none) := by kernel_rfl
attribute [go_sem] fld44_0
theorem fld44_1 : fieldOf Try.prog 44 1 = some (1, none) := by kernel_rfl
attribute [go_sem] fld44_1
theorem fld44_2 : fieldOf Try.prog 44 2 = some (2, none) := by kernel_rfl
attribute [go_sem] fld44_2
theorem places44 : placesOf Try.prog 44 = some [(0, 1), (1, 1), (2, 1)] := by kernel_rfl
attribute [go_sem] places44
theorem agg52 : aggOf Try.prog 52 = some (some 2) := by kernel_rfl
attribute [go_sem] agg52
theorem zero52 : zeroOf Try.prog 52 = some [.int .i64 0, .slice none 0 0] := by kernel_rfl
attribute [go_sem] zero52
theorem fld52_0 : fieldOf Try.prog 52 0 = some (0, none) := by kernel_rfl
attribute [go_sem] fld52_0
theorem fld52_1 : fieldOf Try.prog 52 1 = some (1, none) := by kernel_rfl
attribute [go_sem] fld52_1
theorem places52 : placesOf Try.prog 52 = some [(0, 1), (1, 1)] := by kernel_rfl
attribute [go_sem] places52
theorem agg59 : aggOf Try.prog 59 = some none := by kernel_rfl
attribute [go_sem] agg59
theorem zero59 : zeroOf Try.prog 59 = some [.pointer none] := by kernel_rfl
attribute [go_sem] zero59
theorem agg69 : aggOf Try.prog 69 = some none := by kernel_rfl
attribute [go_sem] agg69
theorem zero69 : zeroOf Try.prog 69 = some [.slice none 0 0] := by kernel_rfl
attribute [go_sem] zero69
theorem elem69 : elemOf' Try.prog 69 = some (1, 1, [.bool false]) := by kernel_rfl
attribute [go_sem] elem69
theorem und69 : Try.prog.underlying 69 = some (.slice 4) := by kernel_rfl
attribute [go_sem] und69
theorem appT69 : appT Try.prog 69 = true := by kernel_rfl
attribute [go_sem] appT69
theorem agg71 : aggOf Try.prog 71 = some (some 3) := by kernel_rfl
attribute [go_sem] agg71
theorem zero71 : zeroOf Try.prog 71 = some [.string ByteArray.empty, .int .i64 0, .int .i64 0] := by kernel_rfl
attribute [go_sem] zero71
theorem fld71_0 : fieldOf Try.prog 71 0 = some (0, none) := by kernel_rfl
attribute [go_sem] fld71_0
theorem fld71_1 : fieldOf Try.prog 71 1 = some (1, none) := by kernel_rfl
attribute [go_sem] fld71_1
theorem fld71_2 : fieldOf Try.prog 71 2 = some (2, none) := by kernel_rfl
attribute [go_sem] fld71_2
theorem places71 : placesOf Try.prog 71 = some [(0, 1), (1, 1), (2, 1)] := by kernel_rfl
attribute [go_sem] places71
theorem agg91 : aggOf Try.prog 91 = some (some 2) := by kernel_rfl
attribute [go_sem] agg91
theorem zero91 : zeroOf Try.prog 91 = some [.int .i64 0, .slice none 0 0] := by kernel_rfl
attribute [go_sem] zero91
theorem fld91_0 : fieldOf Try.prog 91 0 = some (0, none) := by kernel_rfl
attribute [go_sem] fld91_0
theorem fld91_1 : fieldOf Try.prog 91 1 = some (1, none) := by kernel_rfl
attribute [go_sem] fld91_1
theorem places91 : placesOf Try.prog 91 = some [(0, 1), (1, 1)] := by kernel_rfl
attribute [go_sem] places91
theorem agg98 : aggOf Try.prog 98 = some (some 3) := by kernel_rfl
attribute [go_sem] agg98
theorem zero98 : zeroOf Try.prog 98 = some [.slice none 0 0, .int .i64 0, .int .i64 0] := by kernel_rfl
attribute [go_sem] zero98
theorem fld98_0 : fieldOf Try.prog 98 0 = some (0, none) := by kernel_rfl
attribute [go_sem] fld98_0
theorem fld98_1 : fieldOf Try.prog 98 1 = some (1, none) := by kernel_rfl
attribute [go_sem] fld98_1
theorem fld98_2 : fieldOf Try.prog 98 2 = some (2, none) := by kernel_rfl
attribute [go_sem] fld98_2
theorem places98 : placesOf Try.prog 98 = some [(0, 1), (1, 1), (2, 1)] := by kernel_rfl
attribute [go_sem] places98
theorem agg100 : aggOf Try.prog 100 = some none := by kernel_rfl
attribute [go_sem] agg100
theorem zero100 : zeroOf Try.prog 100 = some [.int .u64 0] := by kernel_rfl
attribute [go_sem] zero100
theorem und100 : Try.prog.underlying 100 = some (.int .u64) := by kernel_rfl
attribute [go_sem] und100
theorem agg103 : aggOf Try.prog 103 = some none := by kernel_rfl
attribute [go_sem] agg103
theorem zero103 : zeroOf Try.prog 103 = some [.slice none 0 0] := by kernel_rfl
attribute [go_sem] zero103
theorem elem103 : elemOf' Try.prog 103 = some (1, 24, [.slice none 0 0]) := by kernel_rfl
attribute [go_sem] elem103
theorem und103 : Try.prog.underlying 103 = some (.slice 26) := by kernel_rfl
attribute [go_sem] und103
theorem appT103 : appT Try.prog 103 = true := by kernel_rfl
attribute [go_sem] appT103
theorem agg118 : aggOf Try.prog 118 = some none := by kernel_rfl
attribute [go_sem] agg118
theorem zero118 : zeroOf Try.prog 118 = some [.int .u32 0] := by kernel_rfl
attribute [go_sem] zero118
theorem und118 : Try.prog.underlying 118 = some (.int .u32) := by kernel_rfl
attribute [go_sem] und118
theorem agg120 : aggOf Try.prog 120 = some none := by kernel_rfl
attribute [go_sem] agg120
theorem zero120 : zeroOf Try.prog 120 = some [.int .u64 0] := by kernel_rfl
attribute [go_sem] zero120
theorem und120 : Try.prog.underlying 120 = some (.int .u64) := by kernel_rfl
attribute [go_sem] und120
theorem agg124 : aggOf Try.prog 124 = some none := by kernel_rfl
attribute [go_sem] agg124
theorem zero124 : zeroOf Try.prog 124 = some [.slice none 0 0] := by kernel_rfl
attribute [go_sem] zero124
theorem elem124 : elemOf' Try.prog 124 = some (1, 16, [.string ByteArray.empty]) := by kernel_rfl
attribute [go_sem] elem124
theorem und124 : Try.prog.underlying 124 = some (.slice 9) := by kernel_rfl
attribute [go_sem] und124
theorem appT124 : appT Try.prog 124 = true := by kernel_rfl
attribute [go_sem] appT124
end Go.Proofs.Ytedciihjgbkjgaa.A

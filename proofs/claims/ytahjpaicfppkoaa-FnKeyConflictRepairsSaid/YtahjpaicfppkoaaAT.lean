/- WHAT THE TYPES OF THIS TRANSLATION COME TO. Conditions: none. (Printed by a program of this session.) -/
import Derived.Test.YtahjpaicfppkoaaA39
import Derived.Test.YtahjpaicfppkoaaProg
namespace Go.Proofs.Ytahjpaicfppkoaa.A
open Go
theorem agg2 : aggOf Try.prog 2 = some none := by kernel_rfl
attribute [go_sem] agg2
theorem zero2 : zeroOf Try.prog 2 = some [.int .i64 0] := by kernel_rfl
attribute [go_sem] zero2
theorem und2 : Try.prog.underlying 2 = some (.int .i64) := by kernel_rfl
attribute [go_sem] und2
theorem agg3 : aggOf Try.prog 3 = some none := by kernel_rfl
attribute [go_sem] agg3
theorem zero3 : zeroOf Try.prog 3 = some [.int .i64 0] := by kernel_rfl
attribute [go_sem] zero3
theorem und3 : Try.prog.underlying 3 = some (.int .i64) := by kernel_rfl
attribute [go_sem] und3
theorem agg4 : aggOf Try.prog 4 = some none := by kernel_rfl
attribute [go_sem] agg4
theorem zero4 : zeroOf Try.prog 4 = some [.bool false] := by kernel_rfl
attribute [go_sem] zero4
theorem und4 : Try.prog.underlying 4 = some .bool := by kernel_rfl
attribute [go_sem] und4
theorem agg5 : aggOf Try.prog 5 = some none := by kernel_rfl
attribute [go_sem] agg5
theorem zero5 : zeroOf Try.prog 5 = some [.int .u8 0] := by kernel_rfl
attribute [go_sem] zero5
theorem und5 : Try.prog.underlying 5 = some (.int .u8) := by kernel_rfl
attribute [go_sem] und5
theorem agg9 : aggOf Try.prog 9 = some none := by kernel_rfl
attribute [go_sem] agg9
theorem zero9 : zeroOf Try.prog 9 = some [.string ByteArray.empty] := by kernel_rfl
attribute [go_sem] zero9
theorem und9 : Try.prog.underlying 9 = some .string := by kernel_rfl
attribute [go_sem] und9
theorem appT9 : appT Try.prog 9 = true := by kernel_rfl
attribute [go_sem] appT9
theorem agg12 : aggOf Try.prog 12 = some none := by kernel_rfl
attribute [go_sem] agg12
theorem zero12 : zeroOf Try.prog 12 = some [.int .u64 0] := by kernel_rfl
attribute [go_sem] zero12
theorem und12 : Try.prog.underlying 12 = some (.int .u64) := by kernel_rfl
attribute [go_sem] und12
theorem agg21 : aggOf Try.prog 21 = some none := by kernel_rfl
attribute [go_sem] agg21
theorem zero21 : zeroOf Try.prog 21 = some [.int .i32 0] := by kernel_rfl
attribute [go_sem] zero21
theorem und21 : Try.prog.underlying 21 = some (.int .i32) := by kernel_rfl
attribute [go_sem] und21
theorem agg22 : aggOf Try.prog 22 = some none := by kernel_rfl
attribute [go_sem] agg22
theorem zero22 : zeroOf Try.prog 22 = some [.slice none 0 0] := by kernel_rfl
attribute [go_sem] zero22
theorem elem22 : elemOf' Try.prog 22 = some (1, 1, [.int .u8 0]) := by kernel_rfl
attribute [go_sem] elem22
theorem und22 : Try.prog.underlying 22 = some (.slice 5) := by kernel_rfl
attribute [go_sem] und22
theorem appT22 : appT Try.prog 22 = true := by kernel_rfl
attribute [go_sem] appT22
theorem agg24 : aggOf Try.prog 24 = some none := by kernel_rfl
attribute [go_sem] agg24
theorem zero24 : zeroOf Try.prog 24 = some [.slice none 0 0] := by kernel_rfl
attribute [go_sem] zero24
theorem elem24 : elemOf' Try.prog 24 = some (3, 32, [.string ByteArray.empty, .int .i64 0, .int .i64 0]) := by kernel_rfl
attribute [go_sem] elem24
theorem und24 : Try.prog.underlying 24 = some (.slice 109) := by kernel_rfl
attribute [go_sem] und24
theorem appT24 : appT Try.prog 24 = true := by kernel_rfl
attribute [go_sem] appT24
theorem agg25 : aggOf Try.prog 25 = some none := by kernel_rfl
attribute [go_sem] agg25
theorem zero25 : zeroOf Try.prog 25 = some [.slice none 0 0] := by kernel_rfl
attribute [go_sem] zero25
theorem elem25 : elemOf' Try.prog 25 = some (2, 32, [.int .i64 0, .slice none 0 0]) := by kernel_rfl
attribute [go_sem] elem25
theorem und25 : Try.prog.underlying 25 = some (.slice 35) := by kernel_rfl
attribute [go_sem] und25
theorem appT25 : appT Try.prog 25 = true := by kernel_rfl
attribute [go_sem] appT25
theorem agg27 : aggOf Try.prog 27 = some (some 2) := by kernel_rfl
attribute [go_sem] agg27
theorem zero27 : zeroOf Try.prog 27 = some [.slice none 0 0, .slice none 0 0] := by kernel_rfl
attribute [go_sem] zero27
theorem fld27_0 : fieldOf Try.prog 27 0 = some (0, none) := by kernel_rfl
attribute [go_sem] fld27_0
theorem fld27_1 : fieldOf Try.prog 27 1 = some (1, none) := by kernel_rfl
attribute [go_sem] fld27_1
theorem places27 : placesOf Try.prog 27 = some [(0, 1), (1, 1)] := by kernel_rfl
attribute [go_sem] places27
theorem agg29 : aggOf Try.prog 29 = some (some 7) := by kernel_rfl
attribute [go_sem] agg29
theorem zero29 : zeroOf Try.prog 29 = some [.int .i64 0, .int .i64 0, .int .i64 0, .int .i64 0, .int .i64 0, .int .i64 0, .int .i64 0] := by kernel_rfl
attribute [go_sem] zero29
theorem fld29_0 : fieldOf Try.prog 29 0 = some (0, none) := by kernel_rfl
attribute [go_sem] fld29_0
theorem fld29_1 : fieldOf Try.prog 29 1 = some (1, none) := by kernel_rfl
attribute [go_sem] fld29_1
theorem fld29_2 : fieldOf Try.prog 29 2 = some (2, none) := by kernel_rfl
attribute [go_sem] fld29_2
theorem fld29_3 : fieldOf Try.prog 29 3 = some (3, none) := by kernel_rfl
attribute [go_sem] fld29_3
theorem fld29_4 : fieldOf Try.prog 29 4 = some (4, none) := by kernel_rfl
attribute [go_sem] fld29_4
theorem fld29_5 : fieldOf Try.prog 29 5 = some (5, none) := by kernel_rfl
attribute [go_sem] fld29_5
theorem fld29_6 : fieldOf Try.prog 29 6 = some (6, none) := by kernel_rfl
attribute [go_sem] fld29_6
theorem places29 : placesOf Try.prog 29 = some [(0, 1), (1, 1), (2, 1), (3, 1), (4, 1), (5, 1), (6, 1)] := by kernel_rfl
attribute [go_sem] places29
theorem agg33 : aggOf Try.prog 33 = some none := by kernel_rfl
attribute [go_sem] agg33
theorem zero33 : zeroOf Try.prog 33 = some [.slice none 0 0] := by kernel_rfl
attribute [go_sem] zero33
theorem elem33 : elemOf' Try.prog 33 = some (1, 8, [.int .i64 0]) := by kernel_rfl
attribute [go_sem] elem33
theorem und33 : Try.prog.underlying 33 = some (.slice 3) := by kernel_rfl
attribute [go_sem] und33
theorem appT33 : appT Try.prog 33 = true := by kernel_rfl
attribute [go_sem] appT33
theorem agg35 : aggOf Try.prog 35 = some (some 2) := by kernel_rfl
attribute [go_sem] agg35
theorem zero35 : zeroOf Try.prog 35 = some [.int .i64 0, .slice none 0 0] := by kernel_rfl
attribute [go_sem] zero35
theorem fld35_0 : fieldOf Try.prog 35 0 = some (0, none) := by kernel_rfl
attribute [go_sem] fld35_0
theorem fld35_1 : fieldOf Try.prog 35 1 = some (1, none) := by kernel_rfl
attribute [go_sem] fld35_1
theorem places35 : placesOf Try.prog 35 = some [(0, 1), (1, 1)] := by kernel_rfl
attribute [go_sem] places35
theorem agg37 : aggOf Try.prog 37 = some none := by kernel_rfl
attribute [go_sem] agg37
theorem zero37 : zeroOf Try.prog 37 = some [.slice none 0 0] := by kernel_rfl
attribute [go_sem] zero37
theorem elem37 : elemOf' Try.prog 37 = some (2, 16, [.int .i64 0, .int .i64 0]) := by kernel_rfl
attribute [go_sem] elem37
theorem und37 : Try.prog.underlying 37 = some (.slice 47) := by kernel_rfl
attribute [go_sem] und37
theorem appT37 : appT Try.prog 37 = true := by kernel_rfl
attribute [go_sem] appT37
theorem agg45 : aggOf Try.prog 45 = some none := by kernel_rfl
attribute [go_sem] agg45
theorem zero45 : zeroOf Try.prog 45 = some [.slice none 0 0] := by kernel_rfl
attribute [go_sem] zero45
theorem elem45 : elemOf' Try.prog 45 = some (7, 56, [.int .i64 0, .int .i64 0, .int .i64 0, .int .i64 0, .int .i64 0, .int .i64 0, .int .i64 0]) := by kernel_rfl
attribute [go_sem] elem45
theorem und45 : Try.prog.underlying 45 = some (.slice 29) := by kernel_rfl
attribute [go_sem] und45
theorem appT45 : appT Try.prog 45 = true := by kernel_rfl
attribute [go_sem] appT45
theorem agg47 : aggOf Try.prog 47 = some (some 2) := by kernel_rfl
attribute [go_sem] agg47
theorem zero47 : zeroOf Try.prog 47 = some [.int .i64 0, .int .i64 0] := by kernel_rfl
attribute [go_sem] zero47
theorem fld47_0 : fieldOf Try.prog 47 0 = some (0, none) := by kernel_rfl
attribute [go_sem] fld47_0
theorem fld47_1 : fieldOf Try.prog 47 1 = some (1, none) := by kernel_rfl
attribute [go_sem] fld47_1
theorem pairT47 : pairT Try.prog 47 = true := by kernel_rfl
attribute [go_sem] pairT47
theorem places47 : placesOf Try.prog 47 = some [(0, 1), (1, 1)] := by kernel_rfl
attribute [go_sem] places47
theorem agg54 : aggOf Try.prog 54 = some none := by kernel_rfl
attribute [go_sem] agg54
theorem zero54 : zeroOf Try.prog 54 = some [.slice none 0 0] := by kernel_rfl
attribute [go_sem] zero54
theorem elem54 : elemOf' Try.prog 54 = some (1, 24, [.slice none 0 0]) := by kernel_rfl
attribute [go_sem] elem54
theorem und54 : Try.prog.underlying 54 = some (.slice 33) := by kernel_rfl
attribute [go_sem] und54
theorem appT54 : appT Try.prog 54 = true := by kernel_rfl
attribute [go_sem] appT54
theorem agg60 : aggOf Try.prog 60 = some none := by kernel_rfl
attribute [go_sem] agg60
theorem zero60 : zeroOf Try.prog 60 = some [.slice none 0 0] := by kernel_rfl
attribute [go_sem] zero60
theorem elem60 : elemOf' Try.prog 60 = some (2, 32, [.int .i64 0, .slice none 0 0]) := by kernel_rfl
attribute [go_sem] elem60
theorem und60 : Try.prog.underlying 60 = some (.slice 105) := by kernel_rfl
attribute [go_sem] und60
theorem appT60 : appT Try.prog 60 = true := by kernel_rfl
attribute [go_sem] appT60
theorem agg62 : aggOf Try.prog 62 = some (some 3) := by kernel_rfl
attribute [go_sem] agg62
theorem zero62 : zeroOf Try.prog 62 = some [.int .i64 0, .slice none 0 0, .slice none 0 0] := by kernel_rfl
attribute [go_sem] zero62
theorem fld62_0 : fieldOf Try.prog 62 0 = some (0, none) := by kernel_rfl
attribute [go_sem] fld62_0
theorem fld62_1 : fieldOf Try.prog 62 1 = some (1, none) := by kernel_rfl
attribute [go_sem] fld62_1
theorem fld62_2 : fieldOf Try.prog 62 2 = some (2, none) := by kernel_rfl
attribute [go_sem] fld62_2
theorem places62 : placesOf Try.prog 62 = some [(0, 1), (1, 1), (2, 1)] := by kernel_rfl
attribute [go_sem] places62
theorem agg74 : aggOf Try.prog 74 = some none := by kernel_rfl
attribute [go_sem] agg74
theorem zero74 : zeroOf Try.prog 74 = some [.pointer none] := by kernel_rfl
attribute [go_sem] zero74
theorem agg96 : aggOf Try.prog 96 = some none := by kernel_rfl
attribute [go_sem] agg96
theorem agg105 : aggOf Try.prog 105 = some (some 2) := by kernel_rfl
attribute [go_sem] agg105
theorem zero105 : zeroOf Try.prog 105 = some [.int .i64 0, .slice none 0 0] := by kernel_rfl
attribute [go_sem] zero105
theorem fld105_0 : fieldOf Try.prog 105 0 = some (0, none) := by kernel_rfl
attribute [go_sem] fld105_0
theorem fld105_1 : fieldOf Try.prog 105 1 = some (1, none) := by kernel_rfl
attribute [go_sem] fld105_1
theorem places105 : placesOf Try.prog 105 = some [(0, 1), (1, 1)] := by kernel_rfl
attribute [go_sem] places105
theorem agg107 : aggOf Try.prog 107 = some none := by kernel_rfl
attribute [go_sem] agg107
theorem zero107 : zeroOf Try.prog 107 = some [.slice none 0 0] := by kernel_rfl
attribute [go_sem] zero107
theorem elem107 : elemOf' Try.prog 107 = some (1, 1, [.bool false]) := by kernel_rfl
attribute [go_sem] elem107
theorem und107 : Try.prog.underlying 107 = some (.slice 4) := by kernel_rfl
attribute [go_sem] und107
theorem appT107 : appT Try.prog 107 = true := by kernel_rfl
attribute [go_sem] appT107
theorem agg109 : aggOf Try.prog 109 = some (some 3) := by kernel_rfl
attribute [go_sem] agg109
theorem zero109 : zeroOf Try.prog 109 = some [.string ByteArray.empty, .int .i64 0, .int .i64 0] := by kernel_rfl
attribute [go_sem] zero109
theorem fld109_0 : fieldOf Try.prog 109 0 = some (0, none) := by kernel_rfl
attribute [go_sem] fld109_0
theorem fld109_1 : fieldOf Try.prog 109 1 = some (1, none) := by kernel_rfl
attribute [go_sem] fld109_1
theorem fld109_2 : fieldOf Try.prog 109 2 = some (2, none) := by kernel_rfl
attribute [go_sem] fld109_2
theorem places109 : placesOf Try.prog 109 = some [(0, 1), (1, 1), (2, 1)] := by kernel_rfl
attribute [go_sem] places109
theorem agg111 : aggOf Try.prog 111 = some (some 3) := by kernel_rfl
attribute [go_sem] agg111
theorem zero111 : zeroOf Try.prog 111 = some [.slice none 0 0, .int .i64 0, .int .i64 0] := by kernel_rfl
attribute [go_sem] zero111
theorem fld111_0 : fieldOf Try.prog 111 0 = some (0, none) := by kernel_rfl
attribute [go_sem] fld111_0
theorem fld111_1 : fieldOf Try.prog 111 1 = some (1, none) := by kernel_rfl
attribute [go_sem] fld111_1
theorem fld111_2 : fieldOf Try.prog 111 2 = some (2, none) := by kernel_rfl
attribute [go_sem] fld111_2
theorem places111 : placesOf Try.prog 111 = some [(0, 1), (1, 1), (2, 1)] := by kernel_rfl
attribute [go_sem] places111
theorem agg127 : aggOf Try.prog 127 = some none := by kernel_rfl
attribute [go_sem] agg127
theorem zero127 : zeroOf Try.prog 127 = some [.int .u64 0] := by kernel_rfl
attribute [go_sem] zero127
theorem und127 : Try.prog.underlying 127 = some (.int .u64) := by kernel_rfl
attribute [go_sem] und127
theorem agg138 : aggOf Try.prog 138 = some none := by kernel_rfl
attribute [go_sem] agg138
theorem zero138 : zeroOf Try.prog 138 = some [.slice none 0 0] := by kernel_rfl
attribute [go_sem] zero138
theorem elem138 : elemOf' Try.prog 138 = some (1, 16, [.string ByteArray.empty]) := by kernel_rfl
attribute [go_sem] elem138
theorem und138 : Try.prog.underlying 138 = some (.slice 9) := by kernel_rfl
attribute [go_sem] und138
theorem appT138 : appT Try.prog 138 = true := by kernel_rfl
attribute [go_sem] appT138
theorem agg150 : aggOf Try.prog 150 = some none := by kernel_rfl
attribute [go_sem] agg150
theorem zero150 : zeroOf Try.prog 150 = some [.int .u32 0] := by kernel_rfl
attribute [go_sem] zero150
theorem und150 : Try.prog.underlying 150 = some (.int .u32) := by kernel_rfl
attribute [go_sem] und150
theorem agg152 : aggOf Try.prog 152 = some none := by kernel_rfl
attribute [go_sem] agg152
theorem zero152 : zeroOf Try.prog 152 = some [.int .u64 0] := by kernel_rfl
attribute [go_sem] zero152
theorem und152 : Try.prog.underlying 152 = some (.int .u64) := by kernel_rfl
attribute [go_sem] und152
end Go.Proofs.Ytahjpaicfppkoaa.A

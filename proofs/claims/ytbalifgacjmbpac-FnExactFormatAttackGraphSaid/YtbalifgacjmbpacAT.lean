/- WHAT THE TYPES OF THIS TRANSLATION COME TO. Conditions: none. (Printed by a program of this session.) -/
import Derived.Test.YtbalifgacjmbpacA39
import Derived.Test.YtbalifgacjmbpacProg
namespace Go.Proofs.Ytbalifgacjmbpac.A
open Go
theorem agg2 : aggOf Try.prog 2 = some none := by kernel_rfl
attribute [go_sem] agg2
theorem zero2 : zeroOf Try.prog 2 = some [.int .i64 0] := by kernel_rfl
attribute [go_sem] zero2
theorem und2 : Try.prog.underlying 2 = some (.int .i64) := by kernel_rfl
attribute [go_sem] und2
theorem agg3 : aggOf Try.prog 3 = some none := by kernel_rfl
attribute [go_sem] agg3
theorem zero3 : zeroOf Try.prog 3 = some [.int .i64 0] := by kernel_rfl
attribute [go_sem] zero3
theorem und3 : Try.prog.underlying 3 = some (.int .i64) := by kernel_rfl
attribute [go_sem] und3
theorem agg4 : aggOf Try.prog 4 = some none := by kernel_rfl
attribute [go_sem] agg4
theorem zero4 : zeroOf Try.prog 4 = some [.bool false] := by kernel_rfl
attribute [go_sem] zero4
theorem und4 : Try.prog.underlying 4 = some .bool := by kernel_rfl
attribute [go_sem] und4
theorem agg5 : aggOf Try.prog 5 = some none := by kernel_rfl
attribute [go_sem] agg5
theorem zero5 : zeroOf Try.prog 5 = some [.int .u8 0] := by kernel_rfl
attribute [go_sem] zero5
theorem und5 : Try.prog.underlying 5 = some (.int .u8) := by kernel_rfl
attribute [go_sem] und5
theorem agg9 : aggOf Try.prog 9 = some none := by kernel_rfl
attribute [go_sem] agg9
theorem zero9 : zeroOf Try.prog 9 = some [.string ByteArray.empty] := by kernel_rfl
attribute [go_sem] zero9
theorem und9 : Try.prog.underlying 9 = some .string := by kernel_rfl
attribute [go_sem] und9
theorem appT9 : appT Try.prog 9 = true := by kernel_rfl
attribute [go_sem] appT9
theorem agg12 : aggOf Try.prog 12 = some none := by kernel_rfl
attribute [go_sem] agg12
theorem zero12 : zeroOf Try.prog 12 = some [.int .u64 0] := by kernel_rfl
attribute [go_sem] zero12
theorem und12 : Try.prog.underlying 12 = some (.int .u64) := by kernel_rfl
attribute [go_sem] und12
theorem agg21 : aggOf Try.prog 21 = some none := by kernel_rfl
attribute [go_sem] agg21
theorem zero21 : zeroOf Try.prog 21 = some [.int .i32 0] := by kernel_rfl
attribute [go_sem] zero21
theorem und21 : Try.prog.underlying 21 = some (.int .i32) := by kernel_rfl
attribute [go_sem] und21
theorem agg22 : aggOf Try.prog 22 = some none := by kernel_rfl
attribute [go_sem] agg22
theorem zero22 : zeroOf Try.prog 22 = some [.slice none 0 0] := by kernel_rfl
attribute [go_sem] zero22
theorem elem22 : elemOf' Try.prog 22 = some (3, 32, [.string ByteArray.empty, .int .i64 0, .int .i64 0]) := by kernel_rfl
attribute [go_sem] elem22
theorem und22 : Try.prog.underlying 22 = some (.slice 41) := by kernel_rfl
attribute [go_sem] und22
theorem appT22 : appT Try.prog 22 = true := by kernel_rfl
attribute [go_sem] appT22
theorem agg23 : aggOf Try.prog 23 = some none := by kernel_rfl
attribute [go_sem] agg23
theorem zero23 : zeroOf Try.prog 23 = some [.slice none 0 0] := by kernel_rfl
attribute [go_sem] zero23
theorem elem23 : elemOf' Try.prog 23 = some (2, 32, [.int .i64 0, .slice none 0 0]) := by kernel_rfl
attribute [go_sem] elem23
theorem und23 : Try.prog.underlying 23 = some (.slice 58) := by kernel_rfl
attribute [go_sem] und23
theorem appT23 : appT Try.prog 23 = true := by kernel_rfl
attribute [go_sem] appT23
theorem agg24 : aggOf Try.prog 24 = some none := by kernel_rfl
attribute [go_sem] agg24
theorem zero24 : zeroOf Try.prog 24 = some [.slice none 0 0] := by kernel_rfl
attribute [go_sem] zero24
theorem elem24 : elemOf' Try.prog 24 = some (1, 8, [.int .i64 0]) := by kernel_rfl
attribute [go_sem] elem24
theorem und24 : Try.prog.underlying 24 = some (.slice 3) := by kernel_rfl
attribute [go_sem] und24
theorem appT24 : appT Try.prog 24 = true := by kernel_rfl
attribute [go_sem] appT24
theorem agg26 : aggOf Try.prog 26 = some (some 3) := by kernel_rfl
attribute [go_sem] agg26
theorem zero26 : zeroOf Try.prog 26 = some [.int .i64 0, .slice none 0 0, .slice none 0 0] := by kernel_rfl
attribute [go_sem] zero26
theorem fld26_0 : fieldOf Try.prog 26 0 = some (0, none) := by kernel_rfl
attribute [go_sem] fld26_0
theorem fld26_1 : fieldOf Try.prog 26 1 = some (1, none) := by kernel_rfl
attribute [go_sem] fld26_1
theorem fld26_2 : fieldOf Try.prog 26 2 = some (2, none) := by kernel_rfl
attribute [go_sem] fld26_2
theorem places26 : placesOf Try.prog 26 = some [(0, 1), (1, 1), (2, 1)] := by kernel_rfl
attribute [go_sem] places26
theorem agg30 : aggOf Try.prog 30 = some none := by kernel_rfl
attribute [go_sem] agg30
theorem zero30 : zeroOf Try.prog 30 = some [.slice none 0 0] := by kernel_rfl
attribute [go_sem] zero30
theorem elem30 : elemOf' Try.prog 30 = some (3, 32, [.string ByteArray.empty, .int .i64 0, .int .i64 0]) := by kernel_rfl
attribute [go_sem] elem30
theorem und30 : Try.prog.underlying 30 = some (.slice 46) := by kernel_rfl
attribute [go_sem] und30
theorem appT30 : appT Try.prog 30 = true := by kernel_rfl
attribute [go_sem] appT30
theorem agg32 : aggOf Try.prog 32 = some none := by kernel_rfl
attribute [go_sem] agg32
theorem zero32 : zeroOf Try.prog 32 = some [.slice none 0 0] := by kernel_rfl
attribute [go_sem] zero32
theorem elem32 : elemOf' Try.prog 32 = some (2, 32, [.int .i64 0, .slice none 0 0]) := by kernel_rfl
attribute [go_sem] elem32
theorem und32 : Try.prog.underlying 32 = some (.slice 48) := by kernel_rfl
attribute [go_sem] und32
theorem appT32 : appT Try.prog 32 = true := by kernel_rfl
attribute [go_sem] appT32
theorem agg34 : aggOf Try.prog 34 = some (some 3) := by kernel_rfl
attribute [go_sem] agg34
theorem zero34 : zeroOf Try.prog 34 = some [.int .i64 0, .slice none 0 0, .slice none 0 0] := by kernel_rfl
attribute [go_sem] zero34
theorem fld34_0 : fieldOf Try.prog 34 0 = some (0, none) := by kernel_rfl
attribute [go_sem] fld34_0
theorem fld34_1 : fieldOf Try.prog 34 1 = some (1, none) := by kernel_rfl
attribute [go_sem] fld34_1
theorem fld34_2 : fieldOf Try.prog 34 2 = some (2, none) := by kernel_rfl
attribute [go_sem] fld34_2
theorem places34 : placesOf Try.prog 34 = some [(0, 1), (1, 1), (2, 1)] := by kernel_rfl
attribute [go_sem] places34
theorem agg41 : aggOf Try.prog 41 = some (some 3) := by kernel_rfl
attribute [go_sem] agg41
theorem zero41 : zeroOf Try.prog 41 = some [.string ByteArray.empty, .int .i64 0, .int .i64 0] := by kernel_rfl
attribute [go_sem] zero41
theorem fld41_0 : fieldOf Try.prog 41 0 = some (0, none) := by kernel_rfl
attribute [go_sem] fld41_0
theorem fld41_1 : fieldOf Try.prog 41 1 = some (1, none) := by kernel_rfl
attribute [go_sem] fld41_1
theorem fld41_2 : fieldOf Try.prog 41 2 = some (2, none) := by kernel_rfl
attribute [go_sem] fld41_2
theorem places41 : placesOf Try.prog 41 = some [(0, 1), (1, 1), (2, 1)] := by kernel_rfl
attribute [go_sem] places41
theorem agg46 : aggOf Try.prog 46 = some (some 3) := by kernel_rfl
attribute [go_sem] agg46
theorem zero46 : zeroOf Try.prog 46 = some [.string ByteArray.empty, .int .i64 0, .int .i64 0] := by kernel_rfl
attribute [go_sem] zero46
theorem fld46_0 : fieldOf Try.prog 46 0 = some (0, none) := by kernel_rfl
attribute [go_sem] fld46_0
theorem fld46_1 : fieldOf Try.prog 46 1 = some (1, none) := by kernel_rfl
attribute [go_sem] fld46_1
theorem fld46_2 : fieldOf Try.prog 46 2 = some (2, none) := by kernel_rfl
attribute [go_sem] fld46_2
theorem places46 : placesOf Try.prog 46 = some [(0, 1), (1, 1), (2, 1)] := by kernel_rfl
attribute [go_sem] places46
theorem agg48 : aggOf Try.prog 48 = some (some 2) := by kernel_rfl
attribute [go_sem] agg48
theorem zero48 : zeroOf Try.prog 48 = some [.int .i64 0, .slice none 0 0] := by kernel_rfl
attribute [go_sem] zero48
theorem fld48_0 : fieldOf Try.prog 48 0 = some (0, none) := by kernel_rfl
attribute [go_sem] fld48_0
theorem fld48_1 : fieldOf Try.prog 48 1 = some (1, none) := by kernel_rfl
attribute [go_sem] fld48_1
theorem places48 : placesOf Try.prog 48 = some [(0, 1), (1, 1)] := by kernel_rfl
attribute [go_sem] places48
theorem agg52 : aggOf Try.prog 52 = some none := by kernel_rfl
attribute [go_sem] agg52
theorem zero52 : zeroOf Try.prog 52 = some [.slice none 0 0] := by kernel_rfl
attribute [go_sem] zero52
theorem elem52 : elemOf' Try.prog 52 = some (1, 16, [.string ByteArray.empty]) := by kernel_rfl
attribute [go_sem] elem52
theorem und52 : Try.prog.underlying 52 = some (.slice 9) := by kernel_rfl
attribute [go_sem] und52
theorem appT52 : appT Try.prog 52 = true := by kernel_rfl
attribute [go_sem] appT52
theorem agg58 : aggOf Try.prog 58 = some (some 2) := by kernel_rfl
attribute [go_sem] agg58
theorem zero58 : zeroOf Try.prog 58 = some [.int .i64 0, .slice none 0 0] := by kernel_rfl
attribute [go_sem] zero58
theorem fld58_0 : fieldOf Try.prog 58 0 = some (0, none) := by kernel_rfl
attribute [go_sem] fld58_0
theorem fld58_1 : fieldOf Try.prog 58 1 = some (1, none) := by kernel_rfl
attribute [go_sem] fld58_1
theorem places58 : placesOf Try.prog 58 = some [(0, 1), (1, 1)] := by kernel_rfl
attribute [go_sem] places58
theorem agg61 : aggOf Try.prog 61 = some none := by kernel_rfl
attribute [go_sem] agg61
theorem zero61 : zeroOf Try.prog 61 = some [.slice none 0 0] := by kernel_rfl
attribute [go_sem] zero61
theorem elem61 : elemOf' Try.prog 61 = some (1, 1, [.bool false]) := by kernel_rfl
attribute [go_sem] elem61
theorem und61 : Try.prog.underlying 61 = some (.slice 4) := by kernel_rfl
attribute [go_sem] und61
theorem appT61 : appT Try.prog 61 = true := by kernel_rfl
attribute [go_sem] appT61
theorem agg73 : aggOf Try.prog 73 = some none := by kernel_rfl
attribute [go_sem] agg73
theorem zero73 : zeroOf Try.prog 73 = some [.slice none 0 0] := by kernel_rfl
attribute [go_sem] zero73
theorem elem73 : elemOf' Try.prog 73 = some (1, 1, [.int .u8 0]) := by kernel_rfl
attribute [go_sem] elem73
theorem und73 : Try.prog.underlying 73 = some (.slice 5) := by kernel_rfl
attribute [go_sem] und73
theorem appT73 : appT Try.prog 73 = true := by kernel_rfl
attribute [go_sem] appT73
theorem agg90 : aggOf Try.prog 90 = some none := by kernel_rfl
attribute [go_sem] agg90
theorem zero90 : zeroOf Try.prog 90 = some [.slice none 0 0] := by kernel_rfl
attribute [go_sem] zero90
theorem elem90 : elemOf' Try.prog 90 = some (1, 24, [.slice none 0 0]) := by kernel_rfl
attribute [go_sem] elem90
theorem und90 : Try.prog.underlying 90 = some (.slice 24) := by kernel_rfl
attribute [go_sem] und90
theorem appT90 : appT Try.prog 90 = true := by kernel_rfl
attribute [go_sem] appT90
theorem agg94 : aggOf Try.prog 94 = some none := by kernel_rfl
attribute [go_sem] agg94
theorem zero94 : zeroOf Try.prog 94 = some [.int .u64 0] := by kernel_rfl
attribute [go_sem] zero94
theorem und94 : Try.prog.underlying 94 = some (.int .u64) := by kernel_rfl
attribute [go_sem] und94
theorem agg111 : aggOf Try.prog 111 = some none := by kernel_rfl
attribute [go_sem] agg111
theorem zero111 : zeroOf Try.prog 111 = some [.int .u32 0] := by kernel_rfl
attribute [go_sem] zero111
theorem und111 : Try.prog.underlying 111 = some (.int .u32) := by kernel_rfl
attribute [go_sem] und111
theorem agg113 : aggOf Try.prog 113 = some none := by kernel_rfl
attribute [go_sem] agg113
theorem zero113 : zeroOf Try.prog 113 = some [.int .u64 0] := by kernel_rfl
attribute [go_sem] zero113
theorem und113 : Try.prog.underlying 113 = some (.int .u64) := by kernel_rfl
attribute [go_sem] und113
end Go.Proofs.Ytbalifgacjmbpac.A

/- WHAT THE TYPES OF THIS TRANSLATION COME TO. Conditions: none. (Printed by a program of this session.) -/
import Derived.Test.YtobdhbgkmdmpmabA39
import Derived.Test.YtobdhbgkmdmpmabProg
namespace Go.Proofs.Ytobdhbgkmdmpmab.A
open Go
theorem agg2 : aggOf Try.prog 2 = some none := by kernel_rfl
attribute [go_sem] agg2
theorem zero2 : zeroOf Try.prog 2 = some [.int .i64 0] := by kernel_rfl
attribute [go_sem] zero2
theorem und2 : Try.prog.underlying 2 = some (.int .i64) := by kernel_rfl
attribute [go_sem] und2
theorem agg3 : aggOf Try.prog 3 = some none := by kernel_rfl
attribute [go_sem] agg3
theorem zero3 : zeroOf Try.prog 3 = some [.int .i64 0] := by kernel_rfl
attribute [go_sem] zero3
theorem und3 : Try.prog.underlying 3 = some (.int .i64) := by kernel_rfl
attribute [go_sem] und3
theorem agg4 : aggOf Try.prog 4 = some none := by kernel_rfl
attribute [go_sem] agg4
theorem zero4 : zeroOf Try.prog 4 = some [.bool false] := by kernel_rfl
attribute [go_sem] zero4
theorem und4 : Try.prog.underlying 4 = some .bool := by kernel_rfl
attribute [go_sem] und4
theorem agg5 : aggOf Try.prog 5 = some none := by kernel_rfl
attribute [go_sem] agg5
theorem zero5 : zeroOf Try.prog 5 = some [.int .u8 0] := by kernel_rfl
attribute [go_sem] zero5
theorem und5 : Try.prog.underlying 5 = some (.int .u8) := by kernel_rfl
attribute [go_sem] und5
theorem agg9 : aggOf Try.prog 9 = some none := by kernel_rfl
attribute [go_sem] agg9
theorem zero9 : zeroOf Try.prog 9 = some [.string ByteArray.empty] := by kernel_rfl
attribute [go_sem] zero9
theorem und9 : Try.prog.underlying 9 = some .string := by kernel_rfl
attribute [go_sem] und9
theorem appT9 : appT Try.prog 9 = true := by kernel_rfl
attribute [go_sem] appT9
theorem agg12 : aggOf Try.prog 12 = some none := by kernel_rfl
attribute [go_sem] agg12
theorem zero12 : zeroOf Try.prog 12 = some [.int .u64 0] := by kernel_rfl
attribute [go_sem] zero12
theorem und12 : Try.prog.underlying 12 = some (.int .u64) := by kernel_rfl
attribute [go_sem] und12
theorem agg21 : aggOf Try.prog 21 = some none := by kernel_rfl
attribute [go_sem] agg21
theorem zero21 : zeroOf Try.prog 21 = some [.int .i32 0] := by kernel_rfl
attribute [go_sem] zero21
theorem und21 : Try.prog.underlying 21 = some (.int .i32) := by kernel_rfl
attribute [go_sem] und21
theorem agg22 : aggOf Try.prog 22 = some none := by kernel_rfl
attribute [go_sem] agg22
theorem zero22 : zeroOf Try.prog 22 = some [.slice none 0 0] := by kernel_rfl
attribute [go_sem] zero22
theorem elem22 : elemOf' Try.prog 22 = some (3, 32, [.string ByteArray.empty, .int .i64 0, .int .i64 0]) := by kernel_rfl
attribute [go_sem] elem22
theorem und22 : Try.prog.underlying 22 = some (.slice 89) := by kernel_rfl
attribute [go_sem] und22
theorem appT22 : appT Try.prog 22 = true := by kernel_rfl
attribute [go_sem] appT22
theorem agg23 : aggOf Try.prog 23 = some none := by kernel_rfl
attribute [go_sem] agg23
theorem zero23 : zeroOf Try.prog 23 = some [.slice none 0 0] := by kernel_rfl
attribute [go_sem] zero23
theorem elem23 : elemOf' Try.prog 23 = some (2, 32, [.int .i64 0, .slice none 0 0]) := by kernel_rfl
attribute [go_sem] elem23
theorem und23 : Try.prog.underlying 23 = some (.slice 91) := by kernel_rfl
attribute [go_sem] und23
theorem appT23 : appT Try.prog 23 = true := by kernel_rfl
attribute [go_sem] appT23
theorem agg25 : aggOf Try.prog 25 = some (some 2) := by kernel_rfl
attribute [go_sem] agg25
theorem zero25 : zeroOf Try.prog 25 = some [.slice none 0 0, .slice none 0 0] := by kernel_rfl
attribute [go_sem] zero25
theorem fld25_0 : fieldOf Try.prog 25 0 = some (0, none) := by kernel_rfl
attribute [go_sem] fld25_0
theorem fld25_1 : fieldOf Try.prog 25 1 = some (1, none) := by kernel_rfl
attribute [go_sem] fld25_1
theorem places25 : placesOf Try.prog 25 = some [(0, 1), (1, 1)] := by kernel_rfl
attribute [go_sem] places25
theorem agg26 : aggOf Try.prog 26 = some none := by kernel_rfl
attribute [go_sem] agg26
theorem zero26 : zeroOf Try.prog 26 = some [.slice none 0 0] := by kernel_rfl
attribute [go_sem] zero26
theorem elem26 : elemOf' Try.prog 26 = some (7, 56, [.int .i64 0, .int .i64 0, .int .i64 0, .int .i64 0, .int .i64 0, .int .i64 0, .int .i64 0]) := by kernel_rfl
attribute [go_sem] elem26
theorem und26 : Try.prog.underlying 26 = some (.slice 71) := by kernel_rfl
attribute [go_sem] und26
theorem appT26 : appT Try.prog 26 = true := by kernel_rfl
attribute [go_sem] appT26
theorem agg29 : aggOf Try.prog 29 = some none := by kernel_rfl
attribute [go_sem] agg29
theorem zero29 : zeroOf Try.prog 29 = some [.slice none 0 0] := by kernel_rfl
attribute [go_sem] zero29
theorem elem29 : elemOf' Try.prog 29 = some (2, 16, [.int .i64 0, .int .i64 0]) := by kernel_rfl
attribute [go_sem] elem29
theorem und29 : Try.prog.underlying 29 = some (.slice 67) := by kernel_rfl
attribute [go_sem] und29
theorem appT29 : appT Try.prog 29 = true := by kernel_rfl
attribute [go_sem] appT29
theorem agg31 : aggOf Try.prog 31 = some none := by kernel_rfl
attribute [go_sem] agg31
theorem zero31 : zeroOf Try.prog 31 = some [.slice none 0 0] := by kernel_rfl
attribute [go_sem] zero31
theorem elem31 : elemOf' Try.prog 31 = some (3, 32, [.string ByteArray.empty, .int .i64 0, .int .i64 0]) := by kernel_rfl
attribute [go_sem] elem31
theorem und31 : Try.prog.underlying 31 = some (.slice 99) := by kernel_rfl
attribute [go_sem] und31
theorem appT31 : appT Try.prog 31 = true := by kernel_rfl
attribute [go_sem] appT31
theorem agg32 : aggOf Try.prog 32 = some none := by kernel_rfl
attribute [go_sem] agg32
theorem zero32 : zeroOf Try.prog 32 = some [.slice none 0 0] := by kernel_rfl
attribute [go_sem] zero32
theorem elem32 : elemOf' Try.prog 32 = some (2, 32, [.int .i64 0, .slice none 0 0]) := by kernel_rfl
attribute [go_sem] elem32
theorem und32 : Try.prog.underlying 32 = some (.slice 62) := by kernel_rfl
attribute [go_sem] und32
theorem appT32 : appT Try.prog 32 = true := by kernel_rfl
attribute [go_sem] appT32
theorem agg34 : aggOf Try.prog 34 = some (some 2) := by kernel_rfl
attribute [go_sem] agg34
theorem zero34 : zeroOf Try.prog 34 = some [.slice none 0 0, .slice none 0 0] := by kernel_rfl
attribute [go_sem] zero34
theorem fld34_0 : fieldOf Try.prog 34 0 = some (0, none) := by kernel_rfl
attribute [go_sem] fld34_0
theorem fld34_1 : fieldOf Try.prog 34 1 = some (1, none) := by kernel_rfl
attribute [go_sem] fld34_1
theorem places34 : placesOf Try.prog 34 = some [(0, 1), (1, 1)] := by kernel_rfl
attribute [go_sem] places34
theorem agg36 : aggOf Try.prog 36 = some none := by kernel_rfl
attribute [go_sem] agg36
theorem zero36 : zeroOf Try.prog 36 = some [.slice none 0 0] := by kernel_rfl
attribute [go_sem] zero36
theorem elem36 : elemOf' Try.prog 36 = some (7, 56, [.int .i64 0, .int .i64 0, .int .i64 0, .int .i64 0, .int .i64 0, .int .i64 0, .int .i64 0]) := by kernel_rfl
attribute [go_sem] elem36
theorem und36 : Try.prog.underlying 36 = some (.slice 65) := by kernel_rfl
attribute [go_sem] und36
theorem appT36 : appT Try.prog 36 = true := by kernel_rfl
attribute [go_sem] appT36
theorem agg45 : aggOf Try.prog 45 = some none := by kernel_rfl
attribute [go_sem] agg45
theorem zero45 : zeroOf Try.prog 45 = some [.slice none 0 0] := by kernel_rfl
attribute [go_sem] zero45
theorem elem45 : elemOf' Try.prog 45 = some (2, 32, [.int .i64 0, .slice none 0 0]) := by kernel_rfl
attribute [go_sem] elem45
theorem und45 : Try.prog.underlying 45 = some (.slice 108) := by kernel_rfl
attribute [go_sem] und45
theorem appT45 : appT Try.prog 45 = true := by kernel_rfl
attribute [go_sem] appT45
theorem agg46 : aggOf Try.prog 46 = some none := by kernel_rfl
attribute [go_sem] agg46
theorem zero46 : zeroOf Try.prog 46 = some [.slice none 0 0] := by kernel_rfl
attribute [go_sem] zero46
theorem elem46 : elemOf' Try.prog 46 = some (1, 8, [.int .i64 0]) := by kernel_rfl
attribute [go_sem] elem46
theorem und46 : Try.prog.underlying 46 = some (.slice 3) := by kernel_rfl
attribute [go_sem] und46
theorem appT46 : appT Try.prog 46 = true := by kernel_rfl
attribute [go_sem] appT46
theorem agg48 : aggOf Try.prog 48 = some (some 3) := by kernel_rfl
attribute [go_sem] agg48
theorem zero48 : zeroOf Try.prog 48 = some [.int .i64 0, .slice none 0 0, .slice none 0 0] := by kernel_rfl
attribute [go_sem] zero48
theorem fld48_0 : fieldOf Try.prog 48 0 = some (0, none) := by kernel_rfl
attribute [go_sem] fld48_0
theorem fld48_1 : fieldOf Try.prog 48 1 = some (1, none) := by kernel_rfl
attribute [go_sem] fld48_1
theorem fld48_2 : fieldOf Try.prog 48 2 = some (2, none) := by kernel_rfl
attribute [go_sem] fld48_2
theorem places48 : placesOf Try.prog 48 = some [(0, 1), (1, 1), (2, 1)] := by kernel_rfl
attribute [go_sem] places48
theorem agg51 : aggOf Try.prog 51 = some none := by kernel_rfl
attribute [go_sem] agg51
theorem zero51 : zeroOf Try.prog 51 = some [.slice none 0 0] := by kernel_rfl
attribute [go_sem] zero51
theorem elem51 : elemOf' Try.prog 51 = some (2, 32, [.int .i64 0, .slice none 0 0]) := by kernel_rfl
attribute [go_sem] elem51
theorem und51 : Try.prog.underlying 51 = some (.slice 110) := by kernel_rfl
attribute [go_sem] und51
theorem appT51 : appT Try.prog 51 = true := by kernel_rfl
attribute [go_sem] appT51
theorem agg53 : aggOf Try.prog 53 = some (some 3) := by kernel_rfl
attribute [go_sem] agg53
theorem zero53 : zeroOf Try.prog 53 = some [.int .i64 0, .slice none 0 0, .slice none 0 0] := by kernel_rfl
attribute [go_sem] zero53
theorem fld53_0 : fieldOf Try.prog 53 0 = some (0, none) := by kernel_rfl
attribute [go_sem] fld53_0
theorem fld53_1 : fieldOf Try.prog 53 1 = some (1, none) := by kernel_rfl
attribute [go_sem] fld53_1
theorem fld53_2 : fieldOf Try.prog 53 2 = some (2, none) := by kernel_rfl
attribute [go_sem] fld53_2
theorem places53 : placesOf Try.prog 53 = some [(0, 1), (1, 1), (2, 1)] := by kernel_rfl
attribute [go_sem] places53
theorem agg62 : aggOf Try.prog 62 = some (some 2) := by kernel_rfl
attribute [go_sem] agg62
theorem zero62 : zeroOf Try.prog 62 = some [.int .i64 0, .slice none 0 0] := by kernel_rfl
attribute [go_sem] zero62
theorem fld62_0 : fieldOf Try.prog 62 0 = some (0, none) := by kernel_rfl
attribute [go_sem] fld62_0
theorem fld62_1 : fieldOf Try.prog 62 1 = some (1, none) := by kernel_rfl
attribute [go_sem] fld62_1
theorem places62 : placesOf Try.prog 62 = some [(0, 1), (1, 1)] := by kernel_rfl
attribute [go_sem] places62
theorem agg65 : aggOf Try.prog 65 = some (some 7) := by kernel_rfl
attribute [go_sem] agg65
theorem zero65 : zeroOf Try.prog 65 = some [.int .i64 0, .int .i64 0, .int .i64 0, .int .i64 0, .int .i64 0, .int .i64 0, .int .i64 0] := by kernel_rfl
attribute [go_sem] zero65
theorem fld65_0 : fieldOf Try.prog 65 0 = some (0, none) := by kernel_rfl
attribute [go_sem] fld65_0
theorem fld65_1 : fieldOf Try.prog 65 1 = some (1, none) := by kernel_rfl
attribute [go_sem] fld65_1
theorem fld65_2 : fieldOf Try.prog 65 2 = some (2, none) := by kernel_rfl
attribute [go_sem] fld65_2
theorem fld65_3 : fieldOf Try.prog 65 3 = some (3, none) := by kernel_rfl
attribute [go_sem] fld65_3
theorem fld65_4 : fieldOf Try.prog 65 4 = some (4, none) := by kernel_rfl
attribute [go_sem] fld65_4
theorem fld65_5 : fieldOf Try.prog 65 5 = some (5, none) := by kernel_rfl
attribute [go_sem] fld65_5
theorem fld65_6 : fieldOf Try.prog 65 6 = some (6, none) := by kernel_rfl
attribute [go_sem] fld65_6
theorem places65 : placesOf Try.prog 65 = some [(0, 1), (1, 1), (2, 1), (3, 1), (4, 1), (5, 1), (6, 1)] := by kernel_rfl
attribute [go_sem] places65
theorem agg67 : aggOf Try.prog 67 = some (some 2) := by kernel_rfl
attribute [go_sem] agg67
theorem zero67 : zeroOf Try.prog 67 = some [.int .i64 0, .int .i64 0] := by kernel_rfl
attribute [go_sem] zero67
theorem fld67_0 : fieldOf Try.prog 67 0 = some (0, none) := by kernel_rfl
attribute [go_sem] fld67_0
theorem fld67_1 : fieldOf Try.prog 67 1 = some (1, none) := by kernel_rfl
attribute [go_sem] fld67_1
theorem places67 : placesOf Try.prog 67 = some [(0, 1), (1, 1)] := by kernel_rfl
attribute [go_sem] places67
theorem agg71 : aggOf Try.prog 71 = some (some 7) := by kernel_rfl
attribute [go_sem] agg71
theorem zero71 : zeroOf Try.prog 71 = some [.int .i64 0, .int .i64 0, .int .i64 0, .int .i64 0, .int .i64 0, .int .i64 0, .int .i64 0] := by kernel_rfl
attribute [go_sem] zero71
theorem fld71_0 : fieldOf Try.prog 71 0 = some (0, none) := by kernel_rfl
attribute [go_sem] fld71_0
theorem fld71_1 : fieldOf Try.prog 71 1 = some (1, none) := by kernel_rfl
attribute [go_sem] fld71_1
theorem fld71_2 : fieldOf Try.prog 71 2 = some (2, none) := by kernel_rfl
attribute [go_sem] fld71_2
theorem fld71_3 : fieldOf Try.prog 71 3 = some (3, none) := by kernel_rfl
attribute [go_sem] fld71_3
theorem fld71_4 : fieldOf Try.prog 71 4 = some (4, none) := by kernel_rfl
attribute [go_sem] fld71_4
theorem fld71_5 : fieldOf Try.prog 71 5 = some (5, none) := by kernel_rfl
attribute [go_sem] fld71_5
theorem fld71_6 : fieldOf Try.prog 71 6 = some (6, none) := by kernel_rfl
attribute [go_sem] fld71_6
theorem places71 : placesOf Try.prog 71 = some [(0, 1), (1, 1), (2, 1), (3, 1), (4, 1), (5, 1), (6, 1)] := by kernel_rfl
attribute [go_sem] places71
theorem agg89 : aggOf Try.prog 89 = some (some 3) := by kernel_rfl
attribute [go_sem] agg89
theorem zero89 : zeroOf Try.prog 89 = some [.string ByteArray.empty, .int .i64 0, .int .i64 0] := by kernel_rfl
attribute [go_sem] zero89
theorem fld89_0 : fieldOf Try.prog 89 0 = some (0, none) := by kernel_rfl
attribute [go_sem] fld89_0
theorem fld89_1 : fieldOf Try.prog 89 1 = some (1, none) := by kernel_rfl
attribute [go_sem] fld89_1
theorem fld89_2 : fieldOf Try.prog 89 2 = some (2, none) := by kernel_rfl
attribute [go_sem] fld89_2
theorem places89 : placesOf Try.prog 89 = some [(0, 1), (1, 1), (2, 1)] := by kernel_rfl
attribute [go_sem] places89
theorem agg91 : aggOf Try.prog 91 = some (some 2) := by kernel_rfl
attribute [go_sem] agg91
theorem zero91 : zeroOf Try.prog 91 = some [.int .i64 0, .slice none 0 0] := by kernel_rfl
attribute [go_sem] zero91
theorem fld91_0 : fieldOf Try.prog 91 0 = some (0, none) := by kernel_rfl
attribute [go_sem] fld91_0
theorem fld91_1 : fieldOf Try.prog 91 1 = some (1, none) := by kernel_rfl
attribute [go_sem] fld91_1
theorem places91 : placesOf Try.prog 91 = some [(0, 1), (1, 1)] := by kernel_rfl
attribute [go_sem] places91
theorem agg99 : aggOf Try.prog 99 = some (some 3) := by kernel_rfl
attribute [go_sem] agg99
theorem zero99 : zeroOf Try.prog 99 = some [.string ByteArray.empty, .int .i64 0, .int .i64 0] := by kernel_rfl
attribute [go_sem] zero99
theorem fld99_0 : fieldOf Try.prog 99 0 = some (0, none) := by kernel_rfl
attribute [go_sem] fld99_0
theorem fld99_1 : fieldOf Try.prog 99 1 = some (1, none) := by kernel_rfl
attribute [go_sem] fld99_1
theorem fld99_2 : fieldOf Try.prog 99 2 = some (2, none) := by kernel_rfl
attribute [go_sem] fld99_2
theorem places99 : placesOf Try.prog 99 = some [(0, 1), (1, 1), (2, 1)] := by kernel_rfl
attribute [go_sem] places99
theorem agg108 : aggOf Try.prog 108 = some (some 2) := by kernel_rfl
attribute [go_sem] agg108
theorem zero108 : zeroOf Try.prog 108 = some [.int .i64 0, .slice none 0 0] := by kernel_rfl
attribute [go_sem] zero108
theorem fld108_0 : fieldOf Try.prog 108 0 = some (0, none) := by kernel_rfl
attribute [go_sem] fld108_0
theorem fld108_1 : fieldOf Try.prog 108 1 = some (1, none) := by kernel_rfl
attribute [go_sem] fld108_1
theorem places108 : placesOf Try.prog 108 = some [(0, 1), (1, 1)] := by kernel_rfl
attribute [go_sem] places108
theorem agg109 : aggOf Try.prog 109 = some none := by kernel_rfl
attribute [go_sem] agg109
theorem zero109 : zeroOf Try.prog 109 = some [.slice none 0 0] := by kernel_rfl
attribute [go_sem] zero109
theorem elem109 : elemOf' Try.prog 109 = some (1, 1, [.bool false]) := by kernel_rfl
attribute [go_sem] elem109
theorem und109 : Try.prog.underlying 109 = some (.slice 4) := by kernel_rfl
attribute [go_sem] und109
theorem appT109 : appT Try.prog 109 = true := by kernel_rfl
attribute [go_sem] appT109
theorem agg110 : aggOf Try.prog 110 = some (some 2) := by kernel_rfl
attribute [go_sem] agg110
theorem zero110 : zeroOf Try.prog 110 = some [.int .i64 0, .slice none 0 0] := by kernel_rfl
attribute [go_sem] zero110
theorem fld110_0 : fieldOf Try.prog 110 0 = some (0, none) := by kernel_rfl
attribute [go_sem] fld110_0
theorem fld110_1 : fieldOf Try.prog 110 1 = some (1, none) := by kernel_rfl
attribute [go_sem] fld110_1
theorem places110 : placesOf Try.prog 110 = some [(0, 1), (1, 1)] := by kernel_rfl
attribute [go_sem] places110
theorem agg121 : aggOf Try.prog 121 = some none := by kernel_rfl
attribute [go_sem] agg121
theorem zero121 : zeroOf Try.prog 121 = some [.slice none 0 0] := by kernel_rfl
attribute [go_sem] zero121
theorem elem121 : elemOf' Try.prog 121 = some (1, 1, [.int .u8 0]) := by kernel_rfl
attribute [go_sem] elem121
theorem und121 : Try.prog.underlying 121 = some (.slice 5) := by kernel_rfl
attribute [go_sem] und121
theorem appT121 : appT Try.prog 121 = true := by kernel_rfl
attribute [go_sem] appT121
theorem agg127 : aggOf Try.prog 127 = some none := by kernel_rfl
attribute [go_sem] agg127
theorem zero127 : zeroOf Try.prog 127 = some [.slice none 0 0] := by kernel_rfl
attribute [go_sem] zero127
theorem elem127 : elemOf' Try.prog 127 = some (1, 24, [.slice none 0 0]) := by kernel_rfl
attribute [go_sem] elem127
theorem und127 : Try.prog.underlying 127 = some (.slice 46) := by kernel_rfl
attribute [go_sem] und127
theorem appT127 : appT Try.prog 127 = true := by kernel_rfl
attribute [go_sem] appT127
theorem agg131 : aggOf Try.prog 131 = some none := by kernel_rfl
attribute [go_sem] agg131
theorem zero131 : zeroOf Try.prog 131 = some [.int .u64 0] := by kernel_rfl
attribute [go_sem] zero131
theorem und131 : Try.prog.underlying 131 = some (.int .u64) := by kernel_rfl
attribute [go_sem] und131
theorem agg142 : aggOf Try.prog 142 = some none := by kernel_rfl
attribute [go_sem] agg142
theorem zero142 : zeroOf Try.prog 142 = some [.int .u32 0] := by kernel_rfl
attribute [go_sem] zero142
theorem und142 : Try.prog.underlying 142 = some (.int .u32) := by kernel_rfl
attribute [go_sem] und142
theorem agg144 : aggOf Try.prog 144 = some none := by kernel_rfl
attribute [go_sem] agg144
theorem zero144 : zeroOf Try.prog 144 = some [.int .u64 0] := by kernel_rfl
attribute [go_sem] zero144
theorem und144 : Try.prog.underlying 144 = some (.int .u64) := by kernel_rfl
attribute [go_sem] und144
end Go.Proofs.Ytobdhbgkmdmpmab.A

/- WHAT THE TYPES OF THIS TRANSLATION COME TO. Conditions: none. (Printed by a program of this session.) -/
import Derived.Test.YtbalifgacjmbpabGreatA39
import Derived.Test.YtbalifgacjmbpabGreatProg
namespace Go.Proofs.YtbalifgacjmbpabGreat.A
open Go
theorem agg2 : aggOf Tryz.prog 2 = some none := by kernel_rfl
attribute [go_sem] agg2
theorem zero2 : zeroOf Tryz.prog 2 = some [.int .i64 0] := by kernel_rfl
attribute [go_sem] zero2
theorem und2 : Tryz.prog.underlying 2 = some (.int .i64) := by kernel_rfl
attribute [go_sem] und2
theorem agg3 : aggOf Tryz.prog 3 = some none := by kernel_rfl
attribute [go_sem] agg3
theorem zero3 : zeroOf Tryz.prog 3 = some [.int .i64 0] := by kernel_rfl
attribute [go_sem] zero3
theorem und3 : Tryz.prog.underlying 3 = some (.int .i64) := by kernel_rfl
attribute [go_sem] und3
theorem agg4 : aggOf Tryz.prog 4 = some none := by kernel_rfl
attribute [go_sem] agg4
theorem zero4 : zeroOf Tryz.prog 4 = some [.bool false] := by kernel_rfl
attribute [go_sem] zero4
theorem und4 : Tryz.prog.underlying 4 = some .bool := by kernel_rfl
attribute [go_sem] und4
theorem agg5 : aggOf Tryz.prog 5 = some none := by kernel_rfl
attribute [go_sem] agg5
theorem zero5 : zeroOf Tryz.prog 5 = some [.int .u8 0] := by kernel_rfl
attribute [go_sem] zero5
theorem und5 : Tryz.prog.underlying 5 = some (.int .u8) := by kernel_rfl
attribute [go_sem] und5
theorem agg9 : aggOf Tryz.prog 9 = some none := by kernel_rfl
attribute [go_sem] agg9
theorem zero9 : zeroOf Tryz.prog 9 = some [.string ByteArray.empty] := by kernel_rfl
attribute [go_sem] zero9
theorem und9 : Tryz.prog.underlying 9 = some .string := by kernel_rfl
attribute [go_sem] und9
theorem appT9 : appT Tryz.prog 9 = true := by kernel_rfl
attribute [go_sem] appT9
theorem agg12 : aggOf Tryz.prog 12 = some none := by kernel_rfl
attribute [go_sem] agg12
theorem zero12 : zeroOf Tryz.prog 12 = some [.int .u64 0] := by kernel_rfl
attribute [go_sem] zero12
theorem und12 : Tryz.prog.underlying 12 = some (.int .u64) := by kernel_rfl
attribute [go_sem] und12
theorem agg21 : aggOf Tryz.prog 21 = some none := by kernel_rfl
attribute [go_sem] agg21
theorem zero21 : zeroOf Tryz.prog 21 = some [.int .i32 0] := by kernel_rfl
attribute [go_sem] zero21
theorem und21 : Tryz.prog.underlying 21 = some (.int .i32) := by kernel_rfl
attribute [go_sem] und21
theorem agg22 : aggOf Tryz.prog 22 = some none := by kernel_rfl
attribute [go_sem] agg22
theorem zero22 : zeroOf Tryz.prog 22 = some [.slice none 0 0] := by kernel_rfl
attribute [go_sem] zero22
theorem elem22 : elemOf' Tryz.prog 22 = some (3, 32, [.string ByteArray.empty, .int .i64 0, .int .i64 0]) := by kernel_rfl
attribute [go_sem] elem22
theorem und22 : Tryz.prog.underlying 22 = some (.slice 99) := by kernel_rfl
attribute [go_sem] und22
theorem appT22 : appT Tryz.prog 22 = true := by kernel_rfl
attribute [go_sem] appT22
theorem agg23 : aggOf Tryz.prog 23 = some none := by kernel_rfl
attribute [go_sem] agg23
theorem zero23 : zeroOf Tryz.prog 23 = some [.slice none 0 0] := by kernel_rfl
attribute [go_sem] zero23
theorem elem23 : elemOf' Tryz.prog 23 = some (2, 32, [.int .i64 0, .slice none 0 0]) := by kernel_rfl
attribute [go_sem] elem23
theorem und23 : Tryz.prog.underlying 23 = some (.slice 101) := by kernel_rfl
attribute [go_sem] und23
theorem appT23 : appT Tryz.prog 23 = true := by kernel_rfl
attribute [go_sem] appT23
theorem agg25 : aggOf Tryz.prog 25 = some (some 2) := by kernel_rfl
attribute [go_sem] agg25
theorem zero25 : zeroOf Tryz.prog 25 = some [.slice none 0 0, .slice none 0 0] := by kernel_rfl
attribute [go_sem] zero25
theorem fld25_0 : fieldOf Tryz.prog 25 0 = some (0, none) := by kernel_rfl
attribute [go_sem] fld25_0
theorem fld25_1 : fieldOf Tryz.prog 25 1 = some (1, none) := by kernel_rfl
attribute [go_sem] fld25_1
theorem places25 : placesOf Tryz.prog 25 = some [(0, 1), (1, 1)] := by kernel_rfl
attribute [go_sem] places25
theorem agg26 : aggOf Tryz.prog 26 = some none := by kernel_rfl
attribute [go_sem] agg26
theorem zero26 : zeroOf Tryz.prog 26 = some [.slice none 0 0] := by kernel_rfl
attribute [go_sem] zero26
theorem elem26 : elemOf' Tryz.prog 26 = some (2, 32, [.int .i64 0, .slice none 0 0]) := by kernel_rfl
attribute [go_sem] elem26
theorem und26 : Tryz.prog.underlying 26 = some (.slice 103) := by kernel_rfl
attribute [go_sem] und26
theorem appT26 : appT Tryz.prog 26 = true := by kernel_rfl
attribute [go_sem] appT26
theorem agg27 : aggOf Tryz.prog 27 = some none := by kernel_rfl
attribute [go_sem] agg27
theorem zero27 : zeroOf Tryz.prog 27 = some [.slice none 0 0] := by kernel_rfl
attribute [go_sem] zero27
theorem elem27 : elemOf' Tryz.prog 27 = some (1, 8, [.int .i64 0]) := by kernel_rfl
attribute [go_sem] elem27
theorem und27 : Tryz.prog.underlying 27 = some (.slice 3) := by kernel_rfl
attribute [go_sem] und27
theorem appT27 : appT Tryz.prog 27 = true := by kernel_rfl
attribute [go_sem] appT27
theorem agg29 : aggOf Tryz.prog 29 = some (some 3) := by kernel_rfl
attribute [go_sem] agg29
theorem zero29 : zeroOf Tryz.prog 29 = some [.int .i64 0, .slice none 0 0, .slice none 0 0] := by kernel_rfl
attribute [go_sem] zero29
theorem fld29_0 : fieldOf Tryz.prog 29 0 = some (0, none) := by kernel_rfl
attribute [go_sem] fld29_0
theorem fld29_1 : fieldOf Tryz.prog 29 1 = some (1, none) := by kernel_rfl
attribute [go_sem] fld29_1
theorem fld29_2 : fieldOf Tryz.prog 29 2 = some (2, none) := by kernel_rfl
attribute [go_sem] fld29_2
theorem places29 : placesOf Tryz.prog 29 = some [(0, 1), (1, 1), (2, 1)] := by kernel_rfl
attribute [go_sem] places29
theorem agg32 : aggOf Tryz.prog 32 = some none := by kernel_rfl
attribute [go_sem] agg32
theorem zero32 : zeroOf Tryz.prog 32 = some [.slice none 0 0] := by kernel_rfl
attribute [go_sem] zero32
theorem elem32 : elemOf' Tryz.prog 32 = some (2, 48, [.slice none 0 0, .slice none 0 0]) := by kernel_rfl
attribute [go_sem] elem32
theorem und32 : Tryz.prog.underlying 32 = some (.slice 72) := by kernel_rfl
attribute [go_sem] und32
theorem appT32 : appT Tryz.prog 32 = true := by kernel_rfl
attribute [go_sem] appT32
theorem agg34 : aggOf Tryz.prog 34 = some none := by kernel_rfl
attribute [go_sem] agg34
theorem zero34 : zeroOf Tryz.prog 34 = some [.slice none 0 0] := by kernel_rfl
attribute [go_sem] zero34
theorem elem34 : elemOf' Tryz.prog 34 = some (3, 32, [.string ByteArray.empty, .int .i64 0, .int .i64 0]) := by kernel_rfl
attribute [go_sem] elem34
theorem und34 : Tryz.prog.underlying 34 = some (.slice 107) := by kernel_rfl
attribute [go_sem] und34
theorem appT34 : appT Tryz.prog 34 = true := by kernel_rfl
attribute [go_sem] appT34
theorem agg35 : aggOf Tryz.prog 35 = some none := by kernel_rfl
attribute [go_sem] agg35
theorem zero35 : zeroOf Tryz.prog 35 = some [.slice none 0 0] := by kernel_rfl
attribute [go_sem] zero35
theorem elem35 : elemOf' Tryz.prog 35 = some (2, 32, [.int .i64 0, .slice none 0 0]) := by kernel_rfl
attribute [go_sem] elem35
theorem und35 : Tryz.prog.underlying 35 = some (.slice 76) := by kernel_rfl
attribute [go_sem] und35
theorem appT35 : appT Tryz.prog 35 = true := by kernel_rfl
attribute [go_sem] appT35
theorem agg37 : aggOf Tryz.prog 37 = some (some 2) := by kernel_rfl
attribute [go_sem] agg37
theorem zero37 : zeroOf Tryz.prog 37 = some [.slice none 0 0, .slice none 0 0] := by kernel_rfl
attribute [go_sem] zero37
theorem fld37_0 : fieldOf Tryz.prog 37 0 = some (0, none) := by kernel_rfl
attribute [go_sem] fld37_0
theorem fld37_1 : fieldOf Tryz.prog 37 1 = some (1, none) := by kernel_rfl
attribute [go_sem] fld37_1
theorem places37 : placesOf Tryz.prog 37 = some [(0, 1), (1, 1)] := by kernel_rfl
attribute [go_sem] places37
theorem agg39 : aggOf Tryz.prog 39 = some none := by kernel_rfl
attribute [go_sem] agg39
theorem zero39 : zeroOf Tryz.prog 39 = some [.slice none 0 0] := by kernel_rfl
attribute [go_sem] zero39
theorem elem39 : elemOf' Tryz.prog 39 = some (2, 32, [.int .i64 0, .slice none 0 0]) := by kernel_rfl
attribute [go_sem] elem39
theorem und39 : Tryz.prog.underlying 39 = some (.slice 74) := by kernel_rfl
attribute [go_sem] und39
theorem appT39 : appT Tryz.prog 39 = true := by kernel_rfl
attribute [go_sem] appT39
theorem agg41 : aggOf Tryz.prog 41 = some (some 3) := by kernel_rfl
attribute [go_sem] agg41
theorem zero41 : zeroOf Tryz.prog 41 = some [.int .i64 0, .slice none 0 0, .slice none 0 0] := by kernel_rfl
attribute [go_sem] zero41
theorem fld41_0 : fieldOf Tryz.prog 41 0 = some (0, none) := by kernel_rfl
attribute [go_sem] fld41_0
theorem fld41_1 : fieldOf Tryz.prog 41 1 = some (1, none) := by kernel_rfl
attribute [go_sem] fld41_1
theorem fld41_2 : fieldOf Tryz.prog 41 2 = some (2, none) := by kernel_rfl
attribute [go_sem] fld41_2
theorem places41 : placesOf Tryz.prog 41 = some [(0, 1), (1, 1), (2, 1)] := by kernel_rfl
attribute [go_sem] places41
theorem agg54 : aggOf Tryz.prog 54 = some none := by kernel_rfl
attribute [go_sem] agg54
theorem zero54 : zeroOf Tryz.prog 54 = some [.slice none 0 0] := by kernel_rfl
attribute [go_sem] zero54
theorem elem54 : elemOf' Tryz.prog 54 = some (1, 24, [.slice none 0 0]) := by kernel_rfl
attribute [go_sem] elem54
theorem und54 : Tryz.prog.underlying 54 = some (.slice 27) := by kernel_rfl
attribute [go_sem] und54
theorem appT54 : appT Tryz.prog 54 = true := by kernel_rfl
attribute [go_sem] appT54
theorem agg70 : aggOf Tryz.prog 70 = some none := by kernel_rfl
attribute [go_sem] agg70
theorem agg72 : aggOf Tryz.prog 72 = some (some 2) := by kernel_rfl
attribute [go_sem] agg72
theorem zero72 : zeroOf Tryz.prog 72 = some [.slice none 0 0, .slice none 0 0] := by kernel_rfl
attribute [go_sem] zero72
theorem fld72_0 : fieldOf Tryz.prog 72 0 = some (0, none) := by kernel_rfl
attribute [go_sem] fld72_0
theorem fld72_1 : fieldOf Tryz.prog 72 1 = some (1, none) := by kernel_rfl
attribute [go_sem] fld72_1
theorem places72 : placesOf Tryz.prog 72 = some [(0, 1), (1, 1)] := by kernel_rfl
attribute [go_sem] places72
theorem agg74 : aggOf Tryz.prog 74 = some (some 2) := by kernel_rfl
attribute [go_sem] agg74
theorem zero74 : zeroOf Tryz.prog 74 = some [.int .i64 0, .slice none 0 0] := by kernel_rfl
attribute [go_sem] zero74
theorem fld74_0 : fieldOf Tryz.prog 74 0 = some (0, none) := by kernel_rfl
attribute [go_sem] fld74_0
theorem fld74_1 : fieldOf Tryz.prog 74 1 = some (1, none) := by kernel_rfl
attribute [go_sem] fld74_1
theorem places74 : placesOf Tryz.prog 74 = some [(0, 1), (1, 1)] := by kernel_rfl
attribute [go_sem] places74
theorem agg76 : aggOf Tryz.prog 76 = some (some 2) := by kernel_rfl
attribute [go_sem] agg76
theorem zero76 : zeroOf Tryz.prog 76 = some [.int .i64 0, .slice none 0 0] := by kernel_rfl
attribute [go_sem] zero76
theorem fld76_0 : fieldOf Tryz.prog 76 0 = some (0, none) := by kernel_rfl
attribute [go_sem] fld76_0
theorem fld76_1 : fieldOf Tryz.prog 76 1 = some (1, none) := by kernel_rfl
attribute [go_sem] fld76_1
theorem places76 : placesOf Tryz.prog 76 = some [(0, 1), (1, 1)] := by kernel_rfl
attribute [go_sem] places76
theorem agg99 : aggOf Tryz.prog 99 = some (some 3) := by kernel_rfl
attribute [go_sem] agg99
theorem zero99 : zeroOf Tryz.prog 99 = some [.string ByteArray.empty, .int .i64 0, .int .i64 0] := by kernel_rfl
attribute [go_sem] zero99
theorem fld99_0 : fieldOf Tryz.prog 99 0 = some (0, none) := by kernel_rfl
attribute [go_sem] fld99_0
theorem fld99_1 : fieldOf Tryz.prog 99 1 = some (1, none) := by kernel_rfl
attribute [go_sem] fld99_1
theorem fld99_2 : fieldOf Tryz.prog 99 2 = some (2, none) := by kernel_rfl
attribute [go_sem] fld99_2
theorem places99 : placesOf Tryz.prog 99 = some [(0, 1), (1, 1), (2, 1)] := by kernel_rfl
attribute [go_sem] places99
theorem agg101 : aggOf Tryz.prog 101 = some (some 2) := by kernel_rfl
attribute [go_sem] agg101
theorem zero101 : zeroOf Tryz.prog 101 = some [.int .i64 0, .slice none 0 0] := by kernel_rfl
attribute [go_sem] zero101
theorem fld101_0 : fieldOf Tryz.prog 101 0 = some (0, none) := by kernel_rfl
attribute [go_sem] fld101_0
theorem fld101_1 : fieldOf Tryz.prog 101 1 = some (1, none) := by kernel_rfl
attribute [go_sem] fld101_1
theorem places101 : placesOf Tryz.prog 101 = some [(0, 1), (1, 1)] := by kernel_rfl
attribute [go_sem] places101
theorem agg103 : aggOf Tryz.prog 103 = some (some 2) := by kernel_rfl
attribute [go_sem] agg103
theorem zero103 : zeroOf Tryz.prog 103 = some [.int .i64 0, .slice none 0 0] := by kernel_rfl
attribute [go_sem] zero103
theorem fld103_0 : fieldOf Tryz.prog 103 0 = some (0, none) := by kernel_rfl
attribute [go_sem] fld103_0
theorem fld103_1 : fieldOf Tryz.prog 103 1 = some (1, none) := by kernel_rfl
attribute [go_sem] fld103_1
theorem places103 : placesOf Tryz.prog 103 = some [(0, 1), (1, 1)] := by kernel_rfl
attribute [go_sem] places103
theorem agg107 : aggOf Tryz.prog 107 = some (some 3) := by kernel_rfl
attribute [go_sem] agg107
theorem zero107 : zeroOf Tryz.prog 107 = some [.string ByteArray.empty, .int .i64 0, .int .i64 0] := by kernel_rfl
attribute [go_sem] zero107
theorem fld107_0 : fieldOf Tryz.prog 107 0 = some (0, none) := by kernel_rfl
attribute [go_sem] fld107_0
theorem fld107_1 : fieldOf Tryz.prog 107 1 = some (1, none) := by kernel_rfl
attribute [go_sem] fld107_1
theorem fld107_2 : fieldOf Tryz.prog 107 2 = some (2, none) := by kernel_rfl
attribute [go_sem] fld107_2
theorem places107 : placesOf Tryz.prog 107 = some [(0, 1), (1, 1), (2, 1)] := by kernel_rfl
attribute [go_sem] places107
theorem agg121 : aggOf Tryz.prog 121 = some none := by kernel_rfl
attribute [go_sem] agg121
theorem zero121 : zeroOf Tryz.prog 121 = some [.int .u64 0] := by kernel_rfl
attribute [go_sem] zero121
theorem und121 : Tryz.prog.underlying 121 = some (.int .u64) := by kernel_rfl
attribute [go_sem] und121
theorem agg133 : aggOf Tryz.prog 133 = some none := by kernel_rfl
attribute [go_sem] agg133
theorem zero133 : zeroOf Tryz.prog 133 = some [.slice none 0 0] := by kernel_rfl
attribute [go_sem] zero133
theorem elem133 : elemOf' Tryz.prog 133 = some (1, 1, [.bool false]) := by kernel_rfl
attribute [go_sem] elem133
theorem und133 : Tryz.prog.underlying 133 = some (.slice 4) := by kernel_rfl
attribute [go_sem] und133
theorem appT133 : appT Tryz.prog 133 = true := by kernel_rfl
attribute [go_sem] appT133
theorem agg139 : aggOf Tryz.prog 139 = some none := by kernel_rfl
attribute [go_sem] agg139
theorem zero139 : zeroOf Tryz.prog 139 = some [.slice none 0 0] := by kernel_rfl
attribute [go_sem] zero139
theorem elem139 : elemOf' Tryz.prog 139 = some (1, 1, [.int .u8 0]) := by kernel_rfl
attribute [go_sem] elem139
theorem und139 : Tryz.prog.underlying 139 = some (.slice 5) := by kernel_rfl
attribute [go_sem] und139
theorem appT139 : appT Tryz.prog 139 = true := by kernel_rfl
attribute [go_sem] appT139
theorem agg150 : aggOf Tryz.prog 150 = some none := by kernel_rfl
attribute [go_sem] agg150
theorem zero150 : zeroOf Tryz.prog 150 = some [.int .u32 0] := by kernel_rfl
attribute [go_sem] zero150
theorem und150 : Tryz.prog.underlying 150 = some (.int .u32) := by kernel_rfl
attribute [go_sem] und150
theorem agg152 : aggOf Tryz.prog 152 = some none := by kernel_rfl
attribute [go_sem] agg152
theorem zero152 : zeroOf Tryz.prog 152 = some [.int .u64 0] := by kernel_rfl
attribute [go_sem] zero152
theorem und152 : Tryz.prog.underlying 152 = some (.int .u64) := by kernel_rfl
attribute [go_sem] und152
end Go.Proofs.YtbalifgacjmbpabGreat.A

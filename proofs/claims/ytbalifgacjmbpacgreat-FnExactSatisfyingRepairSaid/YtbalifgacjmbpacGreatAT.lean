/- WHAT THE TYPES OF THIS TRANSLATION COME TO. Conditions: none. (Printed by a program of this session.) -/
import Derived.Test.YtbalifgacjmbpacGreatA39
import Derived.Test.YtbalifgacjmbpacGreatProg
namespace Go.Proofs.YtbalifgacjmbpacGreat.A
open Go
theorem agg2 : aggOf Tryz.prog 2 = some none := by kernel_rfl
attribute [go_sem] agg2
theorem zero2 : zeroOf Tryz.prog 2 = some [.int .i64 0] := by kernel_rfl
attribute [go_sem] zero2
theorem und2 : Tryz.prog.underlying 2 = some (.int .i64) := by kernel_rfl
attribute [go_sem] und2
theorem agg3 : aggOf Tryz.prog 3 = some none := by kernel_rfl
attribute [go_sem] agg3
theorem zero3 : zeroOf Tryz.prog 3 = some [.int .i64 0] := by kernel_rfl
attribute [go_sem] zero3
theorem und3 : Tryz.prog.underlying 3 = some (.int .i64) := by kernel_rfl
attribute [go_sem] und3
theorem agg4 : aggOf Tryz.prog 4 = some none := by kernel_rfl
attribute [go_sem] agg4
theorem zero4 : zeroOf Tryz.prog 4 = some [.bool false] := by kernel_rfl
attribute [go_sem] zero4
theorem und4 : Tryz.prog.underlying 4 = some .bool := by kernel_rfl
attribute [go_sem] und4
theorem agg5 : aggOf Tryz.prog 5 = some none := by kernel_rfl
attribute [go_sem] agg5
theorem zero5 : zeroOf Tryz.prog 5 = some [.int .u8 0] := by kernel_rfl
attribute [go_sem] zero5
theorem und5 : Tryz.prog.underlying 5 = some (.int .u8) := by kernel_rfl
attribute [go_sem] und5
theorem agg9 : aggOf Tryz.prog 9 = some none := by kernel_rfl
attribute [go_sem] agg9
theorem zero9 : zeroOf Tryz.prog 9 = some [.string ByteArray.empty] := by kernel_rfl
attribute [go_sem] zero9
theorem und9 : Tryz.prog.underlying 9 = some .string := by kernel_rfl
attribute [go_sem] und9
theorem appT9 : appT Tryz.prog 9 = true := by kernel_rfl
attribute [go_sem] appT9
theorem agg12 : aggOf Tryz.prog 12 = some none := by kernel_rfl
attribute [go_sem] agg12
theorem zero12 : zeroOf Tryz.prog 12 = some [.int .u64 0] := by kernel_rfl
attribute [go_sem] zero12
theorem und12 : Tryz.prog.underlying 12 = some (.int .u64) := by kernel_rfl
attribute [go_sem] und12
theorem agg21 : aggOf Tryz.prog 21 = some none := by kernel_rfl
attribute [go_sem] agg21
theorem zero21 : zeroOf Tryz.prog 21 = some [.int .i32 0] := by kernel_rfl
attribute [go_sem] zero21
theorem und21 : Tryz.prog.underlying 21 = some (.int .i32) := by kernel_rfl
attribute [go_sem] und21
theorem agg22 : aggOf Tryz.prog 22 = some none := by kernel_rfl
attribute [go_sem] agg22
theorem zero22 : zeroOf Tryz.prog 22 = some [.slice none 0 0] := by kernel_rfl
attribute [go_sem] zero22
theorem elem22 : elemOf' Tryz.prog 22 = some (3, 32, [.string ByteArray.empty, .int .i64 0, .int .i64 0]) := by kernel_rfl
attribute [go_sem] elem22
theorem und22 : Tryz.prog.underlying 22 = some (.slice 69) := by kernel_rfl
attribute [go_sem] und22
theorem appT22 : appT Tryz.prog 22 = true := by kernel_rfl
attribute [go_sem] appT22
theorem agg23 : aggOf Tryz.prog 23 = some none := by kernel_rfl
attribute [go_sem] agg23
theorem zero23 : zeroOf Tryz.prog 23 = some [.slice none 0 0] := by kernel_rfl
attribute [go_sem] zero23
theorem elem23 : elemOf' Tryz.prog 23 = some (2, 32, [.int .i64 0, .slice none 0 0]) := by kernel_rfl
attribute [go_sem] elem23
theorem und23 : Tryz.prog.underlying 23 = some (.slice 72) := by kernel_rfl
attribute [go_sem] und23
theorem appT23 : appT Tryz.prog 23 = true := by kernel_rfl
attribute [go_sem] appT23
theorem agg25 : aggOf Tryz.prog 25 = some (some 2) := by kernel_rfl
attribute [go_sem] agg25
theorem zero25 : zeroOf Tryz.prog 25 = some [.slice none 0 0, .slice none 0 0] := by kernel_rfl
attribute [go_sem] zero25
theorem fld25_0 : fieldOf Tryz.prog 25 0 = some (0, none) := by kernel_rfl
attribute [go_sem] fld25_0
theorem fld25_1 : fieldOf Tryz.prog 25 1 = some (1, none) := by kernel_rfl
attribute [go_sem] fld25_1
theorem places25 : placesOf Tryz.prog 25 = some [(0, 1), (1, 1)] := by kernel_rfl
attribute [go_sem] places25
theorem agg26 : aggOf Tryz.prog 26 = some none := by kernel_rfl
attribute [go_sem] agg26
theorem zero26 : zeroOf Tryz.prog 26 = some [.slice none 0 0] := by kernel_rfl
attribute [go_sem] zero26
theorem elem26 : elemOf' Tryz.prog 26 = some (2, 32, [.int .i64 0, .slice none 0 0]) := by kernel_rfl
attribute [go_sem] elem26
theorem und26 : Tryz.prog.underlying 26 = some (.slice 75) := by kernel_rfl
attribute [go_sem] und26
theorem appT26 : appT Tryz.prog 26 = true := by kernel_rfl
attribute [go_sem] appT26
theorem agg27 : aggOf Tryz.prog 27 = some none := by kernel_rfl
attribute [go_sem] agg27
theorem zero27 : zeroOf Tryz.prog 27 = some [.slice none 0 0] := by kernel_rfl
attribute [go_sem] zero27
theorem elem27 : elemOf' Tryz.prog 27 = some (1, 8, [.int .i64 0]) := by kernel_rfl
attribute [go_sem] elem27
theorem und27 : Tryz.prog.underlying 27 = some (.slice 3) := by kernel_rfl
attribute [go_sem] und27
theorem appT27 : appT Tryz.prog 27 = true := by kernel_rfl
attribute [go_sem] appT27
theorem agg29 : aggOf Tryz.prog 29 = some (some 3) := by kernel_rfl
attribute [go_sem] agg29
theorem zero29 : zeroOf Tryz.prog 29 = some [.int .i64 0, .slice none 0 0, .slice none 0 0] := by kernel_rfl
attribute [go_sem] zero29
theorem fld29_0 : fieldOf Tryz.prog 29 0 = some (0, none) := by kernel_rfl
attribute [go_sem] fld29_0
theorem fld29_1 : fieldOf Tryz.prog 29 1 = some (1, none) := by kernel_rfl
attribute [go_sem] fld29_1
theorem fld29_2 : fieldOf Tryz.prog 29 2 = some (2, none) := by kernel_rfl
attribute [go_sem] fld29_2
theorem places29 : placesOf Tryz.prog 29 = some [(0, 1), (1, 1), (2, 1)] := by kernel_rfl
attribute [go_sem] places29
theorem agg33 : aggOf Tryz.prog 33 = some none := by kernel_rfl
attribute [go_sem] agg33
theorem zero33 : zeroOf Tryz.prog 33 = some [.slice none 0 0] := by kernel_rfl
attribute [go_sem] zero33
theorem elem33 : elemOf' Tryz.prog 33 = some (3, 32, [.string ByteArray.empty, .int .i64 0, .int .i64 0]) := by kernel_rfl
attribute [go_sem] elem33
theorem und33 : Tryz.prog.underlying 33 = some (.slice 78) := by kernel_rfl
attribute [go_sem] und33
theorem appT33 : appT Tryz.prog 33 = true := by kernel_rfl
attribute [go_sem] appT33
theorem agg34 : aggOf Tryz.prog 34 = some none := by kernel_rfl
attribute [go_sem] agg34
theorem zero34 : zeroOf Tryz.prog 34 = some [.slice none 0 0] := by kernel_rfl
attribute [go_sem] zero34
theorem elem34 : elemOf' Tryz.prog 34 = some (2, 32, [.int .i64 0, .slice none 0 0]) := by kernel_rfl
attribute [go_sem] elem34
theorem und34 : Tryz.prog.underlying 34 = some (.slice 80) := by kernel_rfl
attribute [go_sem] und34
theorem appT34 : appT Tryz.prog 34 = true := by kernel_rfl
attribute [go_sem] appT34
theorem agg36 : aggOf Tryz.prog 36 = some (some 2) := by kernel_rfl
attribute [go_sem] agg36
theorem zero36 : zeroOf Tryz.prog 36 = some [.slice none 0 0, .slice none 0 0] := by kernel_rfl
attribute [go_sem] zero36
theorem fld36_0 : fieldOf Tryz.prog 36 0 = some (0, none) := by kernel_rfl
attribute [go_sem] fld36_0
theorem fld36_1 : fieldOf Tryz.prog 36 1 = some (1, none) := by kernel_rfl
attribute [go_sem] fld36_1
theorem places36 : placesOf Tryz.prog 36 = some [(0, 1), (1, 1)] := by kernel_rfl
attribute [go_sem] places36
theorem agg38 : aggOf Tryz.prog 38 = some none := by kernel_rfl
attribute [go_sem] agg38
theorem zero38 : zeroOf Tryz.prog 38 = some [.slice none 0 0] := by kernel_rfl
attribute [go_sem] zero38
theorem elem38 : elemOf' Tryz.prog 38 = some (2, 32, [.int .i64 0, .slice none 0 0]) := by kernel_rfl
attribute [go_sem] elem38
theorem und38 : Tryz.prog.underlying 38 = some (.slice 82) := by kernel_rfl
attribute [go_sem] und38
theorem appT38 : appT Tryz.prog 38 = true := by kernel_rfl
attribute [go_sem] appT38
theorem agg40 : aggOf Tryz.prog 40 = some (some 3) := by kernel_rfl
attribute [go_sem] agg40
theorem zero40 : zeroOf Tryz.prog 40 = some [.int .i64 0, .slice none 0 0, .slice none 0 0] := by kernel_rfl
attribute [go_sem] zero40
theorem fld40_0 : fieldOf Tryz.prog 40 0 = some (0, none) := by kernel_rfl
attribute [go_sem] fld40_0
theorem fld40_1 : fieldOf Tryz.prog 40 1 = some (1, none) := by kernel_rfl
attribute [go_sem] fld40_1
theorem fld40_2 : fieldOf Tryz.prog 40 2 = some (2, none) := by kernel_rfl
attribute [go_sem] fld40_2
theorem places40 : placesOf Tryz.prog 40 = some [(0, 1), (1, 1), (2, 1)] := by kernel_rfl
attribute [go_sem] places40
theorem agg69 : aggOf Tryz.prog 69 = some (some 3) := by kernel_rfl
attribute [go_sem] agg69
theorem zero69 : zeroOf Tryz.prog 69 = some [.string ByteArray.empty, .int .i64 0, .int .i64 0] := by kernel_rfl
attribute [go_sem] zero69
theorem fld69_0 : fieldOf Tryz.prog 69 0 = some (0, none) := by kernel_rfl
attribute [go_sem] fld69_0
theorem fld69_1 : fieldOf Tryz.prog 69 1 = some (1, none) := by kernel_rfl
attribute [go_sem] fld69_1
theorem fld69_2 : fieldOf Tryz.prog 69 2 = some (2, none) := by kernel_rfl
attribute [go_sem] fld69_2
theorem places69 : placesOf Tryz.prog 69 = some [(0, 1), (1, 1), (2, 1)] := by kernel_rfl
attribute [go_sem] places69
theorem agg72 : aggOf Tryz.prog 72 = some (some 2) := by kernel_rfl
attribute [go_sem] agg72
theorem zero72 : zeroOf Tryz.prog 72 = some [.int .i64 0, .slice none 0 0] := by kernel_rfl
attribute [go_sem] zero72
theorem fld72_0 : fieldOf Tryz.prog 72 0 = some (0, none) := by kernel_rfl
attribute [go_sem] fld72_0
theorem fld72_1 : fieldOf Tryz.prog 72 1 = some (1, none) := by kernel_rfl
attribute [go_sem] fld72_1
theorem places72 : placesOf Tryz.prog 72 = some [(0, 1), (1, 1)] := by kernel_rfl
attribute [go_sem] places72
theorem agg75 : aggOf Tryz.prog 75 = some (some 2) := by kernel_rfl
attribute [go_sem] agg75
theorem zero75 : zeroOf Tryz.prog 75 = some [.int .i64 0, .slice none 0 0] := by kernel_rfl
attribute [go_sem] zero75
theorem fld75_0 : fieldOf Tryz.prog 75 0 = some (0, none) := by kernel_rfl
attribute [go_sem] fld75_0
theorem fld75_1 : fieldOf Tryz.prog 75 1 = some (1, none) := by kernel_rfl
attribute [go_sem] fld75_1
theorem places75 : placesOf Tryz.prog 75 = some [(0, 1), (1, 1)] := by kernel_rfl
attribute [go_sem] places75
theorem agg78 : aggOf Tryz.prog 78 = some (some 3) := by kernel_rfl
attribute [go_sem] agg78
theorem zero78 : zeroOf Tryz.prog 78 = some [.string ByteArray.empty, .int .i64 0, .int .i64 0] := by kernel_rfl
attribute [go_sem] zero78
theorem fld78_0 : fieldOf Tryz.prog 78 0 = some (0, none) := by kernel_rfl
attribute [go_sem] fld78_0
theorem fld78_1 : fieldOf Tryz.prog 78 1 = some (1, none) := by kernel_rfl
attribute [go_sem] fld78_1
theorem fld78_2 : fieldOf Tryz.prog 78 2 = some (2, none) := by kernel_rfl
attribute [go_sem] fld78_2
theorem places78 : placesOf Tryz.prog 78 = some [(0, 1), (1, 1), (2, 1)] := by kernel_rfl
attribute [go_sem] places78
theorem agg80 : aggOf Tryz.prog 80 = some (some 2) := by kernel_rfl
attribute [go_sem] agg80
theorem zero80 : zeroOf Tryz.prog 80 = some [.int .i64 0, .slice none 0 0] := by kernel_rfl
attribute [go_sem] zero80
theorem fld80_0 : fieldOf Tryz.prog 80 0 = some (0, none) := by kernel_rfl
attribute [go_sem] fld80_0
theorem fld80_1 : fieldOf Tryz.prog 80 1 = some (1, none) := by kernel_rfl
attribute [go_sem] fld80_1
theorem places80 : placesOf Tryz.prog 80 = some [(0, 1), (1, 1)] := by kernel_rfl
attribute [go_sem] places80
theorem agg82 : aggOf Tryz.prog 82 = some (some 2) := by kernel_rfl
attribute [go_sem] agg82
theorem zero82 : zeroOf Tryz.prog 82 = some [.int .i64 0, .slice none 0 0] := by kernel_rfl
attribute [go_sem] zero82
theorem fld82_0 : fieldOf Tryz.prog 82 0 = some (0, none) := by kernel_rfl
attribute [go_sem] fld82_0
theorem fld82_1 : fieldOf Tryz.prog 82 1 = some (1, none) := by kernel_rfl
attribute [go_sem] fld82_1
theorem places82 : placesOf Tryz.prog 82 = some [(0, 1), (1, 1)] := by kernel_rfl
attribute [go_sem] places82
theorem agg84 : aggOf Tryz.prog 84 = some none := by kernel_rfl
attribute [go_sem] agg84
theorem zero84 : zeroOf Tryz.prog 84 = some [.slice none 0 0] := by kernel_rfl
attribute [go_sem] zero84
theorem elem84 : elemOf' Tryz.prog 84 = some (1, 24, [.slice none 0 0]) := by kernel_rfl
attribute [go_sem] elem84
theorem und84 : Tryz.prog.underlying 84 = some (.slice 27) := by kernel_rfl
attribute [go_sem] und84
theorem appT84 : appT Tryz.prog 84 = true := by kernel_rfl
attribute [go_sem] appT84
theorem agg102 : aggOf Tryz.prog 102 = some none := by kernel_rfl
attribute [go_sem] agg102
theorem zero102 : zeroOf Tryz.prog 102 = some [.slice none 0 0] := by kernel_rfl
attribute [go_sem] zero102
theorem elem102 : elemOf' Tryz.prog 102 = some (1, 1, [.bool false]) := by kernel_rfl
attribute [go_sem] elem102
theorem und102 : Tryz.prog.underlying 102 = some (.slice 4) := by kernel_rfl
attribute [go_sem] und102
theorem appT102 : appT Tryz.prog 102 = true := by kernel_rfl
attribute [go_sem] appT102
theorem agg103 : aggOf Tryz.prog 103 = some none := by kernel_rfl
attribute [go_sem] agg103
theorem zero103 : zeroOf Tryz.prog 103 = some [.slice none 0 0] := by kernel_rfl
attribute [go_sem] zero103
theorem elem103 : elemOf' Tryz.prog 103 = some (2, 48, [.slice none 0 0, .slice none 0 0]) := by kernel_rfl
attribute [go_sem] elem103
theorem und103 : Tryz.prog.underlying 103 = some (.slice 106) := by kernel_rfl
attribute [go_sem] und103
theorem appT103 : appT Tryz.prog 103 = true := by kernel_rfl
attribute [go_sem] appT103
theorem agg106 : aggOf Tryz.prog 106 = some (some 2) := by kernel_rfl
attribute [go_sem] agg106
theorem zero106 : zeroOf Tryz.prog 106 = some [.slice none 0 0, .slice none 0 0] := by kernel_rfl
attribute [go_sem] zero106
theorem fld106_0 : fieldOf Tryz.prog 106 0 = some (0, none) := by kernel_rfl
attribute [go_sem] fld106_0
theorem fld106_1 : fieldOf Tryz.prog 106 1 = some (1, none) := by kernel_rfl
attribute [go_sem] fld106_1
theorem places106 : placesOf Tryz.prog 106 = some [(0, 1), (1, 1)] := by kernel_rfl
attribute [go_sem] places106
theorem agg115 : aggOf Tryz.prog 115 = some none := by kernel_rfl
attribute [go_sem] agg115
theorem zero115 : zeroOf Tryz.prog 115 = some [.slice none 0 0] := by kernel_rfl
attribute [go_sem] zero115
theorem elem115 : elemOf' Tryz.prog 115 = some (1, 1, [.int .u8 0]) := by kernel_rfl
attribute [go_sem] elem115
theorem und115 : Tryz.prog.underlying 115 = some (.slice 5) := by kernel_rfl
attribute [go_sem] und115
theorem appT115 : appT Tryz.prog 115 = true := by kernel_rfl
attribute [go_sem] appT115
theorem agg122 : aggOf Tryz.prog 122 = some none := by kernel_rfl
attribute [go_sem] agg122
theorem agg127 : aggOf Tryz.prog 127 = some none := by kernel_rfl
attribute [go_sem] agg127
theorem zero127 : zeroOf Tryz.prog 127 = some [.int .u64 0] := by kernel_rfl
attribute [go_sem] zero127
theorem und127 : Tryz.prog.underlying 127 = some (.int .u64) := by kernel_rfl
attribute [go_sem] und127
theorem agg148 : aggOf Tryz.prog 148 = some none := by kernel_rfl
attribute [go_sem] agg148
theorem zero148 : zeroOf Tryz.prog 148 = some [.int .u32 0] := by kernel_rfl
attribute [go_sem] zero148
theorem und148 : Tryz.prog.underlying 148 = some (.int .u32) := by kernel_rfl
attribute [go_sem] und148
theorem agg150 : aggOf Tryz.prog 150 = some none := by kernel_rfl
attribute [go_sem] agg150
theorem zero150 : zeroOf Tryz.prog 150 = some [.int .u64 0] := by kernel_rfl
attribute [go_sem] zero150
theorem und150 : Tryz.prog.underlying 150 = some (.int .u64) := by kernel_rfl
attribute [go_sem] und150
end Go.Proofs.YtbalifgacjmbpacGreat.A

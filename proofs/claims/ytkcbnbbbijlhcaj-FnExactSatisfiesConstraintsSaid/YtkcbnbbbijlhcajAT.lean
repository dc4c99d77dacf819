/- WHAT THE TYPES OF THIS TRANSLATION COME TO. Conditions: none. (Printed by a program of this session.) -/
import Derived.Test.YtkcbnbbbijlhcajA39
import Derived.Test.YtkcbnbbbijlhcajProg
namespace Go.Proofs.Ytkcbnbbbijlhcaj.A
open Go
theorem agg2 : aggOf Try.prog 2 = some none := by kernel_rfl
attribute [go_sem] agg2
theorem zero2 : zeroOf Try.prog 2 = some [.int .i64 0] := by kernel_rfl
attribute [go_sem] zero2
theorem und2 : Try.prog.underlying 2 = some (.int .i64) := by kernel_rfl
attribute [go_sem] und2
theorem agg3 : aggOf Try.prog 3 = some none := by kernel_rfl
attribute [go_sem] agg3
theorem zero3 : zeroOf Try.prog 3 = some [.int .i64 0] := by kernel_rfl
attribute [go_sem] zero3
theorem und3 : Try.prog.underlying 3 = some (.int .i64) := by kernel_rfl
attribute [go_sem] und3
theorem agg4 : aggOf Try.prog 4 = some none := by kernel_rfl
attribute [go_sem] agg4
theorem zero4 : zeroOf Try.prog 4 = some [.bool false] := by kernel_rfl
attribute [go_sem] zero4
theorem und4 : Try.prog.underlying 4 = some .bool := by kernel_rfl
attribute [go_sem] und4
theorem agg5 : aggOf Try.prog 5 = some none := by kernel_rfl
attribute [go_sem] agg5
theorem zero5 : zeroOf Try.prog 5 = some [.int .u8 0] := by kernel_rfl
attribute [go_sem] zero5
theorem und5 : Try.prog.underlying 5 = some (.int .u8) := by kernel_rfl
attribute [go_sem] und5
theorem agg9 : aggOf Try.prog 9 = some none := by kernel_rfl
attribute [go_sem] agg9
theorem zero9 : zeroOf Try.prog 9 = some [.string ByteArray.empty] := by kernel_rfl
attribute [go_sem] zero9
theorem und9 : Try.prog.underlying 9 = some .string := by kernel_rfl
attribute [go_sem] und9
theorem appT9 : appT Try.prog 9 = true := by kernel_rfl
attribute [go_sem] appT9
theorem agg12 : aggOf Try.prog 12 = some none := by kernel_rfl
attribute [go_sem] agg12
theorem zero12 : zeroOf Try.prog 12 = some [.int .u64 0] := by kernel_rfl
attribute [go_sem] zero12
theorem und12 : Try.prog.underlying 12 = some (.int .u64) := by kernel_rfl
attribute [go_sem] und12
theorem agg21 : aggOf Try.prog 21 = some none := by kernel_rfl
attribute [go_sem] agg21
theorem zero21 : zeroOf Try.prog 21 = some [.int .i32 0] := by kernel_rfl
attribute [go_sem] zero21
theorem und21 : Try.prog.underlying 21 = some (.int .i32) := by kernel_rfl
attribute [go_sem] und21
theorem agg22 : aggOf Try.prog 22 = some none := by kernel_rfl
attribute [go_sem] agg22
theorem zero22 : zeroOf Try.prog 22 = some [.slice none 0 0] := by kernel_rfl
attribute [go_sem] zero22
theorem elem22 : elemOf' Try.prog 22 = some (3, 32, [.string ByteArray.empty, .int .i64 0, .int .i64 0]) := by kernel_rfl
attribute [go_sem] elem22
theorem und22 : Try.prog.underlying 22 = some (.slice 56) := by kernel_rfl
attribute [go_sem] und22
theorem appT22 : appT Try.prog 22 = true := by kernel_rfl
attribute [go_sem] appT22
theorem agg23 : aggOf Try.prog 23 = some none := by kernel_rfl
attribute [go_sem] agg23
theorem zero23 : zeroOf Try.prog 23 = some [.slice none 0 0] := by kernel_rfl
attribute [go_sem] zero23
theorem elem23 : elemOf' Try.prog 23 = some (2, 32, [.int .i64 0, .slice none 0 0]) := by kernel_rfl
attribute [go_sem] elem23
theorem und23 : Try.prog.underlying 23 = some (.slice 60) := by kernel_rfl
attribute [go_sem] und23
theorem appT23 : appT Try.prog 23 = true := by kernel_rfl
attribute [go_sem] appT23
theorem agg25 : aggOf Try.prog 25 = some (some 2) := by kernel_rfl
attribute [go_sem] agg25
theorem zero25 : zeroOf Try.prog 25 = some [.slice none 0 0, .slice none 0 0] := by kernel_rfl
attribute [go_sem] zero25
theorem fld25_0 : fieldOf Try.prog 25 0 = some (0, none) := by kernel_rfl
attribute [go_sem] fld25_0
theorem fld25_1 : fieldOf Try.prog 25 1 = some (1, none) := by kernel_rfl
attribute [go_sem] fld25_1
theorem places25 : placesOf Try.prog 25 = some [(0, 1), (1, 1)] := by kernel_rfl
attribute [go_sem] places25
theorem agg26 : aggOf Try.prog 26 = some none := by kernel_rfl
attribute [go_sem] agg26
theorem zero26 : zeroOf Try.prog 26 = some [.slice none 0 0] := by kernel_rfl
attribute [go_sem] zero26
theorem elem26 : elemOf' Try.prog 26 = some (7, 56, [.int .i64 0, .int .i64 0, .int .i64 0, .int .i64 0, .int .i64 0, .int .i64 0, .int .i64 0]) := by kernel_rfl
attribute [go_sem] elem26
theorem und26 : Try.prog.underlying 26 = some (.slice 50) := by kernel_rfl
attribute [go_sem] und26
theorem appT26 : appT Try.prog 26 = true := by kernel_rfl
attribute [go_sem] appT26
theorem agg30 : aggOf Try.prog 30 = some none := by kernel_rfl
attribute [go_sem] agg30
theorem zero30 : zeroOf Try.prog 30 = some [.slice none 0 0] := by kernel_rfl
attribute [go_sem] zero30
theorem elem30 : elemOf' Try.prog 30 = some (3, 32, [.string ByteArray.empty, .int .i64 0, .int .i64 0]) := by kernel_rfl
attribute [go_sem] elem30
theorem und30 : Try.prog.underlying 30 = some (.slice 69) := by kernel_rfl
attribute [go_sem] und30
theorem appT30 : appT Try.prog 30 = true := by kernel_rfl
attribute [go_sem] appT30
theorem agg31 : aggOf Try.prog 31 = some none := by kernel_rfl
attribute [go_sem] agg31
theorem zero31 : zeroOf Try.prog 31 = some [.slice none 0 0] := by kernel_rfl
attribute [go_sem] zero31
theorem elem31 : elemOf' Try.prog 31 = some (2, 32, [.int .i64 0, .slice none 0 0]) := by kernel_rfl
attribute [go_sem] elem31
theorem und31 : Try.prog.underlying 31 = some (.slice 62) := by kernel_rfl
attribute [go_sem] und31
theorem appT31 : appT Try.prog 31 = true := by kernel_rfl
attribute [go_sem] appT31
theorem agg33 : aggOf Try.prog 33 = some (some 2) := by kernel_rfl
attribute [go_sem] agg33
theorem zero33 : zeroOf Try.prog 33 = some [.slice none 0 0, .slice none 0 0] := by kernel_rfl
attribute [go_sem] zero33
theorem fld33_0 : fieldOf Try.prog 33 0 = some (0, none) := by kernel_rfl
attribute [go_sem] fld33_0
theorem fld33_1 : fieldOf Try.prog 33 1 = some (1, none) := by kernel_rfl
attribute [go_sem] fld33_1
theorem places33 : placesOf Try.prog 33 = some [(0, 1), (1, 1)] := by kernel_rfl
attribute [go_sem] places33
theorem agg35 : aggOf Try.prog 35 = some none := by kernel_rfl
attribute [go_sem] agg35
theorem zero35 : zeroOf Try.prog 35 = some [.slice none 0 0] := by kernel_rfl
attribute [go_sem] zero35
theorem elem35 : elemOf' Try.prog 35 = some (7, 56, [.int .i64 0, .int .i64 0, .int .i64 0, .int .i64 0, .int .i64 0, .int .i64 0, .int .i64 0]) := by kernel_rfl
attribute [go_sem] elem35
theorem und35 : Try.prog.underlying 35 = some (.slice 48) := by kernel_rfl
attribute [go_sem] und35
theorem appT35 : appT Try.prog 35 = true := by kernel_rfl
attribute [go_sem] appT35
theorem agg43 : aggOf Try.prog 43 = some none := by kernel_rfl
attribute [go_sem] agg43
theorem zero43 : zeroOf Try.prog 43 = some [.slice none 0 0] := by kernel_rfl
attribute [go_sem] zero43
theorem elem43 : elemOf' Try.prog 43 = some (2, 16, [.int .i64 0, .int .i64 0]) := by kernel_rfl
attribute [go_sem] elem43
theorem und43 : Try.prog.underlying 43 = some (.slice 68) := by kernel_rfl
attribute [go_sem] und43
theorem appT43 : appT Try.prog 43 = true := by kernel_rfl
attribute [go_sem] appT43
theorem agg48 : aggOf Try.prog 48 = some (some 7) := by kernel_rfl
attribute [go_sem] agg48
theorem zero48 : zeroOf Try.prog 48 = some [.int .i64 0, .int .i64 0, .int .i64 0, .int .i64 0, .int .i64 0, .int .i64 0, .int .i64 0] := by kernel_rfl
attribute [go_sem] zero48
theorem fld48_0 : fieldOf Try.prog 48 0 = some (0, none) := by kernel_rfl
attribute [go_sem] fld48_0
theorem fld48_1 : fieldOf Try.prog 48 1 = some (1, none) := by kernel_rfl
attribute [go_sem] fld48_1
theorem fld48_2 : fieldOf Try.prog 48 2 = some (2, none) := by kernel_rfl
attribute [go_sem] fld48_2
theorem fld48_3 : fieldOf Try.prog 48 3 = some (3, none) := by kernel_rfl
attribute [go_sem] fld48_3
theorem fld48_4 : fieldOf Try.prog 48 4 = some (4, none) := by kernel_rfl
attribute [go_sem] fld48_4
theorem fld48_5 : fieldOf Try.prog 48 5 = some (5, none) := by kernel_rfl
attribute [go_sem] fld48_5
theorem fld48_6 : fieldOf Try.prog 48 6 = some (6, none) := by kernel_rfl
attribute [go_sem] fld48_6
theorem places48 : placesOf Try.prog 48 = some [(0, 1), (1, 1), (2, 1), (3, 1), (4, 1), (5, 1), (6, 1)] := by kernel_rfl
attribute [go_sem] places48
theorem agg50 : aggOf Try.prog 50 = some (some 7) := by kernel_rfl
attribute [go_sem] agg50
theorem zero50 : zeroOf Try.prog 50 = some [.int .i64 0, .int .i64 0, .int .i64 0, .int .i64 0, .int .i64 0, .int .i64 0, .int .i64 0] := by kernel_rfl
attribute [go_sem] zero50
theorem fld50_0 : fieldOf Try.prog 50 0 = some (0, none) := by kernel_rfl
attribute [go_sem] fld50_0
theorem fld50_1 : fieldOf Try.prog 50 1 = some (1, none) := by kernel_rfl
attribute [go_sem] fld50_1
theorem fld50_2 : fieldOf Try.prog 50 2 = some (2, none) := by kernel_rfl
attribute [go_sem] fld50_2
theorem fld50_3 : fieldOf Try.prog 50 3 = some (3, none) := by kernel_rfl
attribute [go_sem] fld50_3
theorem fld50_4 : fieldOf Try.prog 50 4 = some (4, none) := by kernel_rfl
attribute [go_sem] fld50_4
theorem fld50_5 : fieldOf Try.prog 50 5 = some (5, none) := by kernel_rfl
attribute [go_sem] fld50_5
theorem fld50_6 : fieldOf Try.prog 50 6 = some (6, none) := by kernel_rfl
attribute [go_sem] fld50_6
theorem places50 : placesOf Try.prog 50 = some [(0, 1), (1, 1), (2, 1), (3, 1), (4, 1), (5, 1), (6, 1)] := by kernel_rfl
attribute [go_sem] places50
theorem agg56 : aggOf Try.prog 56 = some (some 3) := by kernel_rfl
attribute [go_sem] agg56
theorem zero56 : zeroOf Try.prog 56 = some [.string ByteArray.empty, .int .i64 0, .int .i64 0] := by kernel_rfl
attribute [go_sem] zero56
theorem fld56_0 : fieldOf Try.prog 56 0 = some (0, none) := by kernel_rfl
attribute [go_sem] fld56_0
theorem fld56_1 : fieldOf Try.prog 56 1 = some (1, none) := by kernel_rfl
attribute [go_sem] fld56_1
theorem fld56_2 : fieldOf Try.prog 56 2 = some (2, none) := by kernel_rfl
attribute [go_sem] fld56_2
theorem places56 : placesOf Try.prog 56 = some [(0, 1), (1, 1), (2, 1)] := by kernel_rfl
attribute [go_sem] places56
theorem agg58 : aggOf Try.prog 58 = some none := by kernel_rfl
attribute [go_sem] agg58
theorem zero58 : zeroOf Try.prog 58 = some [.slice none 0 0] := by kernel_rfl
attribute [go_sem] zero58
theorem elem58 : elemOf' Try.prog 58 = some (1, 8, [.int .i64 0]) := by kernel_rfl
attribute [go_sem] elem58
theorem und58 : Try.prog.underlying 58 = some (.slice 3) := by kernel_rfl
attribute [go_sem] und58
theorem appT58 : appT Try.prog 58 = true := by kernel_rfl
attribute [go_sem] appT58
theorem agg60 : aggOf Try.prog 60 = some (some 2) := by kernel_rfl
attribute [go_sem] agg60
theorem zero60 : zeroOf Try.prog 60 = some [.int .i64 0, .slice none 0 0] := by kernel_rfl
attribute [go_sem] zero60
theorem fld60_0 : fieldOf Try.prog 60 0 = some (0, none) := by kernel_rfl
attribute [go_sem] fld60_0
theorem fld60_1 : fieldOf Try.prog 60 1 = some (1, none) := by kernel_rfl
attribute [go_sem] fld60_1
theorem places60 : placesOf Try.prog 60 = some [(0, 1), (1, 1)] := by kernel_rfl
attribute [go_sem] places60
theorem agg62 : aggOf Try.prog 62 = some (some 2) := by kernel_rfl
attribute [go_sem] agg62
theorem zero62 : zeroOf Try.prog 62 = some [.int .i64 0, .slice none 0 0] := by kernel_rfl
attribute [go_sem] zero62
theorem fld62_0 : fieldOf Try.prog 62 0 = some (0, none) := by kernel_rfl
attribute [go_sem] fld62_0
theorem fld62_1 : fieldOf Try.prog 62 1 = some (1, none) := by kernel_rfl
attribute [go_sem] fld62_1
theorem places62 : placesOf Try.prog 62 = some [(0, 1), (1, 1)] := by kernel_rfl
attribute [go_sem] places62
theorem agg68 : aggOf Try.prog 68 = some (some 2) := by kernel_rfl
attribute [go_sem] agg68
theorem zero68 : zeroOf Try.prog 68 = some [.int .i64 0, .int .i64 0] := by kernel_rfl
attribute [go_sem] zero68
theorem fld68_0 : fieldOf Try.prog 68 0 = some (0, none) := by kernel_rfl
attribute [go_sem] fld68_0
theorem fld68_1 : fieldOf Try.prog 68 1 = some (1, none) := by kernel_rfl
attribute [go_sem] fld68_1
theorem places68 : placesOf Try.prog 68 = some [(0, 1), (1, 1)] := by kernel_rfl
attribute [go_sem] places68
theorem agg69 : aggOf Try.prog 69 = some (some 3) := by kernel_rfl
attribute [go_sem] agg69
theorem zero69 : zeroOf Try.prog 69 = some [.string ByteArray.empty, .int .i64 0, .int .i64 0] := by kernel_rfl
attribute [go_sem] zero69
theorem fld69_0 : fieldOf Try.prog 69 0 = some (0, none) := by kernel_rfl
attribute [go_sem] fld69_0
theorem fld69_1 : fieldOf Try.prog 69 1 = some (1, none) := by kernel_rfl
attribute [go_sem] fld69_1
theorem fld69_2 : fieldOf Try.prog 69 2 = some (2, none) := by kernel_rfl
attribute [go_sem] fld69_2
theorem places69 : placesOf Try.prog 69 = some [(0, 1), (1, 1), (2, 1)] := by kernel_rfl
attribute [go_sem] places69
theorem agg97 : aggOf Try.prog 97 = some none := by kernel_rfl
attribute [go_sem] agg97
theorem zero97 : zeroOf Try.prog 97 = some [.int .u32 0] := by kernel_rfl
attribute [go_sem] zero97
theorem und97 : Try.prog.underlying 97 = some (.int .u32) := by kernel_rfl
attribute [go_sem] und97
end Go.Proofs.Ytkcbnbbbijlhcaj.A

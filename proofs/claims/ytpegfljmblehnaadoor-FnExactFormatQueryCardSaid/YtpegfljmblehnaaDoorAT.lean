/- WHAT THE TYPES OF THIS TRANSLATION COME TO. Conditions: none. (Printed by a program of this session.) -/
import Derived.Test.YtpegfljmblehnaaDoorA39
import Derived.Test.YtpegfljmblehnaaDoorProg
namespace Go.Proofs.YtpegfljmblehnaaDoor.A
open Go
theorem agg2 : aggOf Tryd.prog 2 = some none := by kernel_rfl
attribute [go_sem] agg2
theorem zero2 : zeroOf Tryd.prog 2 = some [.int .i64 0] := by kernel_rfl
attribute [go_sem] zero2
theorem und2 : Tryd.prog.underlying 2 = some (.int .i64) := by kernel_rfl
attribute [go_sem] und2
theorem agg3 : aggOf Tryd.prog 3 = some none := by kernel_rfl
attribute [go_sem] agg3
theorem zero3 : zeroOf Tryd.prog 3 = some [.int .i64 0] := by kernel_rfl
attribute [go_sem] zero3
theorem und3 : Tryd.prog.underlying 3 = some (.int .i64) := by kernel_rfl
attribute [go_sem] und3
theorem agg4 : aggOf Tryd.prog 4 = some none := by kernel_rfl
attribute [go_sem] agg4
theorem zero4 : zeroOf Tryd.prog 4 = some [.bool false] := by kernel_rfl
attribute [go_sem] zero4
theorem und4 : Tryd.prog.underlying 4 = some .bool := by kernel_rfl
attribute [go_sem] und4
theorem agg5 : aggOf Tryd.prog 5 = some none := by kernel_rfl
attribute [go_sem] agg5
theorem zero5 : zeroOf Tryd.prog 5 = some [.int .u8 0] := by kernel_rfl
attribute [go_sem] zero5
theorem und5 : Tryd.prog.underlying 5 = some (.int .u8) := by kernel_rfl
attribute [go_sem] und5
theorem agg9 : aggOf Tryd.prog 9 = some none := by kernel_rfl
attribute [go_sem] agg9
theorem zero9 : zeroOf Tryd.prog 9 = some [.string ByteArray.empty] := by kernel_rfl
attribute [go_sem] zero9
theorem und9 : Tryd.prog.underlying 9 = some .string := by kernel_rfl
attribute [go_sem] und9
theorem appT9 : appT Tryd.prog 9 = true := by kernel_rfl
attribute [go_sem] appT9
theorem agg12 : aggOf Tryd.prog 12 = some none := by kernel_rfl
attribute [go_sem] agg12
theorem zero12 : zeroOf Tryd.prog 12 = some [.int .u64 0] := by kernel_rfl
attribute [go_sem] zero12
theorem und12 : Tryd.prog.underlying 12 = some (.int .u64) := by kernel_rfl
attribute [go_sem] und12
theorem agg21 : aggOf Tryd.prog 21 = some none := by kernel_rfl
attribute [go_sem] agg21
theorem zero21 : zeroOf Tryd.prog 21 = some [.int .i32 0] := by kernel_rfl
attribute [go_sem] zero21
theorem und21 : Tryd.prog.underlying 21 = some (.int .i32) := by kernel_rfl
attribute [go_sem] und21
theorem agg24 : aggOf Tryd.prog 24 = some none := by kernel_rfl
attribute [go_sem] agg24
theorem zero24 : zeroOf Tryd.prog 24 = some [.slice none 0 0] := by kernel_rfl
attribute [go_sem] zero24
theorem elem24 : elemOf' Tryd.prog 24 = some (3, 32, [.string ByteArray.empty, .int .i64 0, .int .i64 0]) := by kernel_rfl
attribute [go_sem] elem24
theorem und24 : Tryd.prog.underlying 24 = some (.slice 66) := by kernel_rfl
attribute [go_sem] und24
theorem appT24 : appT Tryd.prog 24 = true := by kernel_rfl
attribute [go_sem] appT24
theorem agg25 : aggOf Tryd.prog 25 = some none := by kernel_rfl
attribute [go_sem] agg25
theorem zero25 : zeroOf Tryd.prog 25 = some [.slice none 0 0] := by kernel_rfl
attribute [go_sem] zero25
theorem elem25 : elemOf' Tryd.prog 25 = some (2, 32, [.int .i64 0, .slice none 0 0]) := by kernel_rfl
attribute [go_sem] elem25
theorem und25 : Tryd.prog.underlying 25 = some (.slice 85) := by kernel_rfl
attribute [go_sem] und25
theorem appT25 : appT Tryd.prog 25 = true := by kernel_rfl
attribute [go_sem] appT25
theorem agg27 : aggOf Tryd.prog 27 = some (some 2) := by kernel_rfl
attribute [go_sem] agg27
theorem zero27 : zeroOf Tryd.prog 27 = some [.slice none 0 0, .slice none 0 0] := by kernel_rfl
attribute [go_sem] zero27
theorem fld27_0 : fieldOf Tryd.prog 27 0 = some (0, none) := by kernel_rfl
attribute [go_sem] fld27_0
theorem fld27_1 : fieldOf Tryd.prog 27 1 = some (1, none) := by kernel_rfl
attribute [go_sem] fld27_1
theorem places27 : placesOf Tryd.prog 27 = some [(0, 1), (1, 1)] := by kernel_rfl
attribute [go_sem] places27
theorem agg29 : aggOf Tryd.prog 29 = some (some 7) := by kernel_rfl
attribute [go_sem] agg29
theorem zero29 : zeroOf Tryd.prog 29 = some [.int .i64 0, .int .i64 0, .int .i64 0, .int .i64 0, .int .i64 0, .int .i64 0, .int .i64 0] := by kernel_rfl
attribute [go_sem] zero29
theorem fld29_0 : fieldOf Tryd.prog 29 0 = some (0, none) := by kernel_rfl
attribute [go_sem] fld29_0
theorem fld29_1 : fieldOf Tryd.prog 29 1 = some (1, none) := by kernel_rfl
attribute [go_sem] fld29_1
theorem fld29_2 : fieldOf Tryd.prog 29 2 = some (2, none) := by kernel_rfl
attribute [go_sem] fld29_2
theorem fld29_3 : fieldOf Tryd.prog 29 3 = some (3, none) := by kernel_rfl
attribute [go_sem] fld29_3
theorem fld29_4 : fieldOf Tryd.prog 29 4 = some (4, none) := by kernel_rfl
attribute [go_sem] fld29_4
theorem fld29_5 : fieldOf Tryd.prog 29 5 = some (5, none) := by kernel_rfl
attribute [go_sem] fld29_5
theorem fld29_6 : fieldOf Tryd.prog 29 6 = some (6, none) := by kernel_rfl
attribute [go_sem] fld29_6
theorem places29 : placesOf Tryd.prog 29 = some [(0, 1), (1, 1), (2, 1), (3, 1), (4, 1), (5, 1), (6, 1)] := by kernel_rfl
attribute [go_sem] places29
theorem agg32 : aggOf Tryd.prog 32 = some none := by kernel_rfl
attribute [go_sem] agg32
theorem zero32 : zeroOf Tryd.prog 32 = some [.slice none 0 0] := by kernel_rfl
attribute [go_sem] zero32
theorem elem32 : elemOf' Tryd.prog 32 = some (3, 32, [.string ByteArray.empty, .int .i64 0, .int .i64 0]) := by kernel_rfl
attribute [go_sem] elem32
theorem und32 : Tryd.prog.underlying 32 = some (.slice 62) := by kernel_rfl
attribute [go_sem] und32
theorem appT32 : appT Tryd.prog 32 = true := by kernel_rfl
attribute [go_sem] appT32
theorem agg33 : aggOf Tryd.prog 33 = some none := by kernel_rfl
attribute [go_sem] agg33
theorem zero33 : zeroOf Tryd.prog 33 = some [.slice none 0 0] := by kernel_rfl
attribute [go_sem] zero33
theorem elem33 : elemOf' Tryd.prog 33 = some (2, 32, [.int .i64 0, .slice none 0 0]) := by kernel_rfl
attribute [go_sem] elem33
theorem und33 : Tryd.prog.underlying 33 = some (.slice 87) := by kernel_rfl
attribute [go_sem] und33
theorem appT33 : appT Tryd.prog 33 = true := by kernel_rfl
attribute [go_sem] appT33
theorem agg35 : aggOf Tryd.prog 35 = some (some 2) := by kernel_rfl
attribute [go_sem] agg35
theorem zero35 : zeroOf Tryd.prog 35 = some [.slice none 0 0, .slice none 0 0] := by kernel_rfl
attribute [go_sem] zero35
theorem fld35_0 : fieldOf Tryd.prog 35 0 = some (0, none) := by kernel_rfl
attribute [go_sem] fld35_0
theorem fld35_1 : fieldOf Tryd.prog 35 1 = some (1, none) := by kernel_rfl
attribute [go_sem] fld35_1
theorem places35 : placesOf Tryd.prog 35 = some [(0, 1), (1, 1)] := by kernel_rfl
attribute [go_sem] places35
theorem agg37 : aggOf Tryd.prog 37 = some (some 7) := by kernel_rfl
attribute [go_sem] agg37
theorem zero37 : zeroOf Tryd.prog 37 = some [.int .i64 0, .int .i64 0, .int .i64 0, .int .i64 0, .int .i64 0, .int .i64 0, .int .i64 0] := by kernel_rfl
attribute [go_sem] zero37
theorem fld37_0 : fieldOf Tryd.prog 37 0 = some (0, none) := by kernel_rfl
attribute [go_sem] fld37_0
theorem fld37_1 : fieldOf Tryd.prog 37 1 = some (1, none) := by kernel_rfl
attribute [go_sem] fld37_1
theorem fld37_2 : fieldOf Tryd.prog 37 2 = some (2, none) := by kernel_rfl
attribute [go_sem] fld37_2
theorem fld37_3 : fieldOf Tryd.prog 37 3 = some (3, none) := by kernel_rfl
attribute [go_sem] fld37_3
theorem fld37_4 : fieldOf Tryd.prog 37 4 = some (4, none) := by kernel_rfl
attribute [go_sem] fld37_4
theorem fld37_5 : fieldOf Tryd.prog 37 5 = some (5, none) := by kernel_rfl
attribute [go_sem] fld37_5
theorem fld37_6 : fieldOf Tryd.prog 37 6 = some (6, none) := by kernel_rfl
attribute [go_sem] fld37_6
theorem places37 : placesOf Tryd.prog 37 = some [(0, 1), (1, 1), (2, 1), (3, 1), (4, 1), (5, 1), (6, 1)] := by kernel_rfl
attribute [go_sem] places37
theorem agg41 : aggOf Tryd.prog 41 = some none := by kernel_rfl
attribute [go_sem] agg41
theorem zero41 : zeroOf Tryd.prog 41 = some [.slice none 0 0] := by kernel_rfl
attribute [go_sem] zero41
theorem elem41 : elemOf' Tryd.prog 41 = some (2, 32, [.int .i64 0, .slice none 0 0]) := by kernel_rfl
attribute [go_sem] elem41
theorem und41 : Tryd.prog.underlying 41 = some (.slice 91) := by kernel_rfl
attribute [go_sem] und41
theorem appT41 : appT Tryd.prog 41 = true := by kernel_rfl
attribute [go_sem] appT41
theorem agg42 : aggOf Tryd.prog 42 = some none := by kernel_rfl
attribute [go_sem] agg42
theorem zero42 : zeroOf Tryd.prog 42 = some [.slice none 0 0] := by kernel_rfl
attribute [go_sem] zero42
theorem elem42 : elemOf' Tryd.prog 42 = some (1, 8, [.int .i64 0]) := by kernel_rfl
attribute [go_sem] elem42
theorem und42 : Tryd.prog.underlying 42 = some (.slice 3) := by kernel_rfl
attribute [go_sem] und42
theorem appT42 : appT Tryd.prog 42 = true := by kernel_rfl
attribute [go_sem] appT42
theorem agg44 : aggOf Tryd.prog 44 = some (some 3) := by kernel_rfl
attribute [go_sem] agg44
theorem zero44 : zeroOf Tryd.prog 44 = some [.int .i64 0, .slice none 0 0, .slice none 0 0] := by kernel_rfl
attribute [go_sem] zero44
theorem fld44_0 : fieldOf Tryd.prog 44 0 = some (0, none) := by kernel_rfl
attribute [go_sem] fld44_0
theorem fld44_1 : fieldOf Tryd.prog 44 1 = some (1, none) := by kernel_rfl
attribute [go_sem] fld44_1
theorem fld44_2 : fieldOf Tryd.prog 44 2 = some (2, none) := by kernel_rfl
attribute [go_sem] fld44_2
theorem places44 : placesOf Tryd.prog 44 = some [(0, 1), (1, 1), (2, 1)] := by kernel_rfl
attribute [go_sem] places44
theorem agg49 : aggOf Tryd.prog 49 = some none := by kernel_rfl
attribute [go_sem] agg49
theorem zero49 : zeroOf Tryd.prog 49 = some [.slice none 0 0] := by kernel_rfl
attribute [go_sem] zero49
theorem elem49 : elemOf' Tryd.prog 49 = some (2, 32, [.int .i64 0, .slice none 0 0]) := by kernel_rfl
attribute [go_sem] elem49
theorem und49 : Tryd.prog.underlying 49 = some (.slice 72) := by kernel_rfl
attribute [go_sem] und49
theorem appT49 : appT Tryd.prog 49 = true := by kernel_rfl
attribute [go_sem] appT49
theorem agg51 : aggOf Tryd.prog 51 = some (some 3) := by kernel_rfl
attribute [go_sem] agg51
theorem zero51 : zeroOf Tryd.prog 51 = some [.int .i64 0, .slice none 0 0, .slice none 0 0] := by kernel_rfl
attribute [go_sem] zero51
theorem fld51_0 : fieldOf Tryd.prog 51 0 = some (0, none) := by kernel_rfl
attribute [go_sem] fld51_0
theorem fld51_1 : fieldOf Tryd.prog 51 1 = some (1, none) := by kernel_rfl
attribute [go_sem] fld51_1
theorem fld51_2 : fieldOf Tryd.prog 51 2 = some (2, none) := by kernel_rfl
attribute [go_sem] fld51_2
theorem places51 : placesOf Tryd.prog 51 = some [(0, 1), (1, 1), (2, 1)] := by kernel_rfl
attribute [go_sem] places51
theorem agg62 : aggOf Tryd.prog 62 = some (some 3) := by kernel_rfl
attribute [go_sem] agg62
theorem zero62 : zeroOf Tryd.prog 62 = some [.string ByteArray.empty, .int .i64 0, .int .i64 0] := by kernel_rfl
attribute [go_sem] zero62
theorem fld62_0 : fieldOf Tryd.prog 62 0 = some (0, none) := by kernel_rfl
attribute [go_sem] fld62_0
theorem fld62_1 : fieldOf Tryd.prog 62 1 = some (1, none) := by kernel_rfl
attribute [go_sem] fld62_1
theorem fld62_2 : fieldOf Tryd.prog 62 2 = some (2, none) := by kernel_rfl
attribute [go_sem] fld62_2
theorem places62 : placesOf Tryd.prog 62 = some [(0, 1), (1, 1), (2, 1)] := by kernel_rfl
attribute [go_sem] places62
theorem agg66 : aggOf Tryd.prog 66 = some (some 3) := by kernel_rfl
attribute [go_sem] agg66
theorem zero66 : zeroOf Tryd.prog 66 = some [.string ByteArray.empty, .int .i64 0, .int .i64 0] := by kernel_rfl
attribute [go_sem] zero66
theorem fld66_0 : fieldOf Tryd.prog 66 0 = some (0, none) := by kernel_rfl
attribute [go_sem] fld66_0
theorem fld66_1 : fieldOf Tryd.prog 66 1 = some (1, none) := by kernel_rfl
attribute [go_sem] fld66_1
theorem fld66_2 : fieldOf Tryd.prog 66 2 = some (2, none) := by kernel_rfl
attribute [go_sem] fld66_2
theorem places66 : placesOf Tryd.prog 66 = some [(0, 1), (1, 1), (2, 1)] := by kernel_rfl
attribute [go_sem] places66
theorem agg72 : aggOf Tryd.prog 72 = some (some 2) := by kernel_rfl
attribute [go_sem] agg72
theorem zero72 : zeroOf Tryd.prog 72 = some [.int .i64 0, .slice none 0 0] := by kernel_rfl
attribute [go_sem] zero72
theorem fld72_0 : fieldOf Tryd.prog 72 0 = some (0, none) := by kernel_rfl
attribute [go_sem] fld72_0
theorem fld72_1 : fieldOf Tryd.prog 72 1 = some (1, none) := by kernel_rfl
attribute [go_sem] fld72_1
theorem places72 : placesOf Tryd.prog 72 = some [(0, 1), (1, 1)] := by kernel_rfl
attribute [go_sem] places72
theorem agg76 : aggOf Tryd.prog 76 = some none := by kernel_rfl
attribute [go_sem] agg76
theorem zero76 : zeroOf Tryd.prog 76 = some [.slice none 0 0] := by kernel_rfl
attribute [go_sem] zero76
theorem elem76 : elemOf' Tryd.prog 76 = some (1, 16, [.string ByteArray.empty]) := by kernel_rfl
attribute [go_sem] elem76
theorem und76 : Tryd.prog.underlying 76 = some (.slice 9) := by kernel_rfl
attribute [go_sem] und76
theorem appT76 : appT Tryd.prog 76 = true := by kernel_rfl
attribute [go_sem] appT76
theorem agg82 : aggOf Tryd.prog 82 = some none := by kernel_rfl
attribute [go_sem] agg82
theorem zero82 : zeroOf Tryd.prog 82 = some [.slice none 0 0] := by kernel_rfl
attribute [go_sem] zero82
theorem elem82 : elemOf' Tryd.prog 82 = some (1, 1, [.int .u8 0]) := by kernel_rfl
attribute [go_sem] elem82
theorem und82 : Tryd.prog.underlying 82 = some (.slice 5) := by kernel_rfl
attribute [go_sem] und82
theorem appT82 : appT Tryd.prog 82 = true := by kernel_rfl
attribute [go_sem] appT82
theorem agg85 : aggOf Tryd.prog 85 = some (some 2) := by kernel_rfl
attribute [go_sem] agg85
theorem zero85 : zeroOf Tryd.prog 85 = some [.int .i64 0, .slice none 0 0] := by kernel_rfl
attribute [go_sem] zero85
theorem fld85_0 : fieldOf Tryd.prog 85 0 = some (0, none) := by kernel_rfl
attribute [go_sem] fld85_0
theorem fld85_1 : fieldOf Tryd.prog 85 1 = some (1, none) := by kernel_rfl
attribute [go_sem] fld85_1
theorem places85 : placesOf Tryd.prog 85 = some [(0, 1), (1, 1)] := by kernel_rfl
attribute [go_sem] places85
theorem agg87 : aggOf Tryd.prog 87 = some (some 2) := by kernel_rfl
attribute [go_sem] agg87
theorem zero87 : zeroOf Tryd.prog 87 = some [.int .i64 0, .slice none 0 0] := by kernel_rfl
attribute [go_sem] zero87
theorem fld87_0 : fieldOf Tryd.prog 87 0 = some (0, none) := by kernel_rfl
attribute [go_sem] fld87_0
theorem fld87_1 : fieldOf Tryd.prog 87 1 = some (1, none) := by kernel_rfl
attribute [go_sem] fld87_1
theorem places87 : placesOf Tryd.prog 87 = some [(0, 1), (1, 1)] := by kernel_rfl
attribute [go_sem] places87
theorem agg91 : aggOf Tryd.prog 91 = some (some 2) := by kernel_rfl
attribute [go_sem] agg91
theorem zero91 : zeroOf Tryd.prog 91 = some [.int .i64 0, .slice none 0 0] := by kernel_rfl
attribute [go_sem] zero91
theorem fld91_0 : fieldOf Tryd.prog 91 0 = some (0, none) := by kernel_rfl
attribute [go_sem] fld91_0
theorem fld91_1 : fieldOf Tryd.prog 91 1 = some (1, none) := by kernel_rfl
attribute [go_sem] fld91_1
theorem places91 : placesOf Tryd.prog 91 = some [(0, 1), (1, 1)] := by kernel_rfl
attribute [go_sem] places91
theorem agg93 : aggOf Tryd.prog 93 = some none := by kernel_rfl
attribute [go_sem] agg93
theorem zero93 : zeroOf Tryd.prog 93 = some [.slice none 0 0] := by kernel_rfl
attribute [go_sem] zero93
theorem elem93 : elemOf' Tryd.prog 93 = some (1, 1, [.bool false]) := by kernel_rfl
attribute [go_sem] elem93
theorem und93 : Tryd.prog.underlying 93 = some (.slice 4) := by kernel_rfl
attribute [go_sem] und93
theorem appT93 : appT Tryd.prog 93 = true := by kernel_rfl
attribute [go_sem] appT93
theorem agg122 : aggOf Tryd.prog 122 = some none := by kernel_rfl
attribute [go_sem] agg122
theorem zero122 : zeroOf Tryd.prog 122 = some [.slice none 0 0] := by kernel_rfl
attribute [go_sem] zero122
theorem elem122 : elemOf' Tryd.prog 122 = some (1, 24, [.slice none 0 0]) := by kernel_rfl
attribute [go_sem] elem122
theorem und122 : Tryd.prog.underlying 122 = some (.slice 42) := by kernel_rfl
attribute [go_sem] und122
theorem appT122 : appT Tryd.prog 122 = true := by kernel_rfl
attribute [go_sem] appT122
theorem agg126 : aggOf Tryd.prog 126 = some none := by kernel_rfl
attribute [go_sem] agg126
theorem zero126 : zeroOf Tryd.prog 126 = some [.int .u64 0] := by kernel_rfl
attribute [go_sem] zero126
theorem und126 : Tryd.prog.underlying 126 = some (.int .u64) := by kernel_rfl
attribute [go_sem] und126
theorem agg130 : aggOf Tryd.prog 130 = some (some 24) := by kernel_rfl
attribute [go_sem] agg130
theorem zero130 : zeroOf Tryd.prog 130 = some [.int .u8 0, .int .u8 0, .int .u8 0, .int .u8 0, .int .u8 0, .int .u8 0, .int .u8 0, .int .u8 0, .int .u8 0, .int .u8 0, .int .u8 0, .int .u8 0, .int .u8 0, .int .u8 0, .int .u8 0, .int .u8 0, .int .u8 0, .int .u8 0, .int .u8 0, .int .u8 0, .int .u8 0, .int .u8 0, .int .u8 0, .int .u8 0] := by kernel_rfl
attribute [go_sem] zero130
theorem und130 : Tryd.prog.underlying 130 = some (.array 24 5) := by kernel_rfl
attribute [go_sem] und130
theorem places130 : placesOf Tryd.prog 130 = some [(0, 1), (1, 1), (2, 1), (3, 1), (4, 1), (5, 1), (6, 1), (7, 1), (8, 1), (9, 1), (10, 1), (11, 1), (12, 1), (13, 1), (14, 1), (15, 1), (16, 1), (17, 1), (18, 1), (19, 1), (20, 1), (21, 1), (22, 1), (23, 1)] := by kernel_rfl
attribute [go_sem] places130
theorem agg131 : aggOf Tryd.prog 131 = some none := by kernel_rfl
attribute [go_sem] agg131
theorem zero131 : zeroOf Tryd.prog 131 = some [.int .u64 0] := by kernel_rfl
attribute [go_sem] zero131
theorem und131 : Tryd.prog.underlying 131 = some (.int .u64) := by kernel_rfl
attribute [go_sem] und131
theorem agg146 : aggOf Tryd.prog 146 = some none := by kernel_rfl
attribute [go_sem] agg146
theorem zero146 : zeroOf Tryd.prog 146 = some [.int .u32 0] := by kernel_rfl
attribute [go_sem] zero146
theorem und146 : Tryd.prog.underlying 146 = some (.int .u32) := by kernel_rfl
attribute [go_sem] und146
theorem agg149 : aggOf Tryd.prog 149 = some (some 20) := by kernel_rfl
attribute [go_sem] agg149
theorem zero149 : zeroOf Tryd.prog 149 = some [.int .u64 0, .int .u64 0, .int .u64 0, .int .u64 0, .int .u64 0, .int .u64 0, .int .u64 0, .int .u64 0, .int .u64 0, .int .u64 0, .int .u64 0, .int .u64 0, .int .u64 0, .int .u64 0, .int .u64 0, .int .u64 0, .int .u64 0, .int .u64 0, .int .u64 0, .int .u64 0] := by kernel_rfl
attribute [go_sem] zero149
theorem und149 : Tryd.prog.underlying 149 = some (.array 20 131) := by kernel_rfl
attribute [go_sem] und149
theorem places149 : placesOf Tryd.prog 149 = some [(0, 1), (1, 1), (2, 1), (3, 1), (4, 1), (5, 1), (6, 1), (7, 1), (8, 1), (9, 1), (10, 1), (11, 1), (12, 1), (13, 1), (14, 1), (15, 1), (16, 1), (17, 1), (18, 1), (19, 1)] := by kernel_rfl
attribute [go_sem] places149
theorem agg150 : aggOf Tryd.prog 150 = some (some 65) := by kernel_rfl
attribute [go_sem] agg150
theorem zero150 : zeroOf Tryd.prog 150 = some [.int .u8 0, .int .u8 0, .int .u8 0, .int .u8 0, .int .u8 0, .int .u8 0, .int .u8 0, .int .u8 0, .int .u8 0, .int .u8 0, .int .u8 0, .int .u8 0, .int .u8 0, .int .u8 0, .int .u8 0, .int .u8 0, .int .u8 0, .int .u8 0, .int .u8 0, .int .u8 0, .int .u8 0, .int .u8 0, .int .u8 0, .int .u8 0, .int .u8 0, .int .u8 0, .int .u8 0, .int .u8 0, .int .u8 0, .int .u8 0, .int .u8 0, .int .u8 0, .int .u8 0, .int .u8 0, .int .u8 0, .int .u8 0, .int .u8 0, .int .u8 0, .int .u8 0, .int .u8 0, .int .u8 0, .int .u8 0, .int .u8 0, .int .u8 0, .int .u8 0, .int .u8 0, .int .u8 0, .int .u8 0, .int .u8 0, .int .u8 0, .int .u8 0, .int .u8 0, .int .u8 0, .int .u8 0, .int .u8 0, .int .u8 0, .int .u8 0, .int .u8 0, .int .u8 0, .int .u8 0, .int .u8 0, .int .u8 0, .int .u8 0, .int .u8 0, .int .u8 0] := by kernel_rfl
attribute [go_sem] zero150
theorem und150 : Tryd.prog.underlying 150 = some (.array 65 5) := by kernel_rfl
attribute [go_sem] und150
theorem places150 : placesOf Tryd.prog 150 = some [(0, 1), (1, 1), (2, 1), (3, 1), (4, 1), (5, 1), (6, 1), (7, 1), (8, 1), (9, 1), (10, 1), (11, 1), (12, 1), (13, 1), (14, 1), (15, 1), (16, 1), (17, 1), (18, 1), (19, 1), (20, 1), (21, 1), (22, 1), (23, 1), (24, 1), (25, 1), (26, 1), (27, 1), (28, 1), (29, 1), (30, 1), (31, 1), (32, 1), (33, 1), (34, 1), (35, 1), (36, 1), (37, 1), (38, 1), (39, 1), (40, 1), (41, 1), (42, 1), (43, 1), (44, 1), (45, 1), (46, 1), (47, 1), (48, 1), (49, 1), (50, 1), (51, 1), (52, 1), (53, 1), (54, 1), (55, 1), (56, 1), (57, 1), (58, 1), (59, 1), (60, 1), (61, 1), (62, 1), (63, 1), (64, 1)] := by kernel_rfl
attribute [go_sem] places150
theorem agg161 : aggOf Tryd.prog 161 = some (some 32) := by kernel_rfl
attribute [go_sem] agg161
theorem zero161 : zeroOf Tryd.prog 161 = some [.int .u8 0, .int .u8 0, .int .u8 0, .int .u8 0, .int .u8 0, .int .u8 0, .int .u8 0, .int .u8 0, .int .u8 0, .int .u8 0, .int .u8 0, .int .u8 0, .int .u8 0, .int .u8 0, .int .u8 0, .int .u8 0, .int .u8 0, .int .u8 0, .int .u8 0, .int .u8 0, .int .u8 0, .int .u8 0, .int .u8 0, .int .u8 0, .int .u8 0, .int .u8 0, .int .u8 0, .int .u8 0, .int .u8 0, .int .u8 0, .int .u8 0, .int .u8 0] := by kernel_rfl
attribute [go_sem] zero161
theorem und161 : Tryd.prog.underlying 161 = some (.array 32 5) := by kernel_rfl
attribute [go_sem] und161
theorem places161 : placesOf Tryd.prog 161 = some [(0, 1), (1, 1), (2, 1), (3, 1), (4, 1), (5, 1), (6, 1), (7, 1), (8, 1), (9, 1), (10, 1), (11, 1), (12, 1), (13, 1), (14, 1), (15, 1), (16, 1), (17, 1), (18, 1), (19, 1), (20, 1), (21, 1), (22, 1), (23, 1), (24, 1), (25, 1), (26, 1), (27, 1), (28, 1), (29, 1), (30, 1), (31, 1)] := by kernel_rfl
attribute [go_sem] places161
theorem agg162 : aggOf Tryd.prog 162 = some (some 64) := by kernel_rfl
attribute [go_sem] agg162
theorem zero162 : zeroOf Tryd.prog 162 = some [.int .u8 0, .int .u8 0, .int .u8 0, .int .u8 0, .int .u8 0, .int .u8 0, .int .u8 0, .int .u8 0, .int .u8 0, .int .u8 0, .int .u8 0, .int .u8 0, .int .u8 0, .int .u8 0, .int .u8 0, .int .u8 0, .int .u8 0, .int .u8 0, .int .u8 0, .int .u8 0, .int .u8 0, .int .u8 0, .int .u8 0, .int .u8 0, .int .u8 0, .int .u8 0, .int .u8 0, .int .u8 0, .int .u8 0, .int .u8 0, .int .u8 0, .int .u8 0, .int .u8 0, .int .u8 0, .int .u8 0, .int .u8 0, .int .u8 0, .int .u8 0, .int .u8 0, .int .u8 0, .int .u8 0, .int .u8 0, .int .u8 0, .int .u8 0, .int .u8 0, .int .u8 0, .int .u8 0, .int .u8 0, .int .u8 0, .int .u8 0, .int .u8 0, .int .u8 0, .int .u8 0, .int .u8 0, .int .u8 0, .int .u8 0, .int .u8 0, .int .u8 0, .int .u8 0, .int .u8 0, .int .u8 0, .int .u8 0, .int .u8 0, .int .u8 0] := by kernel_rfl
attribute [go_sem] zero162
theorem und162 : Tryd.prog.underlying 162 = some (.array 64 5) := by kernel_rfl
attribute [go_sem] und162
theorem places162 : placesOf Tryd.prog 162 = some [(0, 1), (1, 1), (2, 1), (3, 1), (4, 1), (5, 1), (6, 1), (7, 1), (8, 1), (9, 1), (10, 1), (11, 1), (12, 1), (13, 1), (14, 1), (15, 1), (16, 1), (17, 1), (18, 1), (19, 1), (20, 1), (21, 1), (22, 1), (23, 1), (24, 1), (25, 1), (26, 1), (27, 1), (28, 1), (29, 1), (30, 1), (31, 1), (32, 1), (33, 1), (34, 1), (35, 1), (36, 1), (37, 1), (38, 1), (39, 1), (40, 1), (41, 1), (42, 1), (43, 1), (44, 1), (45, 1), (46, 1), (47, 1), (48, 1), (49, 1), (50, 1), (51, 1), (52, 1), (53, 1), (54, 1), (55, 1), (56, 1), (57, 1), (58, 1), (59, 1), (60, 1), (61, 1), (62, 1), (63, 1)] := by kernel_rfl
attribute [go_sem] places162
end Go.Proofs.YtpegfljmblehnaaDoor.A

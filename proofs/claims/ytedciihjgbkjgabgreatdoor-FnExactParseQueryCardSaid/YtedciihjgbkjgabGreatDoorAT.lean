/- WHAT THE TYPES OF THIS TRANSLATION COME TO. Conditions: none. (Printed by a program of this session.) -/
import Derived.Test.YtedciihjgbkjgabGreatDoorA39
import Derived.Test.YtedciihjgbkjgabGreatDoorProg
namespace Go.Proofs.YtedciihjgbkjgabGreatDoor.A
open Go
theorem agg2 : aggOf Tryz.prog 2 = some none := by kernel_rfl
attribute [go_sem] agg2
theorem zero2 : zeroOf Tryz.prog 2 = some [.int .i64 0] := by kernel_rfl
attribute [go_sem] zero2
theorem und2 : Tryz.prog.underlying 2 = some (.int .i64) := by kernel_rfl
attribute [go_sem] und2
theorem agg3 : aggOf Tryz.prog 3 = some none := by kernel_rfl
attribute [go_sem] agg3
theorem zero3 : zeroOf Tryz.prog 3 = some [.int .i64 0] := by kernel_rfl
attribute [go_sem] zero3
theorem und3 : Tryz.prog.underlying 3 = some (.int .i64) := by kernel_rfl
attribute [go_sem] und3
theorem agg4 : aggOf Tryz.prog 4 = some none := by kernel_rfl
attribute [go_sem] agg4
theorem zero4 : zeroOf Tryz.prog 4 = some [.bool false] := by kernel_rfl
attribute [go_sem] zero4
theorem und4 : Tryz.prog.underlying 4 = some .bool := by kernel_rfl
attribute [go_sem] und4
theorem agg5 : aggOf Tryz.prog 5 = some none := by kernel_rfl
attribute [go_sem] agg5
theorem zero5 : zeroOf Tryz.prog 5 = some [.int .u8 0] := by kernel_rfl
attribute [go_sem] zero5
theorem und5 : Tryz.prog.underlying 5 = some (.int .u8) := by kernel_rfl
attribute [go_sem] und5
theorem agg9 : aggOf Tryz.prog 9 = some none := by kernel_rfl
attribute [go_sem] agg9
theorem zero9 : zeroOf Tryz.prog 9 = some [.string ByteArray.empty] := by kernel_rfl
attribute [go_sem] zero9
theorem und9 : Tryz.prog.underlying 9 = some .string := by kernel_rfl
attribute [go_sem] und9
theorem appT9 : appT Tryz.prog 9 = true := by kernel_rfl
attribute [go_sem] appT9
theorem agg12 : aggOf Tryz.prog 12 = some none := by kernel_rfl
attribute [go_sem] agg12
theorem zero12 : zeroOf Tryz.prog 12 = some [.int .u64 0] := by kernel_rfl
attribute [go_sem] zero12
theorem und12 : Tryz.prog.underlying 12 = some (.int .u64) := by kernel_rfl
attribute [go_sem] und12
theorem agg21 : aggOf Tryz.prog 21 = some none := by kernel_rfl
attribute [go_sem] agg21
theorem zero21 : zeroOf Tryz.prog 21 = some [.int .i32 0] := by kernel_rfl
attribute [go_sem] zero21
theorem und21 : Tryz.prog.underlying 21 = some (.int .i32) := by kernel_rfl
attribute [go_sem] und21
theorem agg22 : aggOf Tryz.prog 22 = some none := by kernel_rfl
attribute [go_sem] agg22
theorem zero22 : zeroOf Tryz.prog 22 = some [.slice none 0 0] := by kernel_rfl
attribute [go_sem] zero22
theorem elem22 : elemOf' Tryz.prog 22 = some (1, 1, [.int .u8 0]) := by kernel_rfl
attribute [go_sem] elem22
theorem und22 : Tryz.prog.underlying 22 = some (.slice 5) := by kernel_rfl
attribute [go_sem] und22
theorem appT22 : appT Tryz.prog 22 = true := by kernel_rfl
attribute [go_sem] appT22
theorem agg24 : aggOf Tryz.prog 24 = some none := by kernel_rfl
attribute [go_sem] agg24
theorem zero24 : zeroOf Tryz.prog 24 = some [.slice none 0 0] := by kernel_rfl
attribute [go_sem] zero24
theorem elem24 : elemOf' Tryz.prog 24 = some (3, 32, [.string ByteArray.empty, .int .i64 0, .int .i64 0]) := by kernel_rfl
attribute [go_sem] elem24
theorem und24 : Tryz.prog.underlying 24 = some (.slice 74) := by kernel_rfl
attribute [go_sem] und24
theorem appT24 : appT Tryz.prog 24 = true := by kernel_rfl
attribute [go_sem] appT24
theorem agg25 : aggOf Tryz.prog 25 = some none := by kernel_rfl
attribute [go_sem] agg25
theorem zero25 : zeroOf Tryz.prog 25 = some [.slice none 0 0] := by kernel_rfl
attribute [go_sem] zero25
theorem elem25 : elemOf' Tryz.prog 25 = some (2, 32, [.int .i64 0, .slice none 0 0]) := by kernel_rfl
attribute [go_sem] elem25
theorem und25 : Tryz.prog.underlying 25 = some (.slice 67) := by kernel_rfl
attribute [go_sem] und25
theorem appT25 : appT Tryz.prog 25 = true := by kernel_rfl
attribute [go_sem] appT25
theorem agg27 : aggOf Tryz.prog 27 = some (some 2) := by kernel_rfl
attribute [go_sem] agg27
theorem zero27 : zeroOf Tryz.prog 27 = some [.slice none 0 0, .slice none 0 0] := by kernel_rfl
attribute [go_sem] zero27
theorem fld27_0 : fieldOf Tryz.prog 27 0 = some (0, none) := by kernel_rfl
attribute [go_sem] fld27_0
theorem fld27_1 : fieldOf Tryz.prog 27 1 = some (1, none) := by kernel_rfl
attribute [go_sem] fld27_1
theorem places27 : placesOf Tryz.prog 27 = some [(0, 1), (1, 1)] := by kernel_rfl
attribute [go_sem] places27
theorem agg28 : aggOf Tryz.prog 28 = some none := by kernel_rfl
attribute [go_sem] agg28
theorem zero28 : zeroOf Tryz.prog 28 = some [.slice none 0 0] := by kernel_rfl
attribute [go_sem] zero28
theorem elem28 : elemOf' Tryz.prog 28 = some (7, 56, [.int .i64 0, .int .i64 0, .int .i64 0, .int .i64 0, .int .i64 0, .int .i64 0, .int .i64 0]) := by kernel_rfl
attribute [go_sem] elem28
theorem und28 : Tryz.prog.underlying 28 = some (.slice 38) := by kernel_rfl
attribute [go_sem] und28
theorem appT28 : appT Tryz.prog 28 = true := by kernel_rfl
attribute [go_sem] appT28
theorem agg31 : aggOf Tryz.prog 31 = some none := by kernel_rfl
attribute [go_sem] agg31
theorem zero31 : zeroOf Tryz.prog 31 = some [.slice none 0 0] := by kernel_rfl
attribute [go_sem] zero31
theorem elem31 : elemOf' Tryz.prog 31 = some (2, 16, [.int .i64 0, .int .i64 0]) := by kernel_rfl
attribute [go_sem] elem31
theorem und31 : Tryz.prog.underlying 31 = some (.slice 34) := by kernel_rfl
attribute [go_sem] und31
theorem appT31 : appT Tryz.prog 31 = true := by kernel_rfl
attribute [go_sem] appT31
theorem agg34 : aggOf Tryz.prog 34 = some (some 2) := by kernel_rfl
attribute [go_sem] agg34
theorem zero34 : zeroOf Tryz.prog 34 = some [.int .i64 0, .int .i64 0] := by kernel_rfl
attribute [go_sem] zero34
theorem fld34_0 : fieldOf Tryz.prog 34 0 = some (0, none) := by kernel_rfl
attribute [go_sem] fld34_0
theorem fld34_1 : fieldOf Tryz.prog 34 1 = some (1, none) := by kernel_rfl
attribute [go_sem] fld34_1
theorem pairT34 : pairT Tryz.prog 34 = true := by kernel_rfl
attribute [go_sem] pairT34
theorem places34 : placesOf Tryz.prog 34 = some [(0, 1), (1, 1)] := by kernel_rfl
attribute [go_sem] places34
theorem agg38 : aggOf Tryz.prog 38 = some (some 7) := by kernel_rfl
attribute [go_sem] agg38
theorem zero38 : zeroOf Tryz.prog 38 = some [.int .i64 0, .int .i64 0, .int .i64 0, .int .i64 0, .int .i64 0, .int .i64 0, .int .i64 0] := by kernel_rfl
attribute [go_sem] zero38
theorem fld38_0 : fieldOf Tryz.prog 38 0 = some (0, none) := by kernel_rfl
attribute [go_sem] fld38_0
theorem fld38_1 : fieldOf Tryz.prog 38 1 = some (1, none) := by kernel_rfl
attribute [go_sem] fld38_1
theorem fld38_2 : fieldOf Tryz.prog 38 2 = some (2, none) := by kernel_rfl
attribute [go_sem] fld38_2
theorem fld38_3 : fieldOf Tryz.prog 38 3 = some (3, none) := by kernel_rfl
attribute [go_sem] fld38_3
theorem fld38_4 : fieldOf Tryz.prog 38 4 = some (4, none) := by kernel_rfl
attribute [go_sem] fld38_4
theorem fld38_5 : fieldOf Tryz.prog 38 5 = some (5, none) := by kernel_rfl
attribute [go_sem] fld38_5
theorem fld38_6 : fieldOf Tryz.prog 38 6 = some (6, none) := by kernel_rfl
attribute [go_sem] fld38_6
theorem places38 : placesOf Tryz.prog 38 = some [(0, 1), (1, 1), (2, 1), (3, 1), (4, 1), (5, 1), (6, 1)] := by kernel_rfl
attribute [go_sem] places38
theorem agg40 : aggOf Tryz.prog 40 = some none := by kernel_rfl
attribute [go_sem] agg40
theorem zero40 : zeroOf Tryz.prog 40 = some [.slice none 0 0] := by kernel_rfl
attribute [go_sem] zero40
theorem elem40 : elemOf' Tryz.prog 40 = some (1, 8, [.int .i64 0]) := by kernel_rfl
attribute [go_sem] elem40
theorem und40 : Tryz.prog.underlying 40 = some (.slice 3) := by kernel_rfl
attribute [go_sem] und40
theorem appT40 : appT Tryz.prog 40 = true := by kernel_rfl
attribute [go_sem] appT40
theorem agg46 : aggOf Tryz.prog 46 = some none := by kernel_rfl
attribute [go_sem] agg46
theorem zero46 : zeroOf Tryz.prog 46 = some [.slice none 0 0] := by kernel_rfl
attribute [go_sem] zero46
theorem elem46 : elemOf' Tryz.prog 46 = some (3, 32, [.string ByteArray.empty, .int .i64 0, .int .i64 0]) := by kernel_rfl
attribute [go_sem] elem46
theorem und46 : Tryz.prog.underlying 46 = some (.slice 83) := by kernel_rfl
attribute [go_sem] und46
theorem appT46 : appT Tryz.prog 46 = true := by kernel_rfl
attribute [go_sem] appT46
theorem agg48 : aggOf Tryz.prog 48 = some none := by kernel_rfl
attribute [go_sem] agg48
theorem zero48 : zeroOf Tryz.prog 48 = some [.slice none 0 0] := by kernel_rfl
attribute [go_sem] zero48
theorem elem48 : elemOf' Tryz.prog 48 = some (2, 32, [.int .i64 0, .slice none 0 0]) := by kernel_rfl
attribute [go_sem] elem48
theorem und48 : Tryz.prog.underlying 48 = some (.slice 89) := by kernel_rfl
attribute [go_sem] und48
theorem appT48 : appT Tryz.prog 48 = true := by kernel_rfl
attribute [go_sem] appT48
theorem agg50 : aggOf Tryz.prog 50 = some (some 3) := by kernel_rfl
attribute [go_sem] agg50
theorem zero50 : zeroOf Tryz.prog 50 = some [.int .i64 0, .slice none 0 0, .slice none 0 0] := by kernel_rfl
attribute [go_sem] zero50
theorem fld50_0 : fieldOf Tryz.prog 50 0 = some (0, none) := by kernel_rfl
attribute [go_sem] fld50_0
theorem fld50_1 : fieldOf Tryz.prog 50 1 = some (1, none) := by kernel_rfl
attribute [go_sem] fld50_1
theorem fld50_2 : fieldOf Tryz.prog 50 2 = some (2, none) := by kernel_rfl
attribute [go_sem] fld50_2
theorem places50 : placesOf Tryz.prog 50 = some [(0, 1), (1, 1), (2, 1)] := by kernel_rfl
attribute [go_sem] places50
theorem agg59 : aggOf Tryz.prog 59 = some none := by kernel_rfl
attribute [go_sem] agg59
theorem zero59 : zeroOf Tryz.prog 59 = some [.pointer none] := by kernel_rfl
attribute [go_sem] zero59
theorem agg67 : aggOf Tryz.prog 67 = some (some 2) := by kernel_rfl
attribute [go_sem] agg67
theorem zero67 : zeroOf Tryz.prog 67 = some [.int .i64 0, .slice none 0 0] := by kernel_rfl
attribute [go_sem] zero67
theorem fld67_0 : fieldOf Tryz.prog 67 0 = some (0, none) := by kernel_rfl
attribute [go_sem] fld67_0
theorem fld67_1 : fieldOf Tryz.prog 67 1 = some (1, none) := by kernel_rfl
attribute [go_sem] fld67_1
theorem places67 : placesOf Tryz.prog 67 = some [(0, 1), (1, 1)] := by kernel_rfl
attribute [go_sem] places67
theorem agg74 : aggOf Tryz.prog 74 = some (some 3) := by kernel_rfl
attribute [go_sem] agg74
theorem zero74 : zeroOf Tryz.prog 74 = some [.string ByteArray.empty, .int .i64 0, .int .i64 0] := by kernel_rfl
attribute [go_sem] zero74
theorem fld74_0 : fieldOf Tryz.prog 74 0 = some (0, none) := by kernel_rfl
attribute [go_sem] fld74_0
theorem fld74_1 : fieldOf Tryz.prog 74 1 = some (1, none) := by kernel_rfl
attribute [go_sem] fld74_1
theorem fld74_2 : fieldOf Tryz.prog 74 2 = some (2, none) := by kernel_rfl
attribute [go_sem] fld74_2
theorem places74 : placesOf Tryz.prog 74 = some [(0, 1), (1, 1), (2, 1)] := by kernel_rfl
attribute [go_sem] places74
theorem agg83 : aggOf Tryz.prog 83 = some (some 3) := by kernel_rfl
attribute [go_sem] agg83
theorem zero83 : zeroOf Tryz.prog 83 = some [.string ByteArray.empty, .int .i64 0, .int .i64 0] := by kernel_rfl
attribute [go_sem] zero83
theorem fld83_0 : fieldOf Tryz.prog 83 0 = some (0, none) := by kernel_rfl
attribute [go_sem] fld83_0
theorem fld83_1 : fieldOf Tryz.prog 83 1 = some (1, none) := by kernel_rfl
attribute [go_sem] fld83_1
theorem fld83_2 : fieldOf Tryz.prog 83 2 = some (2, none) := by kernel_rfl
attribute [go_sem] fld83_2
theorem places83 : placesOf Tryz.prog 83 = some [(0, 1), (1, 1), (2, 1)] := by kernel_rfl
attribute [go_sem] places83
theorem agg84 : aggOf Tryz.prog 84 = some none := by kernel_rfl
attribute [go_sem] agg84
theorem zero84 : zeroOf Tryz.prog 84 = some [.slice none 0 0] := by kernel_rfl
attribute [go_sem] zero84
theorem elem84 : elemOf' Tryz.prog 84 = some (1, 16, [.string ByteArray.empty]) := by kernel_rfl
attribute [go_sem] elem84
theorem und84 : Tryz.prog.underlying 84 = some (.slice 9) := by kernel_rfl
attribute [go_sem] und84
theorem appT84 : appT Tryz.prog 84 = true := by kernel_rfl
attribute [go_sem] appT84
theorem agg89 : aggOf Tryz.prog 89 = some (some 2) := by kernel_rfl
attribute [go_sem] agg89
theorem zero89 : zeroOf Tryz.prog 89 = some [.int .i64 0, .slice none 0 0] := by kernel_rfl
attribute [go_sem] zero89
theorem fld89_0 : fieldOf Tryz.prog 89 0 = some (0, none) := by kernel_rfl
attribute [go_sem] fld89_0
theorem fld89_1 : fieldOf Tryz.prog 89 1 = some (1, none) := by kernel_rfl
attribute [go_sem] fld89_1
theorem places89 : placesOf Tryz.prog 89 = some [(0, 1), (1, 1)] := by kernel_rfl
attribute [go_sem] places89
theorem agg104 : aggOf Tryz.prog 104 = some (some 3) := by kernel_rfl
attribute [go_sem] agg104
theorem zero104 : zeroOf Tryz.prog 104 = some [.slice none 0 0, .int .i64 0, .int .i64 0] := by kernel_rfl
attribute [go_sem] zero104
theorem fld104_0 : fieldOf Tryz.prog 104 0 = some (0, none) := by kernel_rfl
attribute [go_sem] fld104_0
theorem fld104_1 : fieldOf Tryz.prog 104 1 = some (1, none) := by kernel_rfl
attribute [go_sem] fld104_1
theorem fld104_2 : fieldOf Tryz.prog 104 2 = some (2, none) := by kernel_rfl
attribute [go_sem] fld104_2
theorem places104 : placesOf Tryz.prog 104 = some [(0, 1), (1, 1), (2, 1)] := by kernel_rfl
attribute [go_sem] places104
theorem agg118 : aggOf Tryz.prog 118 = some none := by kernel_rfl
attribute [go_sem] agg118
theorem zero118 : zeroOf Tryz.prog 118 = some [.int .u64 0] := by kernel_rfl
attribute [go_sem] zero118
theorem und118 : Tryz.prog.underlying 118 = some (.int .u64) := by kernel_rfl
attribute [go_sem] und118
theorem agg143 : aggOf Tryz.prog 143 = some none := by kernel_rfl
attribute [go_sem] agg143
theorem zero143 : zeroOf Tryz.prog 143 = some [.int .u32 0] := by kernel_rfl
attribute [go_sem] zero143
theorem und143 : Tryz.prog.underlying 143 = some (.int .u32) := by kernel_rfl
attribute [go_sem] und143
theorem agg145 : aggOf Tryz.prog 145 = some none := by kernel_rfl
attribute [go_sem] agg145
theorem zero145 : zeroOf Tryz.prog 145 = some [.int .u64 0] := by kernel_rfl
attribute [go_sem] zero145
theorem und145 : Tryz.prog.underlying 145 = some (.int .u64) := by kernel_rfl
attribute [go_sem] und145
theorem agg147 : aggOf Tryz.prog 147 = some none := by kernel_rfl
attribute [go_sem] agg147
theorem zero147 : zeroOf Tryz.prog 147 = some [.slice none 0 0] := by kernel_rfl
attribute [go_sem] zero147
theorem elem147 : elemOf' Tryz.prog 147 = some (1, 1, [.bool false]) := by kernel_rfl
attribute [go_sem] elem147
theorem und147 : Tryz.prog.underlying 147 = some (.slice 4) := by kernel_rfl
attribute [go_sem] und147
theorem appT147 : appT Tryz.prog 147 = true := by kernel_rfl
attribute [go_sem] appT147
theorem agg183 : aggOf Tryz.prog 183 = some (some 24) := by kernel_rfl
attribute [go_sem] agg183
theorem zero183 : zeroOf Tryz.prog 183 = some [.int .u8 0, .int .u8 0, .int .u8 0, .int .u8 0, .int .u8 0, .int .u8 0, .int .u8 0, .int .u8 0, .int .u8 0, .int .u8 0, .int .u8 0, .int .u8 0, .int .u8 0, .int .u8 0, .int .u8 0, .int .u8 0, .int .u8 0, .int .u8 0, .int .u8 0, .int .u8 0, .int .u8 0, .int .u8 0, .int .u8 0, .int .u8 0] := by kernel_rfl
attribute [go_sem] zero183
theorem und183 : Tryz.prog.underlying 183 = some (.array 24 5) := by kernel_rfl
attribute [go_sem] und183
theorem places183 : placesOf Tryz.prog 183 = some [(0, 1), (1, 1), (2, 1), (3, 1), (4, 1), (5, 1), (6, 1), (7, 1), (8, 1), (9, 1), (10, 1), (11, 1), (12, 1), (13, 1), (14, 1), (15, 1), (16, 1), (17, 1), (18, 1), (19, 1), (20, 1), (21, 1), (22, 1), (23, 1)] := by kernel_rfl
attribute [go_sem] places183
theorem agg195 : aggOf Tryz.prog 195 = some none := by kernel_rfl
attribute [go_sem] agg195
theorem zero195 : zeroOf Tryz.prog 195 = some [.slice none 0 0] := by kernel_rfl
attribute [go_sem] zero195
theorem elem195 : elemOf' Tryz.prog 195 = some (1, 24, [.slice none 0 0]) := by kernel_rfl
attribute [go_sem] elem195
theorem und195 : Tryz.prog.underlying 195 = some (.slice 40) := by kernel_rfl
attribute [go_sem] und195
theorem appT195 : appT Tryz.prog 195 = true := by kernel_rfl
attribute [go_sem] appT195
theorem agg201 : aggOf Tryz.prog 201 = some (some 20) := by kernel_rfl
attribute [go_sem] agg201
theorem zero201 : zeroOf Tryz.prog 201 = some [.int .u64 0, .int .u64 0, .int .u64 0, .int .u64 0, .int .u64 0, .int .u64 0, .int .u64 0, .int .u64 0, .int .u64 0, .int .u64 0, .int .u64 0, .int .u64 0, .int .u64 0, .int .u64 0, .int .u64 0, .int .u64 0, .int .u64 0, .int .u64 0, .int .u64 0, .int .u64 0] := by kernel_rfl
attribute [go_sem] zero201
theorem und201 : Tryz.prog.underlying 201 = some (.array 20 145) := by kernel_rfl
attribute [go_sem] und201
theorem places201 : placesOf Tryz.prog 201 = some [(0, 1), (1, 1), (2, 1), (3, 1), (4, 1), (5, 1), (6, 1), (7, 1), (8, 1), (9, 1), (10, 1), (11, 1), (12, 1), (13, 1), (14, 1), (15, 1), (16, 1), (17, 1), (18, 1), (19, 1)] := by kernel_rfl
attribute [go_sem] places201
theorem agg202 : aggOf Tryz.prog 202 = some (some 65) := by kernel_rfl
attribute [go_sem] agg202
theorem zero202 : zeroOf Tryz.prog 202 = some [.int .u8 0, .int .u8 0, .int .u8 0, .int .u8 0, .int .u8 0, .int .u8 0, .int .u8 0, .int .u8 0, .int .u8 0, .int .u8 0, .int .u8 0, .int .u8 0, .int .u8 0, .int .u8 0, .int .u8 0, .int .u8 0, .int .u8 0, .int .u8 0, .int .u8 0, .int .u8 0, .int .u8 0, .int .u8 0, .int .u8 0, .int .u8 0, .int .u8 0, .int .u8 0, .int .u8 0, .int .u8 0, .int .u8 0, .int .u8 0, .int .u8 0, .int .u8 0, .int .u8 0, .int .u8 0, .int .u8 0, .int .u8 0, .int .u8 0, .int .u8 0, .int .u8 0, .int .u8 0, .int .u8 0, .int .u8 0, .int .u8 0, .int .u8 0, .int .u8 0, .int .u8 0, .int .u8 0, .int .u8 0, .int .u8 0, .int .u8 0, .int .u8 0, .int .u8 0, .int .u8 0, .int .u8 0, .int .u8 0, .int .u8 0, .int .u8 0, .int .u8 0, .int .u8 0, .int .u8 0, .int .u8 0, .int .u8 0, .int .u8 0, .int .u8 0, .int .u8 0] := by kernel_rfl
attribute [go_sem] zero202
theorem und202 : Tryz.prog.underlying 202 = some (.array 65 5) := by kernel_rfl
attribute [go_sem] und202
theorem places202 : placesOf Tryz.prog 202 = some [(0, 1), (1, 1), (2, 1), (3, 1), (4, 1), (5, 1), (6, 1), (7, 1), (8, 1), (9, 1), (10, 1), (11, 1), (12, 1), (13, 1), (14, 1), (15, 1), (16, 1), (17, 1), (18, 1), (19, 1), (20, 1), (21, 1), (22, 1), (23, 1), (24, 1), (25, 1), (26, 1), (27, 1), (28, 1), (29, 1), (30, 1), (31, 1), (32, 1), (33, 1), (34, 1), (35, 1), (36, 1), (37, 1), (38, 1), (39, 1), (40, 1), (41, 1), (42, 1), (43, 1), (44, 1), (45, 1), (46, 1), (47, 1), (48, 1), (49, 1), (50, 1), (51, 1), (52, 1), (53, 1), (54, 1), (55, 1), (56, 1), (57, 1), (58, 1), (59, 1), (60, 1), (61, 1), (62, 1), (63, 1), (64, 1)] := by kernel_rfl
attribute [go_sem] places202
theorem agg203 : aggOf Tryz.prog 203 = some (some 256) := by kernel_rfl
attribute [go_sem] agg203
theorem zero203 : zeroOf Tryz.prog 203 = some [.int .u8 0, .int .u8 0, .int .u8 0, .int .u8 0, .int .u8 0, .int .u8 0, .int .u8 0, .int .u8 0, .int .u8 0, .int .u8 0, .int .u8 0, .int .u8 0, .int .u8 0, .int .u8 0, .int .u8 0, .int .u8 0, .int .u8 0, .int .u8 0, .int .u8 0, .int .u8 0, .int .u8 0, .int .u8 0, .int .u8 0, .int .u8 0, .int .u8 0, .int .u8 0, .int .u8 0, .int .u8 0, .int .u8 0, .int .u8 0, .int .u8 0, .int .u8 0, .int .u8 0, .int .u8 0, .int .u8 0, .int .u8 0, .int .u8 0, .int .u8 0, .int .u8 0, .int .u8 0, .int .u8 0, .int .u8 0, .int .u8 0, .int .u8 0, .int .u8 0, .int .u8 0, .int .u8 0, .int .u8 0, .int .u8 0, .int .u8 0, .int .u8 0, .int .u8 0, .int .u8 0, .int .u8 0, .int .u8 0, .int .u8 0, .int .u8 0, .int .u8 0, .int .u8 0, .int .u8 0, .int .u8 0, .int .u8 0, .int .u8 0, .int .u8 0, .int .u8 0, .int .u8 0, .int .u8 0, .int .u8 0, .int .u8 0, .int .u8 0, .int .u8 0, .int .u8 0, .int .u8 0, .int .u8 0, .int .u8 0, .int .u8 0, .int .u8 0, .int .u8 0, .int .u8 0, .int .u8 0, .int .u8 0, .int .u8 0, .int .u8 0, .int .u8 0, .int .u8 0, .int .u8 0, .int .u8 0, .int .u8 0, .int .u8 0, .int .u8 0, .int .u8 0, .int .u8 0, .int .u8 0, .int .u8 0, .int .u8 0, .int .u8 0, .int .u8 0, .int .u8 0, .int .u8 0, .int .u8 0, .int .u8 0, .int .u8 0, .int .u8 0, .int .u8 0, .int .u8 0, .int .u8 0, .int .u8 0, .int .u8 0, .int .u8 0, .int .u8 0, .int .u8 0, .int .u8 0, .int .u8 0, .int .u8 0, .int .u8 0, .int .u8 0, .int .u8 0, .int .u8 0, .int .u8 0, .int .u8 0, .int .u8 0, .int .u8 0, .int .u8 0, .int .u8 0, .int .u8 0, .int .u8 0, .int .u8 0, .int .u8 0, .int .u8 0, .int .u8 0, .int .u8 0, .int .u8 0, .int .u8 0, .int .u8 0, .int .u8 0, .int .u8 0, .int .u8 0, .int .u8 0, .int .u8 0, .int .u8 0, .int .u8 0, .int .u8 0, .int .u8 0, .int .u8 0, .int .u8 0, .int .u8 0, .int .u8 0, .int .u8 0, .int .u8 0, .int .u8 0, .int .u8 0, .int .u8 0, .int .u8 0, .int .u8 0, .int .u8 0, .int .u8 0, .int .u8 0, .int .u8 0, .int .u8 0, .int .u8 0, .int .u8 0, .int .u8 0, .int .u8 0, .int .u8 0, .int .u8 0, .int .u8 0, .int .u8 0, .int .u8 0, .int .u8 0, .int .u8 0, .int .u8 0, .int .u8 0, .int .u8 0, .int .u8 0, .int .u8 0, .int .u8 0, .int .u8 0, .int .u8 0, .int .u8 0, .int .u8 0, .int .u8 0, .int .u8 0, .int .u8 0, .int .u8 0, .int .u8 0, .int .u8 0, .int .u8 0, .int .u8 0, .int .u8 0, .int .u8 0, .int .u8 0, .int .u8 0, .int .u8 0, .int .u8 0, .int .u8 0, .int .u8 0, .int .u8 0, .int .u8 0, .int .u8 0, .int .u8 0, .int .u8 0, .int .u8 0, .int .u8 0, .int .u8 0, .int .u8 0, .int .u8 0, .int .u8 0, .int .u8 0, .int .u8 0, .int .u8 0, .int .u8 0, .int .u8 0, .int .u8 0, .int .u8 0, .int .u8 0, .int .u8 0, .int .u8 0, .int .u8 0, .int .u8 0, .int .u8 0, .int .u8 0, .int .u8 0, .int .u8 0, .int .u8 0, .int .u8 0, .int .u8 0, .int .u8 0, .int .u8 0, .int .u8 0, .int .u8 0, .int .u8 0, .int .u8 0, .int .u8 0, .int .u8 0, .int .u8 0, .int .u8 0, .int .u8 0, .int .u8 0, .int .u8 0, .int .u8 0, .int .u8 0, .int .u8 0, .int .u8 0, .int .u8 0, .int .u8 0, .int .u8 0, .int .u8 0, .int .u8 0, .int .u8 0, .int .u8 0, .int .u8 0, .int .u8 0, .int .u8 0, .int .u8 0, .int .u8 0, .int .u8 0] := by kernel_rfl
attribute [go_sem] zero203
theorem und203 : Tryz.prog.underlying 203 = some (.array 256 5) := by kernel_rfl
attribute [go_sem] und203
theorem places203 : placesOf Tryz.prog 203 = some [(0, 1), (1, 1), (2, 1), (3, 1), (4, 1), (5, 1), (6, 1), (7, 1), (8, 1), (9, 1), (10, 1), (11, 1), (12, 1), (13, 1), (14, 1), (15, 1), (16, 1), (17, 1), (18, 1), (19, 1), (20, 1), (21, 1), (22, 1), (23, 1), (24, 1), (25, 1), (26, 1), (27, 1), (28, 1), (29, 1), (30, 1), (31, 1), (32, 1), (33, 1), (34, 1), (35, 1), (36, 1), (37, 1), (38, 1), (39, 1), (40, 1), (41, 1), (42, 1), (43, 1), (44, 1), (45, 1), (46, 1), (47, 1), (48, 1), (49, 1), (50, 1), (51, 1), (52, 1), (53, 1), (54, 1), (55, 1), (56, 1), (57, 1), (58, 1), (59, 1), (60, 1), (61, 1), (62, 1), (63, 1), (64, 1), (65, 1), (66, 1), (67, 1), (68, 1), (69, 1), (70, 1), (71, 1), (72, 1), (73, 1), (74, 1), (75, 1), (76, 1), (77, 1), (78, 1), (79, 1), (80, 1), (81, 1), (82, 1), (83, 1), (84, 1), (85, 1), (86, 1), (87, 1), (88, 1), (89, 1), (90, 1), (91, 1), (92, 1), (93, 1), (94, 1), (95, 1), (96, 1), (97, 1), (98, 1), (99, 1), (100, 1), (101, 1), (102, 1), (103, 1), (104, 1), (105, 1), (106, 1), (107, 1), (108, 1), (109, 1), (110, 1), (111, 1), (112, 1), (113, 1), (114, 1), (115, 1), (116, 1), (117, 1), (118, 1), (119, 1), (120, 1), (121, 1), (122, 1), (123, 1), (124, 1), (125, 1), (126, 1), (127, 1), (128, 1), (129, 1), (130, 1), (131, 1), (132, 1), (133, 1), (134, 1), (135, 1), (136, 1), (137, 1), (138, 1), (139, 1), (140, 1), (141, 1), (142, 1), (143, 1), (144, 1), (145, 1), (146, 1), (147, 1), (148, 1), (149, 1), (150, 1), (151, 1), (152, 1), (153, 1), (154, 1), (155, 1), (156, 1), (157, 1), (158, 1), (159, 1), (160, 1), (161, 1), (162, 1), (163, 1), (164, 1), (165, 1), (166, 1), (167, 1), (168, 1), (169, 1), (170, 1), (171, 1), (172, 1), (173, 1), (174, 1), (175, 1), (176, 1), (177, 1), (178, 1), (179, 1), (180, 1), (181, 1), (182, 1), (183, 1), (184, 1), (185, 1), (186, 1), (187, 1), (188, 1), (189, 1), (190, 1), (191, 1), (192, 1), (193, 1), (194, 1), (195, 1), (196, 1), (197, 1), (198, 1), (199, 1), (200, 1), (201, 1), (202, 1), (203, 1), (204, 1), (205, 1), (206, 1), (207, 1), (208, 1), (209, 1), (210, 1), (211, 1), (212, 1), (213, 1), (214, 1), (215, 1), (216, 1), (217, 1), (218, 1), (219, 1), (220, 1), (221, 1), (222, 1), (223, 1), (224, 1), (225, 1), (226, 1), (227, 1), (228, 1), (229, 1), (230, 1), (231, 1), (232, 1), (233, 1), (234, 1), (235, 1), (236, 1), (237, 1), (238, 1), (239, 1), (240, 1), (241, 1), (242, 1), (243, 1), (244, 1), (245, 1), (246, 1), (247, 1), (248, 1), (249, 1), (250, 1), (251, 1), (252, 1), (253, 1), (254, 1), (255, 1)] := by kernel_rfl
attribute [go_sem] places203
theorem agg206 : aggOf Tryz.prog 206 = some (some 32) := by kernel_rfl
attribute [go_sem] agg206
theorem zero206 : zeroOf Tryz.prog 206 = some [.int .u8 0, .int .u8 0, .int .u8 0, .int .u8 0, .int .u8 0, .int .u8 0, .int .u8 0, .int .u8 0, .int .u8 0, .int .u8 0, .int .u8 0, .int .u8 0, .int .u8 0, .int .u8 0, .int .u8 0, .int .u8 0, .int .u8 0, .int .u8 0, .int .u8 0, .int .u8 0, .int .u8 0, .int .u8 0, .int .u8 0, .int .u8 0, .int .u8 0, .int .u8 0, .int .u8 0, .int .u8 0, .int .u8 0, .int .u8 0, .int .u8 0, .int .u8 0] := by kernel_rfl
attribute [go_sem] zero206
theorem und206 : Tryz.prog.underlying 206 = some (.array 16 205) := by kernel_rfl
attribute [go_sem] und206
theorem places206 : placesOf Tryz.prog 206 = some [(0, 2), (2, 2), (4, 2), (6, 2), (8, 2), (10, 2), (12, 2), (14, 2), (16, 2), (18, 2), (20, 2), (22, 2), (24, 2), (26, 2), (28, 2), (30, 2)] := by kernel_rfl
attribute [go_sem] places206
theorem agg207 : aggOf Tryz.prog 207 = some (some 32) := by kernel_rfl
attribute [go_sem] agg207
theorem zero207 : zeroOf Tryz.prog 207 = some [.int .u8 0, .int .u8 0, .int .u8 0, .int .u8 0, .int .u8 0, .int .u8 0, .int .u8 0, .int .u8 0, .int .u8 0, .int .u8 0, .int .u8 0, .int .u8 0, .int .u8 0, .int .u8 0, .int .u8 0, .int .u8 0, .int .u8 0, .int .u8 0, .int .u8 0, .int .u8 0, .int .u8 0, .int .u8 0, .int .u8 0, .int .u8 0, .int .u8 0, .int .u8 0, .int .u8 0, .int .u8 0, .int .u8 0, .int .u8 0, .int .u8 0, .int .u8 0] := by kernel_rfl
attribute [go_sem] zero207
theorem und207 : Tryz.prog.underlying 207 = some (.array 32 5) := by kernel_rfl
attribute [go_sem] und207
theorem places207 : placesOf Tryz.prog 207 = some [(0, 1), (1, 1), (2, 1), (3, 1), (4, 1), (5, 1), (6, 1), (7, 1), (8, 1), (9, 1), (10, 1), (11, 1), (12, 1), (13, 1), (14, 1), (15, 1), (16, 1), (17, 1), (18, 1), (19, 1), (20, 1), (21, 1), (22, 1), (23, 1), (24, 1), (25, 1), (26, 1), (27, 1), (28, 1), (29, 1), (30, 1), (31, 1)] := by kernel_rfl
attribute [go_sem] places207
theorem agg208 : aggOf Tryz.prog 208 = some (some 64) := by kernel_rfl
attribute [go_sem] agg208
theorem zero208 : zeroOf Tryz.prog 208 = some [.int .u8 0, .int .u8 0, .int .u8 0, .int .u8 0, .int .u8 0, .int .u8 0, .int .u8 0, .int .u8 0, .int .u8 0, .int .u8 0, .int .u8 0, .int .u8 0, .int .u8 0, .int .u8 0, .int .u8 0, .int .u8 0, .int .u8 0, .int .u8 0, .int .u8 0, .int .u8 0, .int .u8 0, .int .u8 0, .int .u8 0, .int .u8 0, .int .u8 0, .int .u8 0, .int .u8 0, .int .u8 0, .int .u8 0, .int .u8 0, .int .u8 0, .int .u8 0, .int .u8 0, .int .u8 0, .int .u8 0, .int .u8 0, .int .u8 0, .int .u8 0, .int .u8 0, .int .u8 0, .int .u8 0, .int .u8 0, .int .u8 0, .int .u8 0, .int .u8 0, .int .u8 0, .int .u8 0, .int .u8 0, .int .u8 0, .int .u8 0, .int .u8 0, .int .u8 0, .int .u8 0, .int .u8 0, .int .u8 0, .int .u8 0, .int .u8 0, .int .u8 0, .int .u8 0, .int .u8 0, .int .u8 0, .int .u8 0, .int .u8 0, .int .u8 0] := by kernel_rfl
attribute [go_sem] zero208
theorem und208 : Tryz.prog.underlying 208 = some (.array 64 5) := by kernel_rfl
attribute [go_sem] und208
theorem places208 : placesOf Tryz.prog 208 = some [(0, 1), (1, 1), (2, 1), (3, 1), (4, 1), (5, 1), (6, 1), (7, 1), (8, 1), (9, 1), (10, 1), (11, 1), (12, 1), (13, 1), (14, 1), (15, 1), (16, 1), (17, 1), (18, 1), (19, 1), (20, 1), (21, 1), (22, 1), (23, 1), (24, 1), (25, 1), (26, 1), (27, 1), (28, 1), (29, 1), (30, 1), (31, 1), (32, 1), (33, 1), (34, 1), (35, 1), (36, 1), (37, 1), (38, 1), (39, 1), (40, 1), (41, 1), (42, 1), (43, 1), (44, 1), (45, 1), (46, 1), (47, 1), (48, 1), (49, 1), (50, 1), (51, 1), (52, 1), (53, 1), (54, 1), (55, 1), (56, 1), (57, 1), (58, 1), (59, 1), (60, 1), (61, 1), (62, 1), (63, 1)] := by kernel_rfl
attribute [go_sem] places208
end Go.Proofs.YtedciihjgbkjgabGreatDoor.A

/- WHAT THE TYPES OF THIS TRANSLATION COME TO. Conditions: none. (Printed by a program of this session.) -/
import Derived.Test.YtahjpaicfppkoaaDoorA39
import Derived.Test.YtahjpaicfppkoaaDoorProg
namespace Go.Proofs.YtahjpaicfppkoaaDoor.A
open Go
theorem agg2 : aggOf Tryd.prog 2 = some none := by kernel_rfl
attribute [go_sem] agg2
theorem zero2 : zeroOf Tryd.prog 2 = some [.int .i64 0] := by kernel_rfl
attribute [go_sem] zero2
theorem und2 : Tryd.prog.underlying 2 = some (.int .i64) := by kernel_rfl
attribute [go_sem] und2
theorem agg3 : aggOf Tryd.prog 3 = some none := by kernel_rfl
attribute [go_sem] agg3
theorem zero3 : zeroOf Tryd.prog 3 = some [.int .i64 0] := by kernel_rfl
attribute [go_sem] zero3
theorem und3 : Tryd.prog.underlying 3 = some (.int .i64) := by kernel_rfl
attribute [go_sem] und3
theorem agg4 : aggOf Tryd.prog 4 = some none := by kernel_rfl
attribute [go_sem] agg4
theorem zero4 : zeroOf Tryd.prog 4 = some [.bool false] := by kernel_rfl
attribute [go_sem] zero4
theorem und4 : Tryd.prog.underlying 4 = some .bool := by kernel_rfl
attribute [go_sem] und4
theorem agg5 : aggOf Tryd.prog 5 = some none := by kernel_rfl
attribute [go_sem] agg5
theorem zero5 : zeroOf Tryd.prog 5 = some [.int .u8 0] := by kernel_rfl
attribute [go_sem] zero5
theorem und5 : Tryd.prog.underlying 5 = some (.int .u8) := by kernel_rfl
attribute [go_sem] und5
theorem agg9 : aggOf Tryd.prog 9 = some none := by kernel_rfl
attribute [go_sem] agg9
theorem zero9 : zeroOf Tryd.prog 9 = some [.string ByteArray.empty] := by kernel_rfl
attribute [go_sem] zero9
theorem und9 : Tryd.prog.underlying 9 = some .string := by kernel_rfl
attribute [go_sem] und9
theorem appT9 : appT Tryd.prog 9 = true := by kernel_rfl
attribute [go_sem] appT9
theorem agg12 : aggOf Tryd.prog 12 = some none := by kernel_rfl
attribute [go_sem] agg12
theorem zero12 : zeroOf Tryd.prog 12 = some [.int .u64 0] := by kernel_rfl
attribute [go_sem] zero12
theorem und12 : Tryd.prog.underlying 12 = some (.int .u64) := by kernel_rfl
attribute [go_sem] und12
theorem agg21 : aggOf Tryd.prog 21 = some none := by kernel_rfl
attribute [go_sem] agg21
theorem zero21 : zeroOf Tryd.prog 21 = some [.int .i32 0] := by kernel_rfl
attribute [go_sem] zero21
theorem und21 : Tryd.prog.underlying 21 = some (.int .i32) := by kernel_rfl
attribute [go_sem] und21
theorem agg22 : aggOf Tryd.prog 22 = some none := by kernel_rfl
attribute [go_sem] agg22
theorem zero22 : zeroOf Tryd.prog 22 = some [.slice none 0 0] := by kernel_rfl
attribute [go_sem] zero22
theorem elem22 : elemOf' Tryd.prog 22 = some (1, 1, [.int .u8 0]) := by kernel_rfl
attribute [go_sem] elem22
theorem und22 : Tryd.prog.underlying 22 = some (.slice 5) := by kernel_rfl
attribute [go_sem] und22
theorem appT22 : appT Tryd.prog 22 = true := by kernel_rfl
attribute [go_sem] appT22
theorem agg32 : aggOf Tryd.prog 32 = some none := by kernel_rfl
attribute [go_sem] agg32
theorem zero32 : zeroOf Tryd.prog 32 = some [.pointer none] := by kernel_rfl
attribute [go_sem] zero32
theorem agg38 : aggOf Tryd.prog 38 = some none := by kernel_rfl
attribute [go_sem] agg38
theorem zero38 : zeroOf Tryd.prog 38 = some [.slice none 0 0] := by kernel_rfl
attribute [go_sem] zero38
theorem elem38 : elemOf' Tryd.prog 38 = some (1, 8, [.int .i64 0]) := by kernel_rfl
attribute [go_sem] elem38
theorem und38 : Tryd.prog.underlying 38 = some (.slice 3) := by kernel_rfl
attribute [go_sem] und38
theorem appT38 : appT Tryd.prog 38 = true := by kernel_rfl
attribute [go_sem] appT38
theorem agg40 : aggOf Tryd.prog 40 = some (some 3) := by kernel_rfl
attribute [go_sem] agg40
theorem zero40 : zeroOf Tryd.prog 40 = some [.slice none 0 0, .int .i64 0, .int .i64 0] := by kernel_rfl
attribute [go_sem] zero40
theorem fld40_0 : fieldOf Tryd.prog 40 0 = some (0, none) := by kernel_rfl
attribute [go_sem] fld40_0
theorem fld40_1 : fieldOf Tryd.prog 40 1 = some (1, none) := by kernel_rfl
attribute [go_sem] fld40_1
theorem fld40_2 : fieldOf Tryd.prog 40 2 = some (2, none) := by kernel_rfl
attribute [go_sem] fld40_2
theorem places40 : placesOf Tryd.prog 40 = some [(0, 1), (1, 1), (2, 1)] := by kernel_rfl
attribute [go_sem] places40
theorem agg41 : aggOf Tryd.prog 41 = some none := by kernel_rfl
attribute [go_sem] agg41
theorem zero41 : zeroOf Tryd.prog 41 = some [.int .u64 0] := by kernel_rfl
attribute [go_sem] zero41
theorem und41 : Tryd.prog.underlying 41 = some (.int .u64) := by kernel_rfl
attribute [go_sem] und41
theorem agg43 : aggOf Tryd.prog 43 = some (some 24) := by kernel_rfl
attribute [go_sem] agg43
theorem zero43 : zeroOf Tryd.prog 43 = some [.int .u8 0, .int .u8 0, .int .u8 0, .int .u8 0, .int .u8 0, .int .u8 0, .int .u8 0, .int .u8 0, .int .u8 0, .int .u8 0, .int .u8 0, .int .u8 0, .int .u8 0, .int .u8 0, .int .u8 0, .int .u8 0, .int .u8 0, .int .u8 0, .int .u8 0, .int .u8 0, .int .u8 0, .int .u8 0, .int .u8 0, .int .u8 0] := by kernel_rfl
attribute [go_sem] zero43
theorem und43 : Tryd.prog.underlying 43 = some (.array 24 5) := by kernel_rfl
attribute [go_sem] und43
theorem places43 : placesOf Tryd.prog 43 = some [(0, 1), (1, 1), (2, 1), (3, 1), (4, 1), (5, 1), (6, 1), (7, 1), (8, 1), (9, 1), (10, 1), (11, 1), (12, 1), (13, 1), (14, 1), (15, 1), (16, 1), (17, 1), (18, 1), (19, 1), (20, 1), (21, 1), (22, 1), (23, 1)] := by kernel_rfl
attribute [go_sem] places43
theorem agg44 : aggOf Tryd.prog 44 = some none := by kernel_rfl
attribute [go_sem] agg44
theorem zero44 : zeroOf Tryd.prog 44 = some [.int .u64 0] := by kernel_rfl
attribute [go_sem] zero44
theorem und44 : Tryd.prog.underlying 44 = some (.int .u64) := by kernel_rfl
attribute [go_sem] und44
theorem agg50 : aggOf Tryd.prog 50 = some (some 20) := by kernel_rfl
attribute [go_sem] agg50
theorem zero50 : zeroOf Tryd.prog 50 = some [.int .u64 0, .int .u64 0, .int .u64 0, .int .u64 0, .int .u64 0, .int .u64 0, .int .u64 0, .int .u64 0, .int .u64 0, .int .u64 0, .int .u64 0, .int .u64 0, .int .u64 0, .int .u64 0, .int .u64 0, .int .u64 0, .int .u64 0, .int .u64 0, .int .u64 0, .int .u64 0] := by kernel_rfl
attribute [go_sem] zero50
theorem und50 : Tryd.prog.underlying 50 = some (.array 20 44) := by kernel_rfl
attribute [go_sem] und50
theorem places50 : placesOf Tryd.prog 50 = some [(0, 1), (1, 1), (2, 1), (3, 1), (4, 1), (5, 1), (6, 1), (7, 1), (8, 1), (9, 1), (10, 1), (11, 1), (12, 1), (13, 1), (14, 1), (15, 1), (16, 1), (17, 1), (18, 1), (19, 1)] := by kernel_rfl
attribute [go_sem] places50
theorem agg51 : aggOf Tryd.prog 51 = some none := by kernel_rfl
attribute [go_sem] agg51
theorem zero51 : zeroOf Tryd.prog 51 = some [.int .u32 0] := by kernel_rfl
attribute [go_sem] zero51
theorem und51 : Tryd.prog.underlying 51 = some (.int .u32) := by kernel_rfl
attribute [go_sem] und51
theorem agg52 : aggOf Tryd.prog 52 = some (some 65) := by kernel_rfl
attribute [go_sem] agg52
theorem zero52 : zeroOf Tryd.prog 52 = some [.int .u8 0, .int .u8 0, .int .u8 0, .int .u8 0, .int .u8 0, .int .u8 0, .int .u8 0, .int .u8 0, .int .u8 0, .int .u8 0, .int .u8 0, .int .u8 0, .int .u8 0, .int .u8 0, .int .u8 0, .int .u8 0, .int .u8 0, .int .u8 0, .int .u8 0, .int .u8 0, .int .u8 0, .int .u8 0, .int .u8 0, .int .u8 0, .int .u8 0, .int .u8 0, .int .u8 0, .int .u8 0, .int .u8 0, .int .u8 0, .int .u8 0, .int .u8 0, .int .u8 0, .int .u8 0, .int .u8 0, .int .u8 0, .int .u8 0, .int .u8 0, .int .u8 0, .int .u8 0, .int .u8 0, .int .u8 0, .int .u8 0, .int .u8 0, .int .u8 0, .int .u8 0, .int .u8 0, .int .u8 0, .int .u8 0, .int .u8 0, .int .u8 0, .int .u8 0, .int .u8 0, .int .u8 0, .int .u8 0, .int .u8 0, .int .u8 0, .int .u8 0, .int .u8 0, .int .u8 0, .int .u8 0, .int .u8 0, .int .u8 0, .int .u8 0, .int .u8 0] := by kernel_rfl
attribute [go_sem] zero52
theorem und52 : Tryd.prog.underlying 52 = some (.array 65 5) := by kernel_rfl
attribute [go_sem] und52
theorem places52 : placesOf Tryd.prog 52 = some [(0, 1), (1, 1), (2, 1), (3, 1), (4, 1), (5, 1), (6, 1), (7, 1), (8, 1), (9, 1), (10, 1), (11, 1), (12, 1), (13, 1), (14, 1), (15, 1), (16, 1), (17, 1), (18, 1), (19, 1), (20, 1), (21, 1), (22, 1), (23, 1), (24, 1), (25, 1), (26, 1), (27, 1), (28, 1), (29, 1), (30, 1), (31, 1), (32, 1), (33, 1), (34, 1), (35, 1), (36, 1), (37, 1), (38, 1), (39, 1), (40, 1), (41, 1), (42, 1), (43, 1), (44, 1), (45, 1), (46, 1), (47, 1), (48, 1), (49, 1), (50, 1), (51, 1), (52, 1), (53, 1), (54, 1), (55, 1), (56, 1), (57, 1), (58, 1), (59, 1), (60, 1), (61, 1), (62, 1), (63, 1), (64, 1)] := by kernel_rfl
attribute [go_sem] places52
theorem agg55 : aggOf Tryd.prog 55 = some (some 32) := by kernel_rfl
attribute [go_sem] agg55
theorem zero55 : zeroOf Tryd.prog 55 = some [.int .u8 0, .int .u8 0, .int .u8 0, .int .u8 0, .int .u8 0, .int .u8 0, .int .u8 0, .int .u8 0, .int .u8 0, .int .u8 0, .int .u8 0, .int .u8 0, .int .u8 0, .int .u8 0, .int .u8 0, .int .u8 0, .int .u8 0, .int .u8 0, .int .u8 0, .int .u8 0, .int .u8 0, .int .u8 0, .int .u8 0, .int .u8 0, .int .u8 0, .int .u8 0, .int .u8 0, .int .u8 0, .int .u8 0, .int .u8 0, .int .u8 0, .int .u8 0] := by kernel_rfl
attribute [go_sem] zero55
theorem und55 : Tryd.prog.underlying 55 = some (.array 32 5) := by kernel_rfl
attribute [go_sem] und55
theorem places55 : placesOf Tryd.prog 55 = some [(0, 1), (1, 1), (2, 1), (3, 1), (4, 1), (5, 1), (6, 1), (7, 1), (8, 1), (9, 1), (10, 1), (11, 1), (12, 1), (13, 1), (14, 1), (15, 1), (16, 1), (17, 1), (18, 1), (19, 1), (20, 1), (21, 1), (22, 1), (23, 1), (24, 1), (25, 1), (26, 1), (27, 1), (28, 1), (29, 1), (30, 1), (31, 1)] := by kernel_rfl
attribute [go_sem] places55
theorem agg56 : aggOf Tryd.prog 56 = some (some 64) := by kernel_rfl
attribute [go_sem] agg56
theorem zero56 : zeroOf Tryd.prog 56 = some [.int .u8 0, .int .u8 0, .int .u8 0, .int .u8 0, .int .u8 0, .int .u8 0, .int .u8 0, .int .u8 0, .int .u8 0, .int .u8 0, .int .u8 0, .int .u8 0, .int .u8 0, .int .u8 0, .int .u8 0, .int .u8 0, .int .u8 0, .int .u8 0, .int .u8 0, .int .u8 0, .int .u8 0, .int .u8 0, .int .u8 0, .int .u8 0, .int .u8 0, .int .u8 0, .int .u8 0, .int .u8 0, .int .u8 0, .int .u8 0, .int .u8 0, .int .u8 0, .int .u8 0, .int .u8 0, .int .u8 0, .int .u8 0, .int .u8 0, .int .u8 0, .int .u8 0, .int .u8 0, .int .u8 0, .int .u8 0, .int .u8 0, .int .u8 0, .int .u8 0, .int .u8 0, .int .u8 0, .int .u8 0, .int .u8 0, .int .u8 0, .int .u8 0, .int .u8 0, .int .u8 0, .int .u8 0, .int .u8 0, .int .u8 0, .int .u8 0, .int .u8 0, .int .u8 0, .int .u8 0, .int .u8 0, .int .u8 0, .int .u8 0, .int .u8 0] := by kernel_rfl
attribute [go_sem] zero56
theorem und56 : Tryd.prog.underlying 56 = some (.array 64 5) := by kernel_rfl
attribute [go_sem] und56
theorem places56 : placesOf Tryd.prog 56 = some [(0, 1), (1, 1), (2, 1), (3, 1), (4, 1), (5, 1), (6, 1), (7, 1), (8, 1), (9, 1), (10, 1), (11, 1), (12, 1), (13, 1), (14, 1), (15, 1), (16, 1), (17, 1), (18, 1), (19, 1), (20, 1), (21, 1), (22, 1), (23, 1), (24, 1), (25, 1), (26, 1), (27, 1), (28, 1), (29, 1), (30, 1), (31, 1), (32, 1), (33, 1), (34, 1), (35, 1), (36, 1), (37, 1), (38, 1), (39, 1), (40, 1), (41, 1), (42, 1), (43, 1), (44, 1), (45, 1), (46, 1), (47, 1), (48, 1), (49, 1), (50, 1), (51, 1), (52, 1), (53, 1), (54, 1), (55, 1), (56, 1), (57, 1), (58, 1), (59, 1), (60, 1), (61, 1), (62, 1), (63, 1)] := by kernel_rfl
attribute [go_sem] places56
end Go.Proofs.YtahjpaicfppkoaaDoor.A

/- WHAT THE TYPES OF THIS TRANSLATION COME TO. Conditions: none. (Printed by a program of this session.) -/
import Derived.Test.YtedciihjgbkjgacGreatDoorA39
import Derived.Test.YtedciihjgbkjgacGreatDoorProg
namespace Go.Proofs.YtedciihjgbkjgacGreatDoor.A
open Go
theorem agg2 : aggOf Tryz.prog 2 = some none := by kernel_rfl
attribute [go_sem] agg2
theorem zero2 : zeroOf Tryz.prog 2 = some [.int .i64 0] := by kernel_rfl
attribute [go_sem] zero2
theorem und2 : Tryz.prog.underlying 2 = some (.int .i64) := by kernel_rfl
attribute [go_sem] und2
theorem agg3 : aggOf Tryz.prog 3 = some none := by kernel_rfl
attribute [go_sem] agg3
theorem zero3 : zeroOf Tryz.prog 3 = some [.int .i64 0] := by kernel_rfl
attribute [go_sem] zero3
theorem und3 : Tryz.prog.underlying 3 = some (.int .i64) := by kernel_rfl
attribute [go_sem] und3
theorem agg4 : aggOf Tryz.prog 4 = some none := by kernel_rfl
attribute [go_sem] agg4
theorem zero4 : zeroOf Tryz.prog 4 = some [.bool false] := by kernel_rfl
attribute [go_sem] zero4
theorem und4 : Tryz.prog.underlying 4 = some .bool := by kernel_rfl
attribute [go_sem] und4
theorem agg5 : aggOf Tryz.prog 5 = some none := by kernel_rfl
attribute [go_sem] agg5
theorem zero5 : zeroOf Tryz.prog 5 = some [.int .u8 0] := by kernel_rfl
attribute [go_sem] zero5
theorem und5 : Tryz.prog.underlying 5 = some (.int .u8) := by kernel_rfl
attribute [go_sem] und5
theorem agg9 : aggOf Tryz.prog 9 = some none := by kernel_rfl
attribute [go_sem] agg9
theorem zero9 : zeroOf Tryz.prog 9 = some [.string ByteArray.empty] := by kernel_rfl
attribute [go_sem] zero9
theorem und9 : Tryz.prog.underlying 9 = some .string := by kernel_rfl
attribute [go_sem] und9
theorem appT9 : appT Tryz.prog 9 = true := by kernel_rfl
attribute [go_sem] appT9
theorem agg12 : aggOf Tryz.prog 12 = some none := by kernel_rfl
attribute [go_sem] agg12
theorem zero12 : zeroOf Tryz.prog 12 = some [.int .u64 0] := by kernel_rfl
attribute [go_sem] zero12
theorem und12 : Tryz.prog.underlying 12 = some (.int .u64) := by kernel_rfl
attribute [go_sem] und12
theorem agg21 : aggOf Tryz.prog 21 = some none := by kernel_rfl
attribute [go_sem] agg21
theorem zero21 : zeroOf Tryz.prog 21 = some [.int .i32 0] := by kernel_rfl
attribute [go_sem] zero21
theorem und21 : Tryz.prog.underlying 21 = some (.int .i32) := by kernel_rfl
attribute [go_sem] und21
theorem agg22 : aggOf Tryz.prog 22 = some none := by kernel_rfl
attribute [go_sem] agg22
theorem zero22 : zeroOf Tryz.prog 22 = some [.slice none 0 0] := by kernel_rfl
attribute [go_sem] zero22
theorem elem22 : elemOf' Tryz.prog 22 = some (1, 1, [.int .u8 0]) := by kernel_rfl
attribute [go_sem] elem22
theorem und22 : Tryz.prog.underlying 22 = some (.slice 5) := by kernel_rfl
attribute [go_sem] und22
theorem appT22 : appT Tryz.prog 22 = true := by kernel_rfl
attribute [go_sem] appT22
theorem agg24 : aggOf Tryz.prog 24 = some none := by kernel_rfl
attribute [go_sem] agg24
theorem zero24 : zeroOf Tryz.prog 24 = some [.slice none 0 0] := by kernel_rfl
attribute [go_sem] zero24
theorem elem24 : elemOf' Tryz.prog 24 = some (3, 32, [.string ByteArray.empty, .int .i64 0, .int .i64 0]) := by kernel_rfl
attribute [go_sem] elem24
theorem und24 : Tryz.prog.underlying 24 = some (.slice 70) := by kernel_rfl
attribute [go_sem] und24
theorem appT24 : appT Tryz.prog 24 = true := by kernel_rfl
attribute [go_sem] appT24
theorem agg25 : aggOf Tryz.prog 25 = some none := by kernel_rfl
attribute [go_sem] agg25
theorem zero25 : zeroOf Tryz.prog 25 = some [.slice none 0 0] := by kernel_rfl
attribute [go_sem] zero25
theorem elem25 : elemOf' Tryz.prog 25 = some (2, 32, [.int .i64 0, .slice none 0 0]) := by kernel_rfl
attribute [go_sem] elem25
theorem und25 : Tryz.prog.underlying 25 = some (.slice 51) := by kernel_rfl
attribute [go_sem] und25
theorem appT25 : appT Tryz.prog 25 = true := by kernel_rfl
attribute [go_sem] appT25
theorem agg26 : aggOf Tryz.prog 26 = some none := by kernel_rfl
attribute [go_sem] agg26
theorem zero26 : zeroOf Tryz.prog 26 = some [.slice none 0 0] := by kernel_rfl
attribute [go_sem] zero26
theorem elem26 : elemOf' Tryz.prog 26 = some (1, 8, [.int .i64 0]) := by kernel_rfl
attribute [go_sem] elem26
theorem und26 : Tryz.prog.underlying 26 = some (.slice 3) := by kernel_rfl
attribute [go_sem] und26
theorem appT26 : appT Tryz.prog 26 = true := by kernel_rfl
attribute [go_sem] appT26
theorem agg28 : aggOf Tryz.prog 28 = some (some 3) := by kernel_rfl
attribute [go_sem] agg28
theorem zero28 : zeroOf Tryz.prog 28 = some [.int .i64 0, .slice none 0 0, .slice none 0 0] := by kernel_rfl
attribute [go_sem] zero28
theorem fld28_0 : fieldOf Tryz.prog 28 0 = some (0, none) := by kernel_rfl
attribute [go_sem] fld28_0
theorem fld28_1 : fieldOf Tryz.prog 28 1 = some (1, none) := by kernel_rfl
attribute [go_sem] fld28_1
theorem fld28_2 : fieldOf Tryz.prog 28 2 = some (2, none) := by kernel_rfl
attribute [go_sem] fld28_2
theorem places28 : placesOf Tryz.prog 28 = some [(0, 1), (1, 1), (2, 1)] := by kernel_rfl
attribute [go_sem] places28
theorem agg40 : aggOf Tryz.prog 40 = some none := by kernel_rfl
attribute [go_sem] agg40
theorem zero40 : zeroOf Tryz.prog 40 = some [.pointer none] := by kernel_rfl
attribute [go_sem] zero40
theorem agg47 : aggOf Tryz.prog 47 = some none := by kernel_rfl
attribute [go_sem] agg47
theorem zero47 : zeroOf Tryz.prog 47 = some [.slice none 0 0] := by kernel_rfl
attribute [go_sem] zero47
theorem elem47 : elemOf' Tryz.prog 47 = some (1, 16, [.string ByteArray.empty]) := by kernel_rfl
attribute [go_sem] elem47
theorem und47 : Tryz.prog.underlying 47 = some (.slice 9) := by kernel_rfl
attribute [go_sem] und47
theorem appT47 : appT Tryz.prog 47 = true := by kernel_rfl
attribute [go_sem] appT47
theorem agg51 : aggOf Tryz.prog 51 = some (some 2) := by kernel_rfl
attribute [go_sem] agg51
theorem zero51 : zeroOf Tryz.prog 51 = some [.int .i64 0, .slice none 0 0] := by kernel_rfl
attribute [go_sem] zero51
theorem fld51_0 : fieldOf Tryz.prog 51 0 = some (0, none) := by kernel_rfl
attribute [go_sem] fld51_0
theorem fld51_1 : fieldOf Tryz.prog 51 1 = some (1, none) := by kernel_rfl
attribute [go_sem] fld51_1
theorem places51 : placesOf Tryz.prog 51 = some [(0, 1), (1, 1)] := by kernel_rfl
attribute [go_sem] places51
theorem agg68 : aggOf Tryz.prog 68 = some none := by kernel_rfl
attribute [go_sem] agg68
theorem zero68 : zeroOf Tryz.prog 68 = some [.slice none 0 0] := by kernel_rfl
attribute [go_sem] zero68
theorem elem68 : elemOf' Tryz.prog 68 = some (1, 1, [.bool false]) := by kernel_rfl
attribute [go_sem] elem68
theorem und68 : Tryz.prog.underlying 68 = some (.slice 4) := by kernel_rfl
attribute [go_sem] und68
theorem appT68 : appT Tryz.prog 68 = true := by kernel_rfl
attribute [go_sem] appT68
theorem agg70 : aggOf Tryz.prog 70 = some (some 3) := by kernel_rfl
attribute [go_sem] agg70
theorem zero70 : zeroOf Tryz.prog 70 = some [.string ByteArray.empty, .int .i64 0, .int .i64 0] := by kernel_rfl
attribute [go_sem] zero70
theorem fld70_0 : fieldOf Tryz.prog 70 0 = some (0, none) := by kernel_rfl
attribute [go_sem] fld70_0
theorem fld70_1 : fieldOf Tryz.prog 70 1 = some (1, none) := by kernel_rfl
attribute [go_sem] fld70_1
theorem fld70_2 : fieldOf Tryz.prog 70 2 = some (2, none) := by kernel_rfl
attribute [go_sem] fld70_2
theorem places70 : placesOf Tryz.prog 70 = some [(0, 1), (1, 1), (2, 1)] := by kernel_rfl
attribute [go_sem] places70
theorem agg95 : aggOf Tryz.prog 95 = some (some 3) := by kernel_rfl
attribute [go_sem] agg95
theorem zero95 : zeroOf Tryz.prog 95 = some [.slice none 0 0, .int .i64 0, .int .i64 0] := by kernel_rfl
attribute [go_sem] zero95
theorem fld95_0 : fieldOf Tryz.prog 95 0 = some (0, none) := by kernel_rfl
attribute [go_sem] fld95_0
theorem fld95_1 : fieldOf Tryz.prog 95 1 = some (1, none) := by kernel_rfl
attribute [go_sem] fld95_1
theorem fld95_2 : fieldOf Tryz.prog 95 2 = some (2, none) := by kernel_rfl
attribute [go_sem] fld95_2
theorem places95 : placesOf Tryz.prog 95 = some [(0, 1), (1, 1), (2, 1)] := by kernel_rfl
attribute [go_sem] places95
theorem agg111 : aggOf Tryz.prog 111 = some none := by kernel_rfl
attribute [go_sem] agg111
theorem zero111 : zeroOf Tryz.prog 111 = some [.int .u64 0] := by kernel_rfl
attribute [go_sem] zero111
theorem und111 : Tryz.prog.underlying 111 = some (.int .u64) := by kernel_rfl
attribute [go_sem] und111
theorem agg112 : aggOf Tryz.prog 112 = some none := by kernel_rfl
attribute [go_sem] agg112
theorem zero112 : zeroOf Tryz.prog 112 = some [.slice none 0 0] := by kernel_rfl
attribute [go_sem] zero112
theorem elem112 : elemOf' Tryz.prog 112 = some (1, 24, [.slice none 0 0]) := by kernel_rfl
attribute [go_sem] elem112
theorem und112 : Tryz.prog.underlying 112 = some (.slice 26) := by kernel_rfl
attribute [go_sem] und112
theorem appT112 : appT Tryz.prog 112 = true := by kernel_rfl
attribute [go_sem] appT112
theorem agg129 : aggOf Tryz.prog 129 = some none := by kernel_rfl
attribute [go_sem] agg129
theorem zero129 : zeroOf Tryz.prog 129 = some [.int .u32 0] := by kernel_rfl
attribute [go_sem] zero129
theorem und129 : Tryz.prog.underlying 129 = some (.int .u32) := by kernel_rfl
attribute [go_sem] und129
theorem agg131 : aggOf Tryz.prog 131 = some none := by kernel_rfl
attribute [go_sem] agg131
theorem zero131 : zeroOf Tryz.prog 131 = some [.int .u64 0] := by kernel_rfl
attribute [go_sem] zero131
theorem und131 : Tryz.prog.underlying 131 = some (.int .u64) := by kernel_rfl
attribute [go_sem] und131
theorem agg148 : aggOf Tryz.prog 148 = some (some 256) := by kernel_rfl
attribute [go_sem] agg148
theorem zero148 : zeroOf Tryz.prog 148 = some [.int .u8 0, .int .u8 0, .int .u8 0, .int .u8 0, .int .u8 0, .int .u8 0, .int .u8 0, .int .u8 0, .int .u8 0, .int .u8 0, .int .u8 0, .int .u8 0, .int .u8 0, .int .u8 0, .int .u8 0, .int .u8 0, .int .u8 0, .int .u8 0, .int .u8 0, .int .u8 0, .int .u8 0, .int .u8 0, .int .u8 0, .int .u8 0, .int .u8 0, .int .u8 0, .int .u8 0, .int .u8 0, .int .u8 0, .int .u8 0, .int .u8 0, .int .u8 0, .int .u8 0, .int .u8 0, .int .u8 0, .int .u8 0, .int .u8 0, .int .u8 0, .int .u8 0, .int .u8 0, .int .u8 0, .int .u8 0, .int .u8 0, .int .u8 0, .int .u8 0, .int .u8 0, .int .u8 0, .int .u8 0, .int .u8 0, .int .u8 0, .int .u8 0, .int .u8 0, .int .u8 0, .int .u8 0, .int .u8 0, .int .u8 0, .int .u8 0, .int .u8 0, .int .u8 0, .int .u8 0, .int .u8 0, .int .u8 0, .int .u8 0, .int .u8 0, .int .u8 0, .int .u8 0, .int .u8 0, .int .u8 0, .int .u8 0, .int .u8 0, .int .u8 0, .int .u8 0, .int .u8 0, .int .u8 0, .int .u8 0, .int .u8 0, .int .u8 0, .int .u8 0, .int .u8 0, .int .u8 0, .int .u8 0, .int .u8 0, .int .u8 0, .int .u8 0, .int .u8 0, .int .u8 0, .int .u8 0, .int .u8 0, .int .u8 0, .int .u8 0, .int .u8 0, .int .u8 0, .int .u8 0, .int .u8 0, .int .u8 0, .int .u8 0, .int .u8 0, .int .u8 0, .int .u8 0, .int .u8 0, .int .u8 0, .int .u8 0, .int .u8 0, .int .u8 0, .int .u8 0, .int .u8 0, .int .u8 0, .int .u8 0, .int .u8 0, .int .u8 0, .int .u8 0, .int .u8 0, .int .u8 0, .int .u8 0, .int .u8 0, .int .u8 0, .int .u8 0, .int .u8 0, .int .u8 0, .int .u8 0, .int .u8 0, .int .u8 0, .int .u8 0, .int .u8 0, .int .u8 0, .int .u8 0, .int .u8 0, .int .u8 0, .int .u8 0, .int .u8 0, .int .u8 0, .int .u8 0, .int .u8 0, .int .u8 0, .int .u8 0, .int .u8 0, .int .u8 0, .int .u8 0, .int .u8 0, .int .u8 0, .int .u8 0, .int .u8 0, .int .u8 0, .int .u8 0, .int .u8 0, .int .u8 0, .int .u8 0, .int .u8 0, .int .u8 0, .int .u8 0, .int .u8 0, .int .u8 0, .int .u8 0, .int .u8 0, .int .u8 0, .int .u8 0, .int .u8 0, .int .u8 0, .int .u8 0, .int .u8 0, .int .u8 0, .int .u8 0, .int .u8 0, .int .u8 0, .int .u8 0, .int .u8 0, .int .u8 0, .int .u8 0, .int .u8 0, .int .u8 0, .int .u8 0, .int .u8 0, .int .u8 0, .int .u8 0, .int .u8 0, .int .u8 0, .int .u8 0, .int .u8 0, .int .u8 0, .int .u8 0, .int .u8 0, .int .u8 0, .int .u8 0, .int .u8 0, .int .u8 0, .int .u8 0, .int .u8 0, .int .u8 0, .int .u8 0, .int .u8 0, .int .u8 0, .int .u8 0, .int .u8 0, .int .u8 0, .int .u8 0, .int .u8 0, .int .u8 0, .int .u8 0, .int .u8 0, .int .u8 0, .int .u8 0, .int .u8 0, .int .u8 0, .int .u8 0, .int .u8 0, .int .u8 0, .int .u8 0, .int .u8 0, .int .u8 0, .int .u8 0, .int .u8 0, .int .u8 0, .int .u8 0, .int .u8 0, .int .u8 0, .int .u8 0, .int .u8 0, .int .u8 0, .int .u8 0, .int .u8 0, .int .u8 0, .int .u8 0, .int .u8 0, .int .u8 0, .int .u8 0, .int .u8 0, .int .u8 0, .int .u8 0, .int .u8 0, .int .u8 0, .int .u8 0, .int .u8 0, .int .u8 0, .int .u8 0, .int .u8 0, .int .u8 0, .int .u8 0, .int .u8 0, .int .u8 0, .int .u8 0, .int .u8 0, .int .u8 0, .int .u8 0, .int .u8 0, .int .u8 0, .int .u8 0, .int .u8 0, .int .u8 0, .int .u8 0, .int .u8 0, .int .u8 0, .int .u8 0, .int .u8 0, .int .u8 0, .int .u8 0, .int .u8 0] := by kernel_rfl
attribute [go_sem] zero148
theorem und148 : Tryz.prog.underlying 148 = some (.array 256 5) := by kernel_rfl
attribute [go_sem] und148
theorem places148 : placesOf Tryz.prog 148 = some [(0, 1), (1, 1), (2, 1), (3, 1), (4, 1), (5, 1), (6, 1), (7, 1), (8, 1), (9, 1), (10, 1), (11, 1), (12, 1), (13, 1), (14, 1), (15, 1), (16, 1), (17, 1), (18, 1), (19, 1), (20, 1), (21, 1), (22, 1), (23, 1), (24, 1), (25, 1), (26, 1), (27, 1), (28, 1), (29, 1), (30, 1), (31, 1), (32, 1), (33, 1), (34, 1), (35, 1), (36, 1), (37, 1), (38, 1), (39, 1), (40, 1), (41, 1), (42, 1), (43, 1), (44, 1), (45, 1), (46, 1), (47, 1), (48, 1), (49, 1), (50, 1), (51, 1), (52, 1), (53, 1), (54, 1), (55, 1), (56, 1), (57, 1), (58, 1), (59, 1), (60, 1), (61, 1), (62, 1), (63, 1), (64, 1), (65, 1), (66, 1), (67, 1), (68, 1), (69, 1), (70, 1), (71, 1), (72, 1), (73, 1), (74, 1), (75, 1), (76, 1), (77, 1), (78, 1), (79, 1), (80, 1), (81, 1), (82, 1), (83, 1), (84, 1), (85, 1), (86, 1), (87, 1), (88, 1), (89, 1), (90, 1), (91, 1), (92, 1), (93, 1), (94, 1), (95, 1), (96, 1), (97, 1), (98, 1), (99, 1), (100, 1), (101, 1), (102, 1), (103, 1), (104, 1), (105, 1), (106, 1), (107, 1), (108, 1), (109, 1), (110, 1), (111, 1), (112, 1), (113, 1), (114, 1), (115, 1), (116, 1), (117, 1), (118, 1), (119, 1), (120, 1), (121, 1), (122, 1), (123, 1), (124, 1), (125, 1), (126, 1), (127, 1), (128, 1), (129, 1), (130, 1), (131, 1), (132, 1), (133, 1), (134, 1), (135, 1), (136, 1), (137, 1), (138, 1), (139, 1), (140, 1), (141, 1), (142, 1), (143, 1), (144, 1), (145, 1), (146, 1), (147, 1), (148, 1), (149, 1), (150, 1), (151, 1), (152, 1), (153, 1), (154, 1), (155, 1), (156, 1), (157, 1), (158, 1), (159, 1), (160, 1), (161, 1), (162, 1), (163, 1), (164, 1), (165, 1), (166, 1), (167, 1), (168, 1), (169, 1), (170, 1), (171, 1), (172, 1), (173, 1), (174, 1), (175, 1), (176, 1), (177, 1), (178, 1), (179, 1), (180, 1), (181, 1), (182, 1), (183, 1), (184, 1), (185, 1), (186, 1), (187, 1), (188, 1), (189, 1), (190, 1), (191, 1), (192, 1), (193, 1), (194, 1), (195, 1), (196, 1), (197, 1), (198, 1), (199, 1), (200, 1), (201, 1), (202, 1), (203, 1), (204, 1), (205, 1), (206, 1), (207, 1), (208, 1), (209, 1), (210, 1), (211, 1), (212, 1), (213, 1), (214, 1), (215, 1), (216, 1), (217, 1), (218, 1), (219, 1), (220, 1), (221, 1), (222, 1), (223, 1), (224, 1), (225, 1), (226, 1), (227, 1), (228, 1), (229, 1), (230, 1), (231, 1), (232, 1), (233, 1), (234, 1), (235, 1), (236, 1), (237, 1), (238, 1), (239, 1), (240, 1), (241, 1), (242, 1), (243, 1), (244, 1), (245, 1), (246, 1), (247, 1), (248, 1), (249, 1), (250, 1), (251, 1), (252, 1), (253, 1), (254, 1), (255, 1)] := by kernel_rfl
attribute [go_sem] places148
theorem agg151 : aggOf Tryz.prog 151 = some (some 32) := by kernel_rfl
attribute [go_sem] agg151
theorem zero151 : zeroOf Tryz.prog 151 = some [.int .u8 0, .int .u8 0, .int .u8 0, .int .u8 0, .int .u8 0, .int .u8 0, .int .u8 0, .int .u8 0, .int .u8 0, .int .u8 0, .int .u8 0, .int .u8 0, .int .u8 0, .int .u8 0, .int .u8 0, .int .u8 0, .int .u8 0, .int .u8 0, .int .u8 0, .int .u8 0, .int .u8 0, .int .u8 0, .int .u8 0, .int .u8 0, .int .u8 0, .int .u8 0, .int .u8 0, .int .u8 0, .int .u8 0, .int .u8 0, .int .u8 0, .int .u8 0] := by kernel_rfl
attribute [go_sem] zero151
theorem und151 : Tryz.prog.underlying 151 = some (.array 16 150) := by kernel_rfl
attribute [go_sem] und151
theorem places151 : placesOf Tryz.prog 151 = some [(0, 2), (2, 2), (4, 2), (6, 2), (8, 2), (10, 2), (12, 2), (14, 2), (16, 2), (18, 2), (20, 2), (22, 2), (24, 2), (26, 2), (28, 2), (30, 2)] := by kernel_rfl
attribute [go_sem] places151
theorem agg152 : aggOf Tryz.prog 152 = some (some 24) := by kernel_rfl
attribute [go_sem] agg152
theorem zero152 : zeroOf Tryz.prog 152 = some [.int .u8 0, .int .u8 0, .int .u8 0, .int .u8 0, .int .u8 0, .int .u8 0, .int .u8 0, .int .u8 0, .int .u8 0, .int .u8 0, .int .u8 0, .int .u8 0, .int .u8 0, .int .u8 0, .int .u8 0, .int .u8 0, .int .u8 0, .int .u8 0, .int .u8 0, .int .u8 0, .int .u8 0, .int .u8 0, .int .u8 0, .int .u8 0] := by kernel_rfl
attribute [go_sem] zero152
theorem und152 : Tryz.prog.underlying 152 = some (.array 24 5) := by kernel_rfl
attribute [go_sem] und152
theorem places152 : placesOf Tryz.prog 152 = some [(0, 1), (1, 1), (2, 1), (3, 1), (4, 1), (5, 1), (6, 1), (7, 1), (8, 1), (9, 1), (10, 1), (11, 1), (12, 1), (13, 1), (14, 1), (15, 1), (16, 1), (17, 1), (18, 1), (19, 1), (20, 1), (21, 1), (22, 1), (23, 1)] := by kernel_rfl
attribute [go_sem] places152
theorem agg157 : aggOf Tryz.prog 157 = some (some 20) := by kernel_rfl
attribute [go_sem] agg157
theorem zero157 : zeroOf Tryz.prog 157 = some [.int .u64 0, .int .u64 0, .int .u64 0, .int .u64 0, .int .u64 0, .int .u64 0, .int .u64 0, .int .u64 0, .int .u64 0, .int .u64 0, .int .u64 0, .int .u64 0, .int .u64 0, .int .u64 0, .int .u64 0, .int .u64 0, .int .u64 0, .int .u64 0, .int .u64 0, .int .u64 0] := by kernel_rfl
attribute [go_sem] zero157
theorem und157 : Tryz.prog.underlying 157 = some (.array 20 131) := by kernel_rfl
attribute [go_sem] und157
theorem places157 : placesOf Tryz.prog 157 = some [(0, 1), (1, 1), (2, 1), (3, 1), (4, 1), (5, 1), (6, 1), (7, 1), (8, 1), (9, 1), (10, 1), (11, 1), (12, 1), (13, 1), (14, 1), (15, 1), (16, 1), (17, 1), (18, 1), (19, 1)] := by kernel_rfl
attribute [go_sem] places157
theorem agg158 : aggOf Tryz.prog 158 = some (some 65) := by kernel_rfl
attribute [go_sem] agg158
theorem zero158 : zeroOf Tryz.prog 158 = some [.int .u8 0, .int .u8 0, .int .u8 0, .int .u8 0, .int .u8 0, .int .u8 0, .int .u8 0, .int .u8 0, .int .u8 0, .int .u8 0, .int .u8 0, .int .u8 0, .int .u8 0, .int .u8 0, .int .u8 0, .int .u8 0, .int .u8 0, .int .u8 0, .int .u8 0, .int .u8 0, .int .u8 0, .int .u8 0, .int .u8 0, .int .u8 0, .int .u8 0, .int .u8 0, .int .u8 0, .int .u8 0, .int .u8 0, .int .u8 0, .int .u8 0, .int .u8 0, .int .u8 0, .int .u8 0, .int .u8 0, .int .u8 0, .int .u8 0, .int .u8 0, .int .u8 0, .int .u8 0, .int .u8 0, .int .u8 0, .int .u8 0, .int .u8 0, .int .u8 0, .int .u8 0, .int .u8 0, .int .u8 0, .int .u8 0, .int .u8 0, .int .u8 0, .int .u8 0, .int .u8 0, .int .u8 0, .int .u8 0, .int .u8 0, .int .u8 0, .int .u8 0, .int .u8 0, .int .u8 0, .int .u8 0, .int .u8 0, .int .u8 0, .int .u8 0, .int .u8 0] := by kernel_rfl
attribute [go_sem] zero158
theorem und158 : Tryz.prog.underlying 158 = some (.array 65 5) := by kernel_rfl
attribute [go_sem] und158
theorem places158 : placesOf Tryz.prog 158 = some [(0, 1), (1, 1), (2, 1), (3, 1), (4, 1), (5, 1), (6, 1), (7, 1), (8, 1), (9, 1), (10, 1), (11, 1), (12, 1), (13, 1), (14, 1), (15, 1), (16, 1), (17, 1), (18, 1), (19, 1), (20, 1), (21, 1), (22, 1), (23, 1), (24, 1), (25, 1), (26, 1), (27, 1), (28, 1), (29, 1), (30, 1), (31, 1), (32, 1), (33, 1), (34, 1), (35, 1), (36, 1), (37, 1), (38, 1), (39, 1), (40, 1), (41, 1), (42, 1), (43, 1), (44, 1), (45, 1), (46, 1), (47, 1), (48, 1), (49, 1), (50, 1), (51, 1), (52, 1), (53, 1), (54, 1), (55, 1), (56, 1), (57, 1), (58, 1), (59, 1), (60, 1), (61, 1), (62, 1), (63, 1), (64, 1)] := by kernel_rfl
attribute [go_sem] places158
theorem agg159 : aggOf Tryz.prog 159 = some (some 32) := by kernel_rfl
attribute [go_sem] agg159
theorem zero159 : zeroOf Tryz.prog 159 = some [.int .u8 0, .int .u8 0, .int .u8 0, .int .u8 0, .int .u8 0, .int .u8 0, .int .u8 0, .int .u8 0, .int .u8 0, .int .u8 0, .int .u8 0, .int .u8 0, .int .u8 0, .int .u8 0, .int .u8 0, .int .u8 0, .int .u8 0, .int .u8 0, .int .u8 0, .int .u8 0, .int .u8 0, .int .u8 0, .int .u8 0, .int .u8 0, .int .u8 0, .int .u8 0, .int .u8 0, .int .u8 0, .int .u8 0, .int .u8 0, .int .u8 0, .int .u8 0] := by kernel_rfl
attribute [go_sem] zero159
theorem und159 : Tryz.prog.underlying 159 = some (.array 32 5) := by kernel_rfl
attribute [go_sem] und159
theorem places159 : placesOf Tryz.prog 159 = some [(0, 1), (1, 1), (2, 1), (3, 1), (4, 1), (5, 1), (6, 1), (7, 1), (8, 1), (9, 1), (10, 1), (11, 1), (12, 1), (13, 1), (14, 1), (15, 1), (16, 1), (17, 1), (18, 1), (19, 1), (20, 1), (21, 1), (22, 1), (23, 1), (24, 1), (25, 1), (26, 1), (27, 1), (28, 1), (29, 1), (30, 1), (31, 1)] := by kernel_rfl
attribute [go_sem] places159
theorem agg160 : aggOf Tryz.prog 160 = some (some 64) := by kernel_rfl
attribute [go_sem] agg160
theorem zero160 : zeroOf Tryz.prog 160 = some [.int .u8 0, .int .u8 0, .int .u8 0, .int .u8 0, .int .u8 0, .int .u8 0, .int .u8 0, .int .u8 0, .int .u8 0, .int .u8 0, .int .u8 0, .int .u8 0, .int .u8 0, .int .u8 0, .int .u8 0, .int .u8 0, .int .u8 0, .int .u8 0, .int .u8 0, .int .u8 0, .int .u8 0, .int .u8 0, .int .u8 0, .int .u8 0, .int .u8 0, .int .u8 0, .int .u8 0, .int .u8 0, .int .u8 0, .int .u8 0, .int .u8 0, .int .u8 0, .int .u8 0, .int .u8 0, .int .u8 0, .int .u8 0, .int .u8 0, .int .u8 0, .int .u8 0, .int .u8 0, .int .u8 0, .int .u8 0, .int .u8 0, .int .u8 0, .int .u8 0, .int .u8 0, .int .u8 0, .int .u8 0, .int .u8 0, .int .u8 0, .int .u8 0, .int .u8 0, .int .u8 0, .int .u8 0, .int .u8 0, .int .u8 0, .int .u8 0, .int .u8 0, .int .u8 0, .int .u8 0, .int .u8 0, .int .u8 0, .int .u8 0, .int .u8 0] := by kernel_rfl
attribute [go_sem] zero160
theorem und160 : Tryz.prog.underlying 160 = some (.array 64 5) := by kernel_rfl
attribute [go_sem] und160
theorem places160 : placesOf Tryz.prog 160 = some [(0, 1), (1, 1), (2, 1), (3, 1), (4, 1), (5, 1), (6, 1), (7, 1), (8, 1), (9, 1), (10, 1), (11, 1), (12, 1), (13, 1), (14, 1), (15, 1), (16, 1), (17, 1), (18, 1), (19, 1), (20, 1), (21, 1), (22, 1), (23, 1), (24, 1), (25, 1), (26, 1), (27, 1), (28, 1), (29, 1), (30, 1), (31, 1), (32, 1), (33, 1), (34, 1), (35, 1), (36, 1), (37, 1), (38, 1), (39, 1), (40, 1), (41, 1), (42, 1), (43, 1), (44, 1), (45, 1), (46, 1), (47, 1), (48, 1), (49, 1), (50, 1), (51, 1), (52, 1), (53, 1), (54, 1), (55, 1), (56, 1), (57, 1), (58, 1), (59, 1), (60, 1), (61, 1), (62, 1), (63, 1)] := by kernel_rfl
attribute [go_sem] places160
end Go.Proofs.YtedciihjgbkjgacGreatDoor.A

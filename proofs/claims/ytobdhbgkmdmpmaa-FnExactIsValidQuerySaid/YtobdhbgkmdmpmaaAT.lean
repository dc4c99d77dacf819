/- WHAT THE TYPES OF THIS TRANSLATION COME TO. Conditions: none. (Printed by a program of this session.) -/
import Derived.Test.YtobdhbgkmdmpmaaA39
import Derived.Test.YtobdhbgkmdmpmaaProg
namespace Go.Proofs.Ytobdhbgkmdmpmaa.A
open Go
theorem agg2 : aggOf Try.prog 2 = some none := by kernel_rfl
attribute [go_sem] agg2
theorem zero2 : zeroOf Try.prog 2 = some [.int .i64 0] := by kernel_rfl
attribute [go_sem] zero2
theorem und2 : Try.prog.underlying 2 = some (.int .i64) := by kernel_rfl
attribute [go_sem] und2
theorem agg3 : aggOf Try.prog 3 = some none := by kernel_rfl
attribute [go_sem] agg3
theorem zero3 : zeroOf Try.prog 3 = some [.int .i64 0] := by kernel_rfl
attribute [go_sem] zero3
theorem und3 : Try.prog.underlying 3 = some (.int .i64) := by kernel_rfl
attribute [go_sem] und3
theorem agg4 : aggOf Try.prog 4 = some none := by kernel_rfl
attribute [go_sem] agg4
theorem zero4 : zeroOf Try.prog 4 = some [.bool false] := by kernel_rfl
attribute [go_sem] zero4
theorem und4 : Try.prog.underlying 4 = some .bool := by kernel_rfl
attribute [go_sem] und4
theorem agg5 : aggOf Try.prog 5 = some none := by kernel_rfl
attribute [go_sem] agg5
theorem zero5 : zeroOf Try.prog 5 = some [.int .u8 0] := by kernel_rfl
attribute [go_sem] zero5
theorem und5 : Try.prog.underlying 5 = some (.int .u8) := by kernel_rfl
attribute [go_sem] und5
theorem agg9 : aggOf Try.prog 9 = some none := by kernel_rfl
attribute [go_sem] agg9
theorem zero9 : zeroOf Try.prog 9 = some [.string ByteArray.empty] := by kernel_rfl
attribute [go_sem] zero9
theorem und9 : Try.prog.underlying 9 = some .string := by kernel_rfl
attribute [go_sem] und9
theorem appT9 : appT Try.prog 9 = true := by kernel_rfl
attribute [go_sem] appT9
theorem agg12 : aggOf Try.prog 12 = some none := by kernel_rfl
attribute [go_sem] agg12
theorem zero12 : zeroOf Try.prog 12 = some [.int .u64 0] := by kernel_rfl
attribute [go_sem] zero12
theorem und12 : Try.prog.underlying 12 = some (.int .u64) := by kernel_rfl
attribute [go_sem] und12
theorem agg21 : aggOf Try.prog 21 = some none := by kernel_rfl
attribute [go_sem] agg21
theorem zero21 : zeroOf Try.prog 21 = some [.int .i32 0] := by kernel_rfl
attribute [go_sem] zero21
theorem und21 : Try.prog.underlying 21 = some (.int .i32) := by kernel_rfl
attribute [go_sem] und21
theorem agg22 : aggOf Try.prog 22 = some none := by kernel_rfl
attribute [go_sem] agg22
theorem zero22 : zeroOf Try.prog 22 = some [.slice none 0 0] := by kernel_rfl
attribute [go_sem] zero22
theorem elem22 : elemOf' Try.prog 22 = some (3, 32, [.string ByteArray.empty, .int .i64 0, .int .i64 0]) := by kernel_rfl
attribute [go_sem] elem22
theorem und22 : Try.prog.underlying 22 = some (.slice 53) := by kernel_rfl
attribute [go_sem] und22
theorem appT22 : appT Try.prog 22 = true := by kernel_rfl
attribute [go_sem] appT22
theorem agg23 : aggOf Try.prog 23 = some none := by kernel_rfl
attribute [go_sem] agg23
theorem zero23 : zeroOf Try.prog 23 = some [.slice none 0 0] := by kernel_rfl
attribute [go_sem] zero23
theorem elem23 : elemOf' Try.prog 23 = some (1, 8, [.int .i64 0]) := by kernel_rfl
attribute [go_sem] elem23
theorem und23 : Try.prog.underlying 23 = some (.slice 3) := by kernel_rfl
attribute [go_sem] und23
theorem appT23 : appT Try.prog 23 = true := by kernel_rfl
attribute [go_sem] appT23
theorem agg25 : aggOf Try.prog 25 = some (some 2) := by kernel_rfl
attribute [go_sem] agg25
theorem zero25 : zeroOf Try.prog 25 = some [.int .i64 0, .slice none 0 0] := by kernel_rfl
attribute [go_sem] zero25
theorem fld25_0 : fieldOf Try.prog 25 0 = some (0, none) := by kernel_rfl
attribute [go_sem] fld25_0
theorem fld25_1 : fieldOf Try.prog 25 1 = some (1, none) := by kernel_rfl
attribute [go_sem] fld25_1
theorem places25 : placesOf Try.prog 25 = some [(0, 1), (1, 1)] := by kernel_rfl
attribute [go_sem] places25
theorem agg29 : aggOf Try.prog 29 = some none := by kernel_rfl
attribute [go_sem] agg29
theorem zero29 : zeroOf Try.prog 29 = some [.slice none 0 0] := by kernel_rfl
attribute [go_sem] zero29
theorem elem29 : elemOf' Try.prog 29 = some (3, 32, [.string ByteArray.empty, .int .i64 0, .int .i64 0]) := by kernel_rfl
attribute [go_sem] elem29
theorem und29 : Try.prog.underlying 29 = some (.slice 55) := by kernel_rfl
attribute [go_sem] und29
theorem appT29 : appT Try.prog 29 = true := by kernel_rfl
attribute [go_sem] appT29
theorem agg31 : aggOf Try.prog 31 = some (some 2) := by kernel_rfl
attribute [go_sem] agg31
theorem zero31 : zeroOf Try.prog 31 = some [.int .i64 0, .slice none 0 0] := by kernel_rfl
attribute [go_sem] zero31
theorem fld31_0 : fieldOf Try.prog 31 0 = some (0, none) := by kernel_rfl
attribute [go_sem] fld31_0
theorem fld31_1 : fieldOf Try.prog 31 1 = some (1, none) := by kernel_rfl
attribute [go_sem] fld31_1
theorem places31 : placesOf Try.prog 31 = some [(0, 1), (1, 1)] := by kernel_rfl
attribute [go_sem] places31
theorem agg40 : aggOf Try.prog 40 = some none := by kernel_rfl
attribute [go_sem] agg40
theorem zero40 : zeroOf Try.prog 40 = some [.slice none 0 0] := by kernel_rfl
attribute [go_sem] zero40
theorem elem40 : elemOf' Try.prog 40 = some (2, 32, [.int .i64 0, .slice none 0 0]) := by kernel_rfl
attribute [go_sem] elem40
theorem und40 : Try.prog.underlying 40 = some (.slice 25) := by kernel_rfl
attribute [go_sem] und40
theorem appT40 : appT Try.prog 40 = true := by kernel_rfl
attribute [go_sem] appT40
theorem agg42 : aggOf Try.prog 42 = some (some 3) := by kernel_rfl
attribute [go_sem] agg42
theorem zero42 : zeroOf Try.prog 42 = some [.int .i64 0, .slice none 0 0, .slice none 0 0] := by kernel_rfl
attribute [go_sem] zero42
theorem fld42_0 : fieldOf Try.prog 42 0 = some (0, none) := by kernel_rfl
attribute [go_sem] fld42_0
theorem fld42_1 : fieldOf Try.prog 42 1 = some (1, none) := by kernel_rfl
attribute [go_sem] fld42_1
theorem fld42_2 : fieldOf Try.prog 42 2 = some (2, none) := by kernel_rfl
attribute [go_sem] fld42_2
theorem places42 : placesOf Try.prog 42 = some [(0, 1), (1, 1), (2, 1)] := by kernel_rfl
attribute [go_sem] places42
theorem agg45 : aggOf Try.prog 45 = some none := by kernel_rfl
attribute [go_sem] agg45
theorem zero45 : zeroOf Try.prog 45 = some [.slice none 0 0] := by kernel_rfl
attribute [go_sem] zero45
theorem elem45 : elemOf' Try.prog 45 = some (2, 32, [.int .i64 0, .slice none 0 0]) := by kernel_rfl
attribute [go_sem] elem45
theorem und45 : Try.prog.underlying 45 = some (.slice 31) := by kernel_rfl
attribute [go_sem] und45
theorem appT45 : appT Try.prog 45 = true := by kernel_rfl
attribute [go_sem] appT45
theorem agg47 : aggOf Try.prog 47 = some (some 3) := by kernel_rfl
attribute [go_sem] agg47
theorem zero47 : zeroOf Try.prog 47 = some [.int .i64 0, .slice none 0 0, .slice none 0 0] := by kernel_rfl
attribute [go_sem] zero47
theorem fld47_0 : fieldOf Try.prog 47 0 = some (0, none) := by kernel_rfl
attribute [go_sem] fld47_0
theorem fld47_1 : fieldOf Try.prog 47 1 = some (1, none) := by kernel_rfl
attribute [go_sem] fld47_1
theorem fld47_2 : fieldOf Try.prog 47 2 = some (2, none) := by kernel_rfl
attribute [go_sem] fld47_2
theorem places47 : placesOf Try.prog 47 = some [(0, 1), (1, 1), (2, 1)] := by kernel_rfl
attribute [go_sem] places47
theorem agg53 : aggOf Try.prog 53 = some (some 3) := by kernel_rfl
attribute [go_sem] agg53
theorem zero53 : zeroOf Try.prog 53 = some [.string ByteArray.empty, .int .i64 0, .int .i64 0] := by kernel_rfl
attribute [go_sem] zero53
theorem fld53_0 : fieldOf Try.prog 53 0 = some (0, none) := by kernel_rfl
attribute [go_sem] fld53_0
theorem fld53_1 : fieldOf Try.prog 53 1 = some (1, none) := by kernel_rfl
attribute [go_sem] fld53_1
theorem fld53_2 : fieldOf Try.prog 53 2 = some (2, none) := by kernel_rfl
attribute [go_sem] fld53_2
theorem places53 : placesOf Try.prog 53 = some [(0, 1), (1, 1), (2, 1)] := by kernel_rfl
attribute [go_sem] places53
theorem agg55 : aggOf Try.prog 55 = some (some 3) := by kernel_rfl
attribute [go_sem] agg55
theorem zero55 : zeroOf Try.prog 55 = some [.string ByteArray.empty, .int .i64 0, .int .i64 0] := by kernel_rfl
attribute [go_sem] zero55
theorem fld55_0 : fieldOf Try.prog 55 0 = some (0, none) := by kernel_rfl
attribute [go_sem] fld55_0
theorem fld55_1 : fieldOf Try.prog 55 1 = some (1, none) := by kernel_rfl
attribute [go_sem] fld55_1
theorem fld55_2 : fieldOf Try.prog 55 2 = some (2, none) := by kernel_rfl
attribute [go_sem] fld55_2
theorem places55 : placesOf Try.prog 55 = some [(0, 1), (1, 1), (2, 1)] := by kernel_rfl
attribute [go_sem] places55
theorem agg63 : aggOf Try.prog 63 = some none := by kernel_rfl
attribute [go_sem] agg63
theorem zero63 : zeroOf Try.prog 63 = some [.slice none 0 0] := by kernel_rfl
attribute [go_sem] zero63
theorem elem63 : elemOf' Try.prog 63 = some (1, 1, [.bool false]) := by kernel_rfl
attribute [go_sem] elem63
theorem und63 : Try.prog.underlying 63 = some (.slice 4) := by kernel_rfl
attribute [go_sem] und63
theorem appT63 : appT Try.prog 63 = true := by kernel_rfl
attribute [go_sem] appT63
theorem agg70 : aggOf Try.prog 70 = some none := by kernel_rfl
attribute [go_sem] agg70
theorem zero70 : zeroOf Try.prog 70 = some [.slice none 0 0] := by kernel_rfl
attribute [go_sem] zero70
theorem elem70 : elemOf' Try.prog 70 = some (1, 1, [.int .u8 0]) := by kernel_rfl
attribute [go_sem] elem70
theorem und70 : Try.prog.underlying 70 = some (.slice 5) := by kernel_rfl
attribute [go_sem] und70
theorem appT70 : appT Try.prog 70 = true := by kernel_rfl
attribute [go_sem] appT70
theorem agg75 : aggOf Try.prog 75 = some none := by kernel_rfl
attribute [go_sem] agg75
theorem zero75 : zeroOf Try.prog 75 = some [.slice none 0 0] := by kernel_rfl
attribute [go_sem] zero75
theorem elem75 : elemOf' Try.prog 75 = some (1, 24, [.slice none 0 0]) := by kernel_rfl
attribute [go_sem] elem75
theorem und75 : Try.prog.underlying 75 = some (.slice 23) := by kernel_rfl
attribute [go_sem] und75
theorem appT75 : appT Try.prog 75 = true := by kernel_rfl
attribute [go_sem] appT75
theorem agg79 : aggOf Try.prog 79 = some none := by kernel_rfl
attribute [go_sem] agg79
theorem zero79 : zeroOf Try.prog 79 = some [.int .u64 0] := by kernel_rfl
attribute [go_sem] zero79
theorem und79 : Try.prog.underlying 79 = some (.int .u64) := by kernel_rfl
attribute [go_sem] und79
theorem agg90 : aggOf Try.prog 90 = some none := by kernel_rfl
attribute [go_sem] agg90
theorem zero90 : zeroOf Try.prog 90 = some [.int .u32 0] := by kernel_rfl
attribute [go_sem] zero90
theorem und90 : Try.prog.underlying 90 = some (.int .u32) := by kernel_rfl
attribute [go_sem] und90
theorem agg92 : aggOf Try.prog 92 = some none := by kernel_rfl
attribute [go_sem] agg92
theorem zero92 : zeroOf Try.prog 92 = some [.int .u64 0] := by kernel_rfl
attribute [go_sem] zero92
theorem und92 : Try.prog.underlying 92 = some (.int .u64) := by kernel_rfl
attribute [go_sem] und92
end Go.Proofs.Ytobdhbgkmdmpmaa.A

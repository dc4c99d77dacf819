/- WHAT THE TYPES OF THIS TRANSLATION COME TO. Conditions: none. (Printed by a program of this session.) -/
import Derived.Test.YtobdhbgkmdmpmacA39
import Derived.Test.YtobdhbgkmdmpmacProg
namespace Go.Proofs.Ytobdhbgkmdmpmac.A
open Go
theorem agg2 : aggOf Try.prog 2 = some none := by kernel_rfl
attribute [go_sem] agg2
theorem zero2 : zeroOf Try.prog 2 = some [.int .i64 0] := by kernel_rfl
attribute [go_sem] zero2
theorem und2 : Try.prog.underlying 2 = some (.int .i64) := by kernel_rfl
attribute [go_sem] und2
theorem agg3 : aggOf Try.prog 3 = some none := by kernel_rfl
attribute [go_sem] agg3
theorem zero3 : zeroOf Try.prog 3 = some [.int .i64 0] := by kernel_rfl
attribute [go_sem] zero3
theorem und3 : Try.prog.underlying 3 = some (.int .i64) := by kernel_rfl
attribute [go_sem] und3
theorem agg4 : aggOf Try.prog 4 = some none := by kernel_rfl
attribute [go_sem] agg4
theorem zero4 : zeroOf Try.prog 4 = some [.bool false] := by kernel_rfl
attribute [go_sem] zero4
theorem und4 : Try.prog.underlying 4 = some .bool := by kernel_rfl
attribute [go_sem] und4
theorem agg5 : aggOf Try.prog 5 = some none := by kernel_rfl
attribute [go_sem] agg5
theorem zero5 : zeroOf Try.prog 5 = some [.int .u8 0] := by kernel_rfl
attribute [go_sem] zero5
theorem und5 : Try.prog.underlying 5 = some (.int .u8) := by kernel_rfl
attribute [go_sem] und5
theorem agg9 : aggOf Try.prog 9 = some none := by kernel_rfl
attribute [go_sem] agg9
theorem zero9 : zeroOf Try.prog 9 = some [.string ByteArray.empty] := by kernel_rfl
attribute [go_sem] zero9
theorem und9 : Try.prog.underlying 9 = some .string := by kernel_rfl
attribute [go_sem] und9
theorem appT9 : appT Try.prog 9 = true := by kernel_rfl
attribute [go_sem] appT9
theorem agg12 : aggOf Try.prog 12 = some none := by kernel_rfl
attribute [go_sem] agg12
theorem zero12 : zeroOf Try.prog 12 = some [.int .u64 0] := by kernel_rfl
attribute [go_sem] zero12
theorem und12 : Try.prog.underlying 12 = some (.int .u64) := by kernel_rfl
attribute [go_sem] und12
theorem agg21 : aggOf Try.prog 21 = some none := by kernel_rfl
attribute [go_sem] agg21
theorem zero21 : zeroOf Try.prog 21 = some [.int .i32 0] := by kernel_rfl
attribute [go_sem] zero21
theorem und21 : Try.prog.underlying 21 = some (.int .i32) := by kernel_rfl
attribute [go_sem] und21
theorem agg22 : aggOf Try.prog 22 = some none := by kernel_rfl
attribute [go_sem] agg22
theorem zero22 : zeroOf Try.prog 22 = some [.slice none 0 0] := by kernel_rfl
attribute [go_sem] zero22
theorem elem22 : elemOf' Try.prog 22 = some (3, 32, [.string ByteArray.empty, .int .i64 0, .int .i64 0]) := by kernel_rfl
attribute [go_sem] elem22
theorem und22 : Try.prog.underlying 22 = some (.slice 48) := by kernel_rfl
attribute [go_sem] und22
theorem appT22 : appT Try.prog 22 = true := by kernel_rfl
attribute [go_sem] appT22
theorem agg23 : aggOf Try.prog 23 = some none := by kernel_rfl
attribute [go_sem] agg23
theorem zero23 : zeroOf Try.prog 23 = some [.slice none 0 0] := by kernel_rfl
attribute [go_sem] zero23
theorem elem23 : elemOf' Try.prog 23 = some (2, 32, [.int .i64 0, .slice none 0 0]) := by kernel_rfl
attribute [go_sem] elem23
theorem und23 : Try.prog.underlying 23 = some (.slice 66) := by kernel_rfl
attribute [go_sem] und23
theorem appT23 : appT Try.prog 23 = true := by kernel_rfl
attribute [go_sem] appT23
theorem agg24 : aggOf Try.prog 24 = some none := by kernel_rfl
attribute [go_sem] agg24
theorem zero24 : zeroOf Try.prog 24 = some [.slice none 0 0] := by kernel_rfl
attribute [go_sem] zero24
theorem elem24 : elemOf' Try.prog 24 = some (1, 8, [.int .i64 0]) := by kernel_rfl
attribute [go_sem] elem24
theorem und24 : Try.prog.underlying 24 = some (.slice 3) := by kernel_rfl
attribute [go_sem] und24
theorem appT24 : appT Try.prog 24 = true := by kernel_rfl
attribute [go_sem] appT24
theorem agg26 : aggOf Try.prog 26 = some (some 3) := by kernel_rfl
attribute [go_sem] agg26
theorem zero26 : zeroOf Try.prog 26 = some [.int .i64 0, .slice none 0 0, .slice none 0 0] := by kernel_rfl
attribute [go_sem] zero26
theorem fld26_0 : fieldOf Try.prog 26 0 = some (0, none) := by kernel_rfl
attribute [go_sem] fld26_0
theorem fld26_1 : fieldOf Try.prog 26 1 = some (1, none) := by kernel_rfl
attribute [go_sem] fld26_1
theorem fld26_2 : fieldOf Try.prog 26 2 = some (2, none) := by kernel_rfl
attribute [go_sem] fld26_2
theorem places26 : placesOf Try.prog 26 = some [(0, 1), (1, 1), (2, 1)] := by kernel_rfl
attribute [go_sem] places26
theorem agg30 : aggOf Try.prog 30 = some none := by kernel_rfl
attribute [go_sem] agg30
theorem zero30 : zeroOf Try.prog 30 = some [.slice none 0 0] := by kernel_rfl
attribute [go_sem] zero30
theorem elem30 : elemOf' Try.prog 30 = some (3, 32, [.string ByteArray.empty, .int .i64 0, .int .i64 0]) := by kernel_rfl
attribute [go_sem] elem30
theorem und30 : Try.prog.underlying 30 = some (.slice 51) := by kernel_rfl
attribute [go_sem] und30
theorem appT30 : appT Try.prog 30 = true := by kernel_rfl
attribute [go_sem] appT30
theorem agg32 : aggOf Try.prog 32 = some none := by kernel_rfl
attribute [go_sem] agg32
theorem zero32 : zeroOf Try.prog 32 = some [.slice none 0 0] := by kernel_rfl
attribute [go_sem] zero32
theorem elem32 : elemOf' Try.prog 32 = some (2, 32, [.int .i64 0, .slice none 0 0]) := by kernel_rfl
attribute [go_sem] elem32
theorem und32 : Try.prog.underlying 32 = some (.slice 59) := by kernel_rfl
attribute [go_sem] und32
theorem appT32 : appT Try.prog 32 = true := by kernel_rfl
attribute [go_sem] appT32
theorem agg34 : aggOf Try.prog 34 = some (some 3) := by kernel_rfl
attribute [go_sem] agg34
theorem zero34 : zeroOf Try.prog 34 = some [.int .i64 0, .slice none 0 0, .slice none 0 0] := by kernel_rfl
attribute [go_sem] zero34
theorem fld34_0 : fieldOf Try.prog 34 0 = some (0, none) := by kernel_rfl
attribute [go_sem] fld34_0
theorem fld34_1 : fieldOf Try.prog 34 1 = some (1, none) := by kernel_rfl
attribute [go_sem] fld34_1
theorem fld34_2 : fieldOf Try.prog 34 2 = some (2, none) := by kernel_rfl
attribute [go_sem] fld34_2
theorem places34 : placesOf Try.prog 34 = some [(0, 1), (1, 1), (2, 1)] := by kernel_rfl
attribute [go_sem] places34
theorem agg48 : aggOf Try.prog 48 = some (some 3) := by kernel_rfl
attribute [go_sem] agg48
theorem zero48 : zeroOf Try.prog 48 = some [.string ByteArray.empty, .int .i64 0, .int .i64 0] := by kernel_rfl
attribute [go_sem] zero48
theorem fld48_0 : fieldOf Try.prog 48 0 = some (0, none) := by kernel_rfl
attribute [go_sem] fld48_0
theorem fld48_1 : fieldOf Try.prog 48 1 = some (1, none) := by kernel_rfl
attribute [go_sem] fld48_1
theorem fld48_2 : fieldOf Try.prog 48 2 = some (2, none) := by kernel_rfl
attribute [go_sem] fld48_2
theorem places48 : placesOf Try.prog 48 = some [(0, 1), (1, 1), (2, 1)] := by kernel_rfl
attribute [go_sem] places48
theorem agg51 : aggOf Try.prog 51 = some (some 3) := by kernel_rfl
attribute [go_sem] agg51
theorem zero51 : zeroOf Try.prog 51 = some [.string ByteArray.empty, .int .i64 0, .int .i64 0] := by kernel_rfl
attribute [go_sem] zero51
theorem fld51_0 : fieldOf Try.prog 51 0 = some (0, none) := by kernel_rfl
attribute [go_sem] fld51_0
theorem fld51_1 : fieldOf Try.prog 51 1 = some (1, none) := by kernel_rfl
attribute [go_sem] fld51_1
theorem fld51_2 : fieldOf Try.prog 51 2 = some (2, none) := by kernel_rfl
attribute [go_sem] fld51_2
theorem places51 : placesOf Try.prog 51 = some [(0, 1), (1, 1), (2, 1)] := by kernel_rfl
attribute [go_sem] places51
theorem agg59 : aggOf Try.prog 59 = some (some 2) := by kernel_rfl
attribute [go_sem] agg59
theorem zero59 : zeroOf Try.prog 59 = some [.int .i64 0, .slice none 0 0] := by kernel_rfl
attribute [go_sem] zero59
theorem fld59_0 : fieldOf Try.prog 59 0 = some (0, none) := by kernel_rfl
attribute [go_sem] fld59_0
theorem fld59_1 : fieldOf Try.prog 59 1 = some (1, none) := by kernel_rfl
attribute [go_sem] fld59_1
theorem places59 : placesOf Try.prog 59 = some [(0, 1), (1, 1)] := by kernel_rfl
attribute [go_sem] places59
theorem agg66 : aggOf Try.prog 66 = some (some 2) := by kernel_rfl
attribute [go_sem] agg66
theorem zero66 : zeroOf Try.prog 66 = some [.int .i64 0, .slice none 0 0] := by kernel_rfl
attribute [go_sem] zero66
theorem fld66_0 : fieldOf Try.prog 66 0 = some (0, none) := by kernel_rfl
attribute [go_sem] fld66_0
theorem fld66_1 : fieldOf Try.prog 66 1 = some (1, none) := by kernel_rfl
attribute [go_sem] fld66_1
theorem places66 : placesOf Try.prog 66 = some [(0, 1), (1, 1)] := by kernel_rfl
attribute [go_sem] places66
theorem agg68 : aggOf Try.prog 68 = some none := by kernel_rfl
attribute [go_sem] agg68
theorem zero68 : zeroOf Try.prog 68 = some [.slice none 0 0] := by kernel_rfl
attribute [go_sem] zero68
theorem elem68 : elemOf' Try.prog 68 = some (1, 1, [.bool false]) := by kernel_rfl
attribute [go_sem] elem68
theorem und68 : Try.prog.underlying 68 = some (.slice 4) := by kernel_rfl
attribute [go_sem] und68
theorem appT68 : appT Try.prog 68 = true := by kernel_rfl
attribute [go_sem] appT68
theorem agg76 : aggOf Try.prog 76 = some none := by kernel_rfl
attribute [go_sem] agg76
theorem zero76 : zeroOf Try.prog 76 = some [.slice none 0 0] := by kernel_rfl
attribute [go_sem] zero76
theorem elem76 : elemOf' Try.prog 76 = some (1, 1, [.int .u8 0]) := by kernel_rfl
attribute [go_sem] elem76
theorem und76 : Try.prog.underlying 76 = some (.slice 5) := by kernel_rfl
attribute [go_sem] und76
theorem appT76 : appT Try.prog 76 = true := by kernel_rfl
attribute [go_sem] appT76
theorem agg82 : aggOf Try.prog 82 = some none := by kernel_rfl
attribute [go_sem] agg82
theorem zero82 : zeroOf Try.prog 82 = some [.slice none 0 0] := by kernel_rfl
attribute [go_sem] zero82
theorem elem82 : elemOf' Try.prog 82 = some (1, 24, [.slice none 0 0]) := by kernel_rfl
attribute [go_sem] elem82
theorem und82 : Try.prog.underlying 82 = some (.slice 24) := by kernel_rfl
attribute [go_sem] und82
theorem appT82 : appT Try.prog 82 = true := by kernel_rfl
attribute [go_sem] appT82
theorem agg86 : aggOf Try.prog 86 = some none := by kernel_rfl
attribute [go_sem] agg86
theorem zero86 : zeroOf Try.prog 86 = some [.int .u64 0] := by kernel_rfl
attribute [go_sem] zero86
theorem und86 : Try.prog.underlying 86 = some (.int .u64) := by kernel_rfl
attribute [go_sem] und86
theorem agg97 : aggOf Try.prog 97 = some none := by kernel_rfl
attribute [go_sem] agg97
theorem zero97 : zeroOf Try.prog 97 = some [.int .u32 0] := by kernel_rfl
attribute [go_sem] zero97
theorem und97 : Try.prog.underlying 97 = some (.int .u32) := by kernel_rfl
attribute [go_sem] und97
theorem agg99 : aggOf Try.prog 99 = some none := by kernel_rfl
attribute [go_sem] agg99
theorem zero99 : zeroOf Try.prog 99 = some [.int .u64 0] := by kernel_rfl
attribute [go_sem] zero99
theorem und99 : Try.prog.underlying 99 = some (.int .u64) := by kernel_rfl
attribute [go_sem] und99
end Go.Proofs.Ytobdhbgkmdmpmac.A

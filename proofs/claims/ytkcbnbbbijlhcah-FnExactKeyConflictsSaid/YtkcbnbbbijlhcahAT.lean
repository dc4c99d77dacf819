/- WHAT THE TYPES OF THIS TRANSLATION COME TO. Conditions: none. (Printed by a program of this session.) -/
import Derived.Test.YtkcbnbbbijlhcahA39
import Derived.Test.YtkcbnbbbijlhcahProg
namespace Go.Proofs.Ytkcbnbbbijlhcah.A
open Go
theorem agg2 : aggOf Try.prog 2 = some none := by kernel_rfl
attribute [go_sem] agg2
theorem zero2 : zeroOf Try.prog 2 = some [.int .i64 0] := by kernel_rfl
attribute [go_sem] zero2
theorem und2 : Try.prog.underlying 2 = some (.int .i64) := by kernel_rfl
attribute [go_sem] und2
theorem agg3 : aggOf Try.prog 3 = some none := by kernel_rfl
attribute [go_sem] agg3
theorem zero3 : zeroOf Try.prog 3 = some [.int .i64 0] := by kernel_rfl
attribute [go_sem] zero3
theorem und3 : Try.prog.underlying 3 = some (.int .i64) := by kernel_rfl
attribute [go_sem] und3
theorem agg4 : aggOf Try.prog 4 = some none := by kernel_rfl
attribute [go_sem] agg4
theorem zero4 : zeroOf Try.prog 4 = some [.bool false] := by kernel_rfl
attribute [go_sem] zero4
theorem und4 : Try.prog.underlying 4 = some .bool := by kernel_rfl
attribute [go_sem] und4
theorem agg5 : aggOf Try.prog 5 = some none := by kernel_rfl
attribute [go_sem] agg5
theorem zero5 : zeroOf Try.prog 5 = some [.int .u8 0] := by kernel_rfl
attribute [go_sem] zero5
theorem und5 : Try.prog.underlying 5 = some (.int .u8) := by kernel_rfl
attribute [go_sem] und5
theorem agg9 : aggOf Try.prog 9 = some none := by kernel_rfl
attribute [go_sem] agg9
theorem zero9 : zeroOf Try.prog 9 = some [.string ByteArray.empty] := by kernel_rfl
attribute [go_sem] zero9
theorem und9 : Try.prog.underlying 9 = some .string := by kernel_rfl
attribute [go_sem] und9
theorem appT9 : appT Try.prog 9 = true := by kernel_rfl
attribute [go_sem] appT9
theorem agg12 : aggOf Try.prog 12 = some none := by kernel_rfl
attribute [go_sem] agg12
theorem zero12 : zeroOf Try.prog 12 = some [.int .u64 0] := by kernel_rfl
attribute [go_sem] zero12
theorem und12 : Try.prog.underlying 12 = some (.int .u64) := by kernel_rfl
attribute [go_sem] und12
theorem agg21 : aggOf Try.prog 21 = some none := by kernel_rfl
attribute [go_sem] agg21
theorem zero21 : zeroOf Try.prog 21 = some [.int .i32 0] := by kernel_rfl
attribute [go_sem] zero21
theorem und21 : Try.prog.underlying 21 = some (.int .i32) := by kernel_rfl
attribute [go_sem] und21
theorem agg22 : aggOf Try.prog 22 = some none := by kernel_rfl
attribute [go_sem] agg22
theorem zero22 : zeroOf Try.prog 22 = some [.slice none 0 0] := by kernel_rfl
attribute [go_sem] zero22
theorem elem22 : elemOf' Try.prog 22 = some (3, 32, [.string ByteArray.empty, .int .i64 0, .int .i64 0]) := by kernel_rfl
attribute [go_sem] elem22
theorem und22 : Try.prog.underlying 22 = some (.slice 59) := by kernel_rfl
attribute [go_sem] und22
theorem appT22 : appT Try.prog 22 = true := by kernel_rfl
attribute [go_sem] appT22
theorem agg23 : aggOf Try.prog 23 = some none := by kernel_rfl
attribute [go_sem] agg23
theorem zero23 : zeroOf Try.prog 23 = some [.slice none 0 0] := by kernel_rfl
attribute [go_sem] zero23
theorem elem23 : elemOf' Try.prog 23 = some (2, 32, [.int .i64 0, .slice none 0 0]) := by kernel_rfl
attribute [go_sem] elem23
theorem und23 : Try.prog.underlying 23 = some (.slice 61) := by kernel_rfl
attribute [go_sem] und23
theorem appT23 : appT Try.prog 23 = true := by kernel_rfl
attribute [go_sem] appT23
theorem agg25 : aggOf Try.prog 25 = some (some 2) := by kernel_rfl
attribute [go_sem] agg25
theorem zero25 : zeroOf Try.prog 25 = some [.slice none 0 0, .slice none 0 0] := by kernel_rfl
attribute [go_sem] zero25
theorem fld25_0 : fieldOf Try.prog 25 0 = some (0, none) := by kernel_rfl
attribute [go_sem] fld25_0
theorem fld25_1 : fieldOf Try.prog 25 1 = some (1, none) := by kernel_rfl
attribute [go_sem] fld25_1
theorem places25 : placesOf Try.prog 25 = some [(0, 1), (1, 1)] := by kernel_rfl
attribute [go_sem] places25
theorem agg27 : aggOf Try.prog 27 = some none := by kernel_rfl
attribute [go_sem] agg27
theorem zero27 : zeroOf Try.prog 27 = some [.slice none 0 0] := by kernel_rfl
attribute [go_sem] zero27
theorem elem27 : elemOf' Try.prog 27 = some (2, 16, [.int .i64 0, .int .i64 0]) := by kernel_rfl
attribute [go_sem] elem27
theorem und27 : Try.prog.underlying 27 = some (.slice 47) := by kernel_rfl
attribute [go_sem] und27
theorem appT27 : appT Try.prog 27 = true := by kernel_rfl
attribute [go_sem] appT27
theorem agg29 : aggOf Try.prog 29 = some none := by kernel_rfl
attribute [go_sem] agg29
theorem zero29 : zeroOf Try.prog 29 = some [.slice none 0 0] := by kernel_rfl
attribute [go_sem] zero29
theorem elem29 : elemOf' Try.prog 29 = some (3, 32, [.string ByteArray.empty, .int .i64 0, .int .i64 0]) := by kernel_rfl
attribute [go_sem] elem29
theorem und29 : Try.prog.underlying 29 = some (.slice 67) := by kernel_rfl
attribute [go_sem] und29
theorem appT29 : appT Try.prog 29 = true := by kernel_rfl
attribute [go_sem] appT29
theorem agg30 : aggOf Try.prog 30 = some none := by kernel_rfl
attribute [go_sem] agg30
theorem zero30 : zeroOf Try.prog 30 = some [.slice none 0 0] := by kernel_rfl
attribute [go_sem] zero30
theorem elem30 : elemOf' Try.prog 30 = some (2, 32, [.int .i64 0, .slice none 0 0]) := by kernel_rfl
attribute [go_sem] elem30
theorem und30 : Try.prog.underlying 30 = some (.slice 45) := by kernel_rfl
attribute [go_sem] und30
theorem appT30 : appT Try.prog 30 = true := by kernel_rfl
attribute [go_sem] appT30
theorem agg32 : aggOf Try.prog 32 = some (some 2) := by kernel_rfl
attribute [go_sem] agg32
theorem zero32 : zeroOf Try.prog 32 = some [.slice none 0 0, .slice none 0 0] := by kernel_rfl
attribute [go_sem] zero32
theorem fld32_0 : fieldOf Try.prog 32 0 = some (0, none) := by kernel_rfl
attribute [go_sem] fld32_0
theorem fld32_1 : fieldOf Try.prog 32 1 = some (1, none) := by kernel_rfl
attribute [go_sem] fld32_1
theorem places32 : placesOf Try.prog 32 = some [(0, 1), (1, 1)] := by kernel_rfl
attribute [go_sem] places32
theorem agg43 : aggOf Try.prog 43 = some none := by kernel_rfl
attribute [go_sem] agg43
theorem zero43 : zeroOf Try.prog 43 = some [.slice none 0 0] := by kernel_rfl
attribute [go_sem] zero43
theorem elem43 : elemOf' Try.prog 43 = some (1, 8, [.int .i64 0]) := by kernel_rfl
attribute [go_sem] elem43
theorem und43 : Try.prog.underlying 43 = some (.slice 3) := by kernel_rfl
attribute [go_sem] und43
theorem appT43 : appT Try.prog 43 = true := by kernel_rfl
attribute [go_sem] appT43
theorem agg45 : aggOf Try.prog 45 = some (some 2) := by kernel_rfl
attribute [go_sem] agg45
theorem zero45 : zeroOf Try.prog 45 = some [.int .i64 0, .slice none 0 0] := by kernel_rfl
attribute [go_sem] zero45
theorem fld45_0 : fieldOf Try.prog 45 0 = some (0, none) := by kernel_rfl
attribute [go_sem] fld45_0
theorem fld45_1 : fieldOf Try.prog 45 1 = some (1, none) := by kernel_rfl
attribute [go_sem] fld45_1
theorem places45 : placesOf Try.prog 45 = some [(0, 1), (1, 1)] := by kernel_rfl
attribute [go_sem] places45
theorem agg47 : aggOf Try.prog 47 = some (some 2) := by kernel_rfl
attribute [go_sem] agg47
theorem zero47 : zeroOf Try.prog 47 = some [.int .i64 0, .int .i64 0] := by kernel_rfl
attribute [go_sem] zero47
theorem fld47_0 : fieldOf Try.prog 47 0 = some (0, none) := by kernel_rfl
attribute [go_sem] fld47_0
theorem fld47_1 : fieldOf Try.prog 47 1 = some (1, none) := by kernel_rfl
attribute [go_sem] fld47_1
theorem places47 : placesOf Try.prog 47 = some [(0, 1), (1, 1)] := by kernel_rfl
attribute [go_sem] places47
theorem agg59 : aggOf Try.prog 59 = some (some 3) := by kernel_rfl
attribute [go_sem] agg59
theorem zero59 : zeroOf Try.prog 59 = some [.string ByteArray.empty, .int .i64 0, .int .i64 0] := by kernel_rfl
attribute [go_sem] zero59
theorem fld59_0 : fieldOf Try.prog 59 0 = some (0, none) := by kernel_rfl
attribute [go_sem] fld59_0
theorem fld59_1 : fieldOf Try.prog 59 1 = some (1, none) := by kernel_rfl
attribute [go_sem] fld59_1
theorem fld59_2 : fieldOf Try.prog 59 2 = some (2, none) := by kernel_rfl
attribute [go_sem] fld59_2
theorem places59 : placesOf Try.prog 59 = some [(0, 1), (1, 1), (2, 1)] := by kernel_rfl
attribute [go_sem] places59
theorem agg61 : aggOf Try.prog 61 = some (some 2) := by kernel_rfl
attribute [go_sem] agg61
theorem zero61 : zeroOf Try.prog 61 = some [.int .i64 0, .slice none 0 0] := by kernel_rfl
attribute [go_sem] zero61
theorem fld61_0 : fieldOf Try.prog 61 0 = some (0, none) := by kernel_rfl
attribute [go_sem] fld61_0
theorem fld61_1 : fieldOf Try.prog 61 1 = some (1, none) := by kernel_rfl
attribute [go_sem] fld61_1
theorem places61 : placesOf Try.prog 61 = some [(0, 1), (1, 1)] := by kernel_rfl
attribute [go_sem] places61
theorem agg67 : aggOf Try.prog 67 = some (some 3) := by kernel_rfl
attribute [go_sem] agg67
theorem zero67 : zeroOf Try.prog 67 = some [.string ByteArray.empty, .int .i64 0, .int .i64 0] := by kernel_rfl
attribute [go_sem] zero67
theorem fld67_0 : fieldOf Try.prog 67 0 = some (0, none) := by kernel_rfl
attribute [go_sem] fld67_0
theorem fld67_1 : fieldOf Try.prog 67 1 = some (1, none) := by kernel_rfl
attribute [go_sem] fld67_1
theorem fld67_2 : fieldOf Try.prog 67 2 = some (2, none) := by kernel_rfl
attribute [go_sem] fld67_2
theorem places67 : placesOf Try.prog 67 = some [(0, 1), (1, 1), (2, 1)] := by kernel_rfl
attribute [go_sem] places67
theorem agg80 : aggOf Try.prog 80 = some none := by kernel_rfl
attribute [go_sem] agg80
theorem zero80 : zeroOf Try.prog 80 = some [.slice none 0 0] := by kernel_rfl
attribute [go_sem] zero80
theorem elem80 : elemOf' Try.prog 80 = some (1, 1, [.int .u8 0]) := by kernel_rfl
attribute [go_sem] elem80
theorem und80 : Try.prog.underlying 80 = some (.slice 5) := by kernel_rfl
attribute [go_sem] und80
theorem appT80 : appT Try.prog 80 = true := by kernel_rfl
attribute [go_sem] appT80
theorem agg91 : aggOf Try.prog 91 = some none := by kernel_rfl
attribute [go_sem] agg91
theorem zero91 : zeroOf Try.prog 91 = some [.int .u32 0] := by kernel_rfl
attribute [go_sem] zero91
theorem und91 : Try.prog.underlying 91 = some (.int .u32) := by kernel_rfl
attribute [go_sem] und91
end Go.Proofs.Ytkcbnbbbijlhcah.A

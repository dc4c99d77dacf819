/- WHAT THE TYPES OF THIS TRANSLATION COME TO. Conditions: none. (Printed by a program of this session.) -/
import Derived.Test.YtbalifgacjmbpaaA39
import Derived.Test.YtbalifgacjmbpaaProg
namespace Go.Proofs.Ytbalifgacjmbpaa.A
open Go
theorem agg2 : aggOf Try.prog 2 = some none := by kernel_rfl
attribute [go_sem] agg2
theorem zero2 : zeroOf Try.prog 2 = some [.int .i64 0] := by kernel_rfl
attribute [go_sem] zero2
theorem und2 : Try.prog.underlying 2 = some (.int .i64) := by kernel_rfl
attribute [go_sem] und2
theorem agg3 : aggOf Try.prog 3 = some none := by kernel_rfl
attribute [go_sem] agg3
theorem zero3 : zeroOf Try.prog 3 = some [.int .i64 0] := by kernel_rfl
attribute [go_sem] zero3
theorem und3 : Try.prog.underlying 3 = some (.int .i64) := by kernel_rfl
attribute [go_sem] und3
theorem agg4 : aggOf Try.prog 4 = some none := by kernel_rfl
attribute [go_sem] agg4
theorem zero4 : zeroOf Try.prog 4 = some [.bool false] := by kernel_rfl
attribute [go_sem] zero4
theorem und4 : Try.prog.underlying 4 = some .bool := by kernel_rfl
attribute [go_sem] und4
theorem agg5 : aggOf Try.prog 5 = some none := by kernel_rfl
attribute [go_sem] agg5
theorem zero5 : zeroOf Try.prog 5 = some [.int .u8 0] := by kernel_rfl
attribute [go_sem] zero5
theorem und5 : Try.prog.underlying 5 = some (.int .u8) := by kernel_rfl
attribute [go_sem] und5
theorem agg9 : aggOf Try.prog 9 = some none := by kernel_rfl
attribute [go_sem] agg9
theorem zero9 : zeroOf Try.prog 9 = some [.string ByteArray.empty] := by kernel_rfl
attribute [go_sem] zero9
theorem und9 : Try.prog.underlying 9 = some .string := by kernel_rfl
attribute [go_sem] und9
theorem appT9 : appT Try.prog 9 = true := by kernel_rfl
attribute [go_sem] appT9
theorem agg12 : aggOf Try.prog 12 = some none := by kernel_rfl
attribute [go_sem] agg12
theorem zero12 : zeroOf Try.prog 12 = some [.int .u64 0] := by kernel_rfl
attribute [go_sem] zero12
theorem und12 : Try.prog.underlying 12 = some (.int .u64) := by kernel_rfl
attribute [go_sem] und12
theorem agg21 : aggOf Try.prog 21 = some none := by kernel_rfl
attribute [go_sem] agg21
theorem zero21 : zeroOf Try.prog 21 = some [.int .i32 0] := by kernel_rfl
attribute [go_sem] zero21
theorem und21 : Try.prog.underlying 21 = some (.int .i32) := by kernel_rfl
attribute [go_sem] und21
theorem agg22 : aggOf Try.prog 22 = some none := by kernel_rfl
attribute [go_sem] agg22
theorem zero22 : zeroOf Try.prog 22 = some [.slice none 0 0] := by kernel_rfl
attribute [go_sem] zero22
theorem elem22 : elemOf' Try.prog 22 = some (2, 16, [.int .i64 0, .int .i64 0]) := by kernel_rfl
attribute [go_sem] elem22
theorem und22 : Try.prog.underlying 22 = some (.slice 61) := by kernel_rfl
attribute [go_sem] und22
theorem appT22 : appT Try.prog 22 = true := by kernel_rfl
attribute [go_sem] appT22
theorem agg24 : aggOf Try.prog 24 = some none := by kernel_rfl
attribute [go_sem] agg24
theorem zero24 : zeroOf Try.prog 24 = some [.slice none 0 0] := by kernel_rfl
attribute [go_sem] zero24
theorem elem24 : elemOf' Try.prog 24 = some (1, 24, [.slice none 0 0]) := by kernel_rfl
attribute [go_sem] elem24
theorem und24 : Try.prog.underlying 24 = some (.slice 34) := by kernel_rfl
attribute [go_sem] und24
theorem appT24 : appT Try.prog 24 = true := by kernel_rfl
attribute [go_sem] appT24
theorem agg26 : aggOf Try.prog 26 = some none := by kernel_rfl
attribute [go_sem] agg26
theorem zero26 : zeroOf Try.prog 26 = some [.slice none 0 0] := by kernel_rfl
attribute [go_sem] zero26
theorem elem26 : elemOf' Try.prog 26 = some (2, 16, [.int .i64 0, .int .i64 0]) := by kernel_rfl
attribute [go_sem] elem26
theorem und26 : Try.prog.underlying 26 = some (.slice 59) := by kernel_rfl
attribute [go_sem] und26
theorem appT26 : appT Try.prog 26 = true := by kernel_rfl
attribute [go_sem] appT26
theorem agg34 : aggOf Try.prog 34 = some none := by kernel_rfl
attribute [go_sem] agg34
theorem zero34 : zeroOf Try.prog 34 = some [.slice none 0 0] := by kernel_rfl
attribute [go_sem] zero34
theorem elem34 : elemOf' Try.prog 34 = some (1, 8, [.int .i64 0]) := by kernel_rfl
attribute [go_sem] elem34
theorem und34 : Try.prog.underlying 34 = some (.slice 3) := by kernel_rfl
attribute [go_sem] und34
theorem appT34 : appT Try.prog 34 = true := by kernel_rfl
attribute [go_sem] appT34
theorem agg41 : aggOf Try.prog 41 = some none := by kernel_rfl
attribute [go_sem] agg41
theorem zero41 : zeroOf Try.prog 41 = some [.slice none 0 0] := by kernel_rfl
attribute [go_sem] zero41
theorem elem41 : elemOf' Try.prog 41 = some (2, 32, [.int .i64 0, .slice none 0 0]) := by kernel_rfl
attribute [go_sem] elem41
theorem und41 : Try.prog.underlying 41 = some (.slice 87) := by kernel_rfl
attribute [go_sem] und41
theorem appT41 : appT Try.prog 41 = true := by kernel_rfl
attribute [go_sem] appT41
theorem agg43 : aggOf Try.prog 43 = some (some 3) := by kernel_rfl
attribute [go_sem] agg43
theorem zero43 : zeroOf Try.prog 43 = some [.int .i64 0, .slice none 0 0, .slice none 0 0] := by kernel_rfl
attribute [go_sem] zero43
theorem fld43_0 : fieldOf Try.prog 43 0 = some (0, none) := by kernel_rfl
attribute [go_sem] fld43_0
theorem fld43_1 : fieldOf Try.prog 43 1 = some (1, none) := by kernel_rfl
attribute [go_sem] fld43_1
theorem fld43_2 : fieldOf Try.prog 43 2 = some (2, none) := by kernel_rfl
attribute [go_sem] fld43_2
theorem places43 : placesOf Try.prog 43 = some [(0, 1), (1, 1), (2, 1)] := by kernel_rfl
attribute [go_sem] places43
theorem agg45 : aggOf Try.prog 45 = some none := by kernel_rfl
attribute [go_sem] agg45
theorem zero45 : zeroOf Try.prog 45 = some [.slice none 0 0] := by kernel_rfl
attribute [go_sem] zero45
theorem elem45 : elemOf' Try.prog 45 = some (2, 32, [.int .i64 0, .slice none 0 0]) := by kernel_rfl
attribute [go_sem] elem45
theorem und45 : Try.prog.underlying 45 = some (.slice 74) := by kernel_rfl
attribute [go_sem] und45
theorem appT45 : appT Try.prog 45 = true := by kernel_rfl
attribute [go_sem] appT45
theorem agg47 : aggOf Try.prog 47 = some (some 3) := by kernel_rfl
attribute [go_sem] agg47
theorem zero47 : zeroOf Try.prog 47 = some [.int .i64 0, .slice none 0 0, .slice none 0 0] := by kernel_rfl
attribute [go_sem] zero47
theorem fld47_0 : fieldOf Try.prog 47 0 = some (0, none) := by kernel_rfl
attribute [go_sem] fld47_0
theorem fld47_1 : fieldOf Try.prog 47 1 = some (1, none) := by kernel_rfl
attribute [go_sem] fld47_1
theorem fld47_2 : fieldOf Try.prog 47 2 = some (2, none) := by kernel_rfl
attribute [go_sem] fld47_2
theorem places47 : placesOf Try.prog 47 = some [(0, 1), (1, 1), (2, 1)] := by kernel_rfl
attribute [go_sem] places47
theorem agg59 : aggOf Try.prog 59 = some (some 2) := by kernel_rfl
attribute [go_sem] agg59
theorem zero59 : zeroOf Try.prog 59 = some [.int .i64 0, .int .i64 0] := by kernel_rfl
attribute [go_sem] zero59
theorem fld59_0 : fieldOf Try.prog 59 0 = some (0, none) := by kernel_rfl
attribute [go_sem] fld59_0
theorem fld59_1 : fieldOf Try.prog 59 1 = some (1, none) := by kernel_rfl
attribute [go_sem] fld59_1
theorem places59 : placesOf Try.prog 59 = some [(0, 1), (1, 1)] := by kernel_rfl
attribute [go_sem] places59
theorem agg61 : aggOf Try.prog 61 = some (some 2) := by kernel_rfl
attribute [go_sem] agg61
theorem zero61 : zeroOf Try.prog 61 = some [.int .i64 0, .int .i64 0] := by kernel_rfl
attribute [go_sem] zero61
theorem fld61_0 : fieldOf Try.prog 61 0 = some (0, none) := by kernel_rfl
attribute [go_sem] fld61_0
theorem fld61_1 : fieldOf Try.prog 61 1 = some (1, none) := by kernel_rfl
attribute [go_sem] fld61_1
theorem places61 : placesOf Try.prog 61 = some [(0, 1), (1, 1)] := by kernel_rfl
attribute [go_sem] places61
theorem agg62 : aggOf Try.prog 62 = some none := by kernel_rfl
attribute [go_sem] agg62
theorem agg74 : aggOf Try.prog 74 = some (some 2) := by kernel_rfl
attribute [go_sem] agg74
theorem zero74 : zeroOf Try.prog 74 = some [.int .i64 0, .slice none 0 0] := by kernel_rfl
attribute [go_sem] zero74
theorem fld74_0 : fieldOf Try.prog 74 0 = some (0, none) := by kernel_rfl
attribute [go_sem] fld74_0
theorem fld74_1 : fieldOf Try.prog 74 1 = some (1, none) := by kernel_rfl
attribute [go_sem] fld74_1
theorem places74 : placesOf Try.prog 74 = some [(0, 1), (1, 1)] := by kernel_rfl
attribute [go_sem] places74
theorem agg85 : aggOf Try.prog 85 = some none := by kernel_rfl
attribute [go_sem] agg85
theorem zero85 : zeroOf Try.prog 85 = some [.int .u64 0] := by kernel_rfl
attribute [go_sem] zero85
theorem und85 : Try.prog.underlying 85 = some (.int .u64) := by kernel_rfl
attribute [go_sem] und85
theorem agg87 : aggOf Try.prog 87 = some (some 2) := by kernel_rfl
attribute [go_sem] agg87
theorem zero87 : zeroOf Try.prog 87 = some [.int .i64 0, .slice none 0 0] := by kernel_rfl
attribute [go_sem] zero87
theorem fld87_0 : fieldOf Try.prog 87 0 = some (0, none) := by kernel_rfl
attribute [go_sem] fld87_0
theorem fld87_1 : fieldOf Try.prog 87 1 = some (1, none) := by kernel_rfl
attribute [go_sem] fld87_1
theorem places87 : placesOf Try.prog 87 = some [(0, 1), (1, 1)] := by kernel_rfl
attribute [go_sem] places87
theorem agg102 : aggOf Try.prog 102 = some none := by kernel_rfl
attribute [go_sem] agg102
theorem zero102 : zeroOf Try.prog 102 = some [.int .u32 0] := by kernel_rfl
attribute [go_sem] zero102
theorem und102 : Try.prog.underlying 102 = some (.int .u32) := by kernel_rfl
attribute [go_sem] und102
theorem agg104 : aggOf Try.prog 104 = some none := by kernel_rfl
attribute [go_sem] agg104
theorem zero104 : zeroOf Try.prog 104 = some [.int .u64 0] := by kernel_rfl
attribute [go_sem] zero104
theorem und104 : Try.prog.underlying 104 = some (.int .u64) := by kernel_rfl
attribute [go_sem] und104
end Go.Proofs.Ytbalifgacjmbpaa.A

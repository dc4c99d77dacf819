/- WHAT THE TYPES OF THIS TRANSLATION COME TO. Conditions: none. (Printed by a program of this session.) -/
import Derived.Test.YtpblenpebjkmoaaA39
import Derived.Test.YtpblenpebjkmoaaProg
namespace Go.Proofs.Ytpblenpebjkmoaa.A
open Go
theorem agg2 : aggOf Try.prog 2 = some none := by kernel_rfl
attribute [go_sem] agg2
theorem zero2 : zeroOf Try.prog 2 = some [.int .i64 0] := by kernel_rfl
attribute [go_sem] zero2
theorem und2 : Try.prog.underlying 2 = some (.int .i64) := by kernel_rfl
attribute [go_sem] und2
theorem agg3 : aggOf Try.prog 3 = some none := by kernel_rfl
attribute [go_sem] agg3
theorem zero3 : zeroOf Try.prog 3 = some [.int .i64 0] := by kernel_rfl
attribute [go_sem] zero3
theorem und3 : Try.prog.underlying 3 = some (.int .i64) := by kernel_rfl
attribute [go_sem] und3
theorem agg4 : aggOf Try.prog 4 = some none := by kernel_rfl
attribute [go_sem] agg4
theorem zero4 : zeroOf Try.prog 4 = some [.bool false] := by kernel_rfl
attribute [go_sem] zero4
theorem und4 : Try.prog.underlying 4 = some .bool := by kernel_rfl
attribute [go_sem] und4
theorem agg5 : aggOf Try.prog 5 = some none := by kernel_rfl
attribute [go_sem] agg5
theorem zero5 : zeroOf Try.prog 5 = some [.int .u8 0] := by kernel_rfl
attribute [go_sem] zero5
theorem und5 : Try.prog.underlying 5 = some (.int .u8) := by kernel_rfl
attribute [go_sem] und5
theorem agg9 : aggOf Try.prog 9 = some none := by kernel_rfl
attribute [go_sem] agg9
theorem zero9 : zeroOf Try.prog 9 = some [.string ByteArray.empty] := by kernel_rfl
attribute [go_sem] zero9
theorem und9 : Try.prog.underlying 9 = some .string := by kernel_rfl
attribute [go_sem] und9
theorem appT9 : appT Try.prog 9 = true := by kernel_rfl
attribute [go_sem] appT9
theorem agg12 : aggOf Try.prog 12 = some none := by kernel_rfl
attribute [go_sem] agg12
theorem zero12 : zeroOf Try.prog 12 = some [.int .u64 0] := by kernel_rfl
attribute [go_sem] zero12
theorem und12 : Try.prog.underlying 12 = some (.int .u64) := by kernel_rfl
attribute [go_sem] und12
theorem agg21 : aggOf Try.prog 21 = some none := by kernel_rfl
attribute [go_sem] agg21
theorem zero21 : zeroOf Try.prog 21 = some [.int .i32 0] := by kernel_rfl
attribute [go_sem] zero21
theorem und21 : Try.prog.underlying 21 = some (.int .i32) := by kernel_rfl
attribute [go_sem] und21
theorem agg29 : aggOf Try.prog 29 = some none := by kernel_rfl
attribute [go_sem] agg29
theorem zero29 : zeroOf Try.prog 29 = some [.slice none 0 0] := by kernel_rfl
attribute [go_sem] zero29
theorem elem29 : elemOf' Try.prog 29 = some (1, 8, [.int .i64 0]) := by kernel_rfl
attribute [go_sem] elem29
theorem und29 : Try.prog.underlying 29 = some (.slice 3) := by kernel_rfl
attribute [go_sem] und29
theorem appT29 : appT Try.prog 29 = true := by kernel_rfl
attribute [go_sem] appT29
theorem agg31 : aggOf Try.prog 31 = some (some 2) := by kernel_rfl
attribute [go_sem] agg31
theorem zero31 : zeroOf Try.prog 31 = some [.slice none 0 0, .slice none 0 0] := by kernel_rfl
attribute [go_sem] zero31
theorem fld31_0 : fieldOf Try.prog 31 0 = some (0, none) := by kernel_rfl
attribute [go_sem] fld31_0
theorem fld31_1 : fieldOf Try.prog 31 1 = some (1, none) := by kernel_rfl
attribute [go_sem] fld31_1
theorem places31 : placesOf Try.prog 31 = some [(0, 1), (1, 1)] := by kernel_rfl
attribute [go_sem] places31
theorem agg34 : aggOf Try.prog 34 = some (some 2) := by kernel_rfl
attribute [go_sem] agg34
theorem zero34 : zeroOf Try.prog 34 = some [.slice none 0 0, .slice none 0 0] := by kernel_rfl
attribute [go_sem] zero34
theorem fld34_0 : fieldOf Try.prog 34 0 = some (0, none) := by kernel_rfl
attribute [go_sem] fld34_0
theorem fld34_1 : fieldOf Try.prog 34 1 = some (1, none) := by kernel_rfl
attribute [go_sem] fld34_1
theorem places34 : placesOf Try.prog 34 = some [(0, 1), (1, 1)] := by kernel_rfl
attribute [go_sem] places34
theorem agg38 : aggOf Try.prog 38 = some none := by kernel_rfl
attribute [go_sem] agg38
theorem zero38 : zeroOf Try.prog 38 = some [.slice none 0 0] := by kernel_rfl
attribute [go_sem] zero38
theorem elem38 : elemOf' Try.prog 38 = some (1, 16, [.string ByteArray.empty]) := by kernel_rfl
attribute [go_sem] elem38
theorem und38 : Try.prog.underlying 38 = some (.slice 9) := by kernel_rfl
attribute [go_sem] und38
theorem appT38 : appT Try.prog 38 = true := by kernel_rfl
attribute [go_sem] appT38
theorem agg39 : aggOf Try.prog 39 = some (some 4) := by kernel_rfl
attribute [go_sem] agg39
theorem zero39 : zeroOf Try.prog 39 = some [.string ByteArray.empty, .string ByteArray.empty, .string ByteArray.empty, .string ByteArray.empty] := by kernel_rfl
attribute [go_sem] zero39
theorem und39 : Try.prog.underlying 39 = some (.array 4 9) := by kernel_rfl
attribute [go_sem] und39
theorem places39 : placesOf Try.prog 39 = some [(0, 1), (1, 1), (2, 1), (3, 1)] := by kernel_rfl
attribute [go_sem] places39
theorem agg45 : aggOf Try.prog 45 = some none := by kernel_rfl
attribute [go_sem] agg45
theorem zero45 : zeroOf Try.prog 45 = some [.slice none 0 0] := by kernel_rfl
attribute [go_sem] zero45
theorem elem45 : elemOf' Try.prog 45 = some (1, 1, [.int .u8 0]) := by kernel_rfl
attribute [go_sem] elem45
theorem und45 : Try.prog.underlying 45 = some (.slice 5) := by kernel_rfl
attribute [go_sem] und45
theorem appT45 : appT Try.prog 45 = true := by kernel_rfl
attribute [go_sem] appT45
theorem agg53 : aggOf Try.prog 53 = some none := by kernel_rfl
attribute [go_sem] agg53
theorem zero53 : zeroOf Try.prog 53 = some [.int .u32 0] := by kernel_rfl
attribute [go_sem] zero53
theorem und53 : Try.prog.underlying 53 = some (.int .u32) := by kernel_rfl
attribute [go_sem] und53
end Go.Proofs.Ytpblenpebjkmoaa.A

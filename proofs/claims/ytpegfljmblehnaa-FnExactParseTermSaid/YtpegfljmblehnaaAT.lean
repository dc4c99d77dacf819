/- WHAT THE TYPES OF THIS TRANSLATION COME TO. Conditions: none. (Printed by a program of this session.) -/
import Derived.Test.YtpegfljmblehnaaA39
import Derived.Test.YtpegfljmblehnaaProg
namespace Go.Proofs.Ytpegfljmblehnaa.A
open Go
theorem agg2 : aggOf Try.prog 2 = some none := by kernel_rfl
attribute [go_sem] agg2
theorem zero2 : zeroOf Try.prog 2 = some [.int .i64 0] := by kernel_rfl
attribute [go_sem] zero2
theorem und2 : Try.prog.underlying 2 = some (.int .i64) := by kernel_rfl
attribute [go_sem] und2
theorem agg3 : aggOf Try.prog 3 = some none := by kernel_rfl
attribute [go_sem] agg3
theorem zero3 : zeroOf Try.prog 3 = some [.int .i64 0] := by kernel_rfl
attribute [go_sem] zero3
theorem und3 : Try.prog.underlying 3 = some (.int .i64) := by kernel_rfl
attribute [go_sem] und3
theorem agg4 : aggOf Try.prog 4 = some none := by kernel_rfl
attribute [go_sem] agg4
theorem zero4 : zeroOf Try.prog 4 = some [.bool false] := by kernel_rfl
attribute [go_sem] zero4
theorem und4 : Try.prog.underlying 4 = some .bool := by kernel_rfl
attribute [go_sem] und4
theorem agg5 : aggOf Try.prog 5 = some none := by kernel_rfl
attribute [go_sem] agg5
theorem zero5 : zeroOf Try.prog 5 = some [.int .u8 0] := by kernel_rfl
attribute [go_sem] zero5
theorem und5 : Try.prog.underlying 5 = some (.int .u8) := by kernel_rfl
attribute [go_sem] und5
theorem agg9 : aggOf Try.prog 9 = some none := by kernel_rfl
attribute [go_sem] agg9
theorem zero9 : zeroOf Try.prog 9 = some [.string ByteArray.empty] := by kernel_rfl
attribute [go_sem] zero9
theorem und9 : Try.prog.underlying 9 = some .string := by kernel_rfl
attribute [go_sem] und9
theorem appT9 : appT Try.prog 9 = true := by kernel_rfl
attribute [go_sem] appT9
theorem agg12 : aggOf Try.prog 12 = some none := by kernel_rfl
attribute [go_sem] agg12
theorem zero12 : zeroOf Try.prog 12 = some [.int .u64 0] := by kernel_rfl
attribute [go_sem] zero12
theorem und12 : Try.prog.underlying 12 = some (.int .u64) := by kernel_rfl
attribute [go_sem] und12
theorem agg21 : aggOf Try.prog 21 = some none := by kernel_rfl
attribute [go_sem] agg21
theorem zero21 : zeroOf Try.prog 21 = some [.int .i32 0] := by kernel_rfl
attribute [go_sem] zero21
theorem und21 : Try.prog.underlying 21 = some (.int .i32) := by kernel_rfl
attribute [go_sem] und21
theorem agg30 : aggOf Try.prog 30 = some none := by kernel_rfl
attribute [go_sem] agg30
theorem zero30 : zeroOf Try.prog 30 = some [.slice none 0 0] := by kernel_rfl
attribute [go_sem] zero30
theorem elem30 : elemOf' Try.prog 30 = some (1, 1, [.int .u8 0]) := by kernel_rfl
attribute [go_sem] elem30
theorem und30 : Try.prog.underlying 30 = some (.slice 5) := by kernel_rfl
attribute [go_sem] und30
theorem appT30 : appT Try.prog 30 = true := by kernel_rfl
attribute [go_sem] appT30
theorem agg38 : aggOf Try.prog 38 = some none := by kernel_rfl
attribute [go_sem] agg38
theorem zero38 : zeroOf Try.prog 38 = some [.int .u32 0] := by kernel_rfl
attribute [go_sem] zero38
theorem und38 : Try.prog.underlying 38 = some (.int .u32) := by kernel_rfl
attribute [go_sem] und38
end Go.Proofs.Ytpegfljmblehnaa.A

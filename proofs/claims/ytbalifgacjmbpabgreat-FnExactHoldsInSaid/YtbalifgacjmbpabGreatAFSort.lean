
/- THE LIBRARY'S SORT, COMPACT, CLONE AND GROW at numbers, of this program. Conditions: none. -/
import Derived.Test.YtbalifgacjmbpabGreatA41
import Derived.Test.YtbalifgacjmbpabGreatAFM
namespace Go.Proofs.YtbalifgacjmbpabGreat.A
open Go Go.Shelf
set_option linter.unusedVariables false
set_option maxRecDepth 100000
def laysSort_ren : Go.Shelf.Ren := ⟨fun | 125 => 92 | 128 => 124 | 129 => 125 | 189 => 62 | 215 => 147 | 216 => 121 | 257 => 91 | 294 => 115 | 295 => 116 | 296 => 117 | 297 => 118 | 298 => 119 | 299 => 120 | 300 => 122 | 301 => 123 | 328 => 142 | 329 => 143 | 330 => 144 | 331 => 145 | 332 => 146 | 343 => 154 | n => n, fun | 0 => 0 | 3 => 3 | 4 => 4 | 5 => 5 | 9 => 9 | 28 => 27 | 46 => 121 | 51 => 150 | 53 => 152 | 131 => 147 | 182 => 141 | 183 => 142 | 218 => 165 | 222 => 169 | 228 => 172 | 229 => 173 | n => n, fun n => n⟩
theorem laysSort : Lays.n189 Tryz.prog laysSort_ren where
  mixed := by kernel_rfl
  f125 := Tryz.func92.trans (congrArg some (by kernel_rfl))
  f128 := Tryz.func124.trans (congrArg some (by kernel_rfl))
  f129 := Tryz.func125.trans (congrArg some (by kernel_rfl))
  f189 := Tryz.func62.trans (congrArg some (by kernel_rfl))
  f215 := Tryz.func147.trans (congrArg some (by kernel_rfl))
  f216 := Tryz.func121.trans (congrArg some (by kernel_rfl))
  f257 := Tryz.func91.trans (congrArg some (by kernel_rfl))
  f294 := Tryz.func115.trans (congrArg some (by kernel_rfl))
  f295 := Tryz.func116.trans (congrArg some (by kernel_rfl))
  f296 := Tryz.func117.trans (congrArg some (by kernel_rfl))
  f297 := Tryz.func118.trans (congrArg some (by kernel_rfl))
  f298 := Tryz.func119.trans (congrArg some (by kernel_rfl))
  f299 := Tryz.func120.trans (congrArg some (by kernel_rfl))
  f300 := Tryz.func122.trans (congrArg some (by kernel_rfl))
  f301 := Tryz.func123.trans (congrArg some (by kernel_rfl))
  f328 := Tryz.func142.trans (congrArg some (by kernel_rfl))
  f329 := Tryz.func143.trans (congrArg some (by kernel_rfl))
  f330 := Tryz.func144.trans (congrArg some (by kernel_rfl))
  f331 := Tryz.func145.trans (congrArg some (by kernel_rfl))
  f332 := Tryz.func146.trans (congrArg some (by kernel_rfl))
  f343 := Tryz.func154.trans (congrArg some (by kernel_rfl))
  t0 := Tryz.underlying0
  a0 := Tryz.isAgg0
  z0 := Tryz.sizeOf0
  v0 := Tryz.zeroValue0
  t3 := Tryz.underlying3
  a3 := Tryz.isAgg3
  z3 := Tryz.sizeOf3
  v3 := Tryz.zeroValue3
  t4 := Tryz.underlying4
  a4 := Tryz.isAgg4
  z4 := Tryz.sizeOf4
  v4 := Tryz.zeroValue4
  t5 := Tryz.underlying5
  a5 := Tryz.isAgg5
  z5 := Tryz.sizeOf5
  v5 := Tryz.zeroValue5
  t9 := Tryz.underlying9
  a9 := Tryz.isAgg9
  z9 := Tryz.sizeOf9
  v9 := Tryz.zeroValue9
  t28 := Tryz.underlying27
  a28 := Tryz.isAgg27
  z28 := Tryz.sizeOf27
  v28 := Tryz.zeroValue27
  t46 := Tryz.underlying121
  a46 := Tryz.isAgg121
  z46 := Tryz.sizeOf121
  v46 := Tryz.zeroValue121
  t51 := Tryz.underlying150
  a51 := Tryz.isAgg150
  z51 := Tryz.sizeOf150
  v51 := Tryz.zeroValue150
  t53 := Tryz.underlying152
  a53 := Tryz.isAgg152
  z53 := Tryz.sizeOf152
  v53 := Tryz.zeroValue152
  t131 := Tryz.underlying147
  a131 := Tryz.isAgg147
  z131 := Tryz.sizeOf147
  v131 := Tryz.zeroValue147
  t182 := Tryz.underlying141
  a182 := Tryz.isAgg141
  z182 := Tryz.sizeOf141
  v182 := Tryz.zeroValue141
  t183 := Tryz.underlying142
  a183 := Tryz.isAgg142
  z183 := Tryz.sizeOf142
  v183 := Tryz.zeroValue142
  t218 := Tryz.underlying165
  a218 := Tryz.isAgg165
  z218 := Tryz.sizeOf165
  v218 := Tryz.zeroValue165
  t222 := Tryz.underlying169
  a222 := Tryz.isAgg169
  z222 := Tryz.sizeOf169
  v222 := Tryz.zeroValue169
  t228 := Tryz.underlying172
  a228 := Tryz.isAgg172
  z228 := Tryz.sizeOf172
  v228 := Tryz.zeroValue172
  t229 := Tryz.underlying173
  a229 := Tryz.isAgg173
  z229 := Tryz.sizeOf173
  v229 := Tryz.zeroValue173
theorem slicesSort_sat (a : List Int) (h : a.length ≤ 4194304) : Sat Tryz.prog 62 [oInts a] [] [oInts (a.mergeSort fun x y => decide (x ≤ y))] :=
  sort_sat Tryz.func62 rfl (by kernel_rfl) (Any.slices_Sort_int laysSort) (Any.slices_Sort_int_none laysSort) a (by omega)
def laysCompact_ren : Go.Shelf.Ren := ⟨fun | 20 => 94 | n => n, fun | 0 => 0 | 3 => 3 | 4 => 4 | 22 => 27 | n => n, fun n => n⟩
theorem laysCompact : Lays2.n20 Tryz.prog laysCompact_ren where
  mixed := by kernel_rfl
  f20 := Tryz.func94.trans (congrArg some (by kernel_rfl))
  t0 := Tryz.underlying0
  a0 := Tryz.isAgg0
  z0 := Tryz.sizeOf0
  v0 := Tryz.zeroValue0
  t3 := Tryz.underlying3
  a3 := Tryz.isAgg3
  z3 := Tryz.sizeOf3
  v3 := Tryz.zeroValue3
  t4 := Tryz.underlying4
  a4 := Tryz.isAgg4
  z4 := Tryz.sizeOf4
  v4 := Tryz.zeroValue4
  t22 := Tryz.underlying27
  a22 := Tryz.isAgg27
  z22 := Tryz.sizeOf27
  v22 := Tryz.zeroValue27
  i3 := by kernel_rfl
theorem slicesCompact_sat (a : List Int) (h : a.length ≤ 9223372036854775807) : Sat Tryz.prog 94 [oInts a] [oInts (Lib.compact a)] [g1] :=
  compact_sat Tryz.func94 rfl (by kernel_rfl) (Any.slices_Compact_int laysCompact) (Any.slices_Compact_int_empty laysCompact) a h
def laysClone_ren : Go.Shelf.Ren := ⟨fun | 15 => 48 | n => n, fun | 3 => 3 | 4 => 4 | 22 => 27 | n => n, fun n => n⟩
theorem laysClone : Lays2.n15 Tryz.prog laysClone_ren where
  mixed := by kernel_rfl
  f15 := Tryz.func48.trans (congrArg some (by kernel_rfl))
  t3 := Tryz.underlying3
  a3 := Tryz.isAgg3
  z3 := Tryz.sizeOf3
  v3 := Tryz.zeroValue3
  t4 := Tryz.underlying4
  a4 := Tryz.isAgg4
  z4 := Tryz.sizeOf4
  v4 := Tryz.zeroValue4
  t22 := Tryz.underlying27
  a22 := Tryz.isAgg27
  z22 := Tryz.sizeOf27
  v22 := Tryz.zeroValue27
  i3 := by kernel_rfl
theorem slicesClone_sat (a : List Int) (h : a.length ≤ 1048576) : Sat Tryz.prog 48 [lInts a] [oInts a] [g1] :=
  clone_sat (e := 3) Tryz.func48 rfl (by kernel_rfl) (Any.slices_Clone_int laysClone) (Any.slices_Clone_int_nil laysClone) (Any.slices_Clone_int_zero laysClone) a (by omega)
def laysGrow_ren : Go.Shelf.Ren := ⟨fun | 4 => 126 | n => n, fun | 0 => 0 | 3 => 3 | 4 => 4 | 9 => 9 | 20 => 20 | 22 => 27 | 25 => 3 | n => n, fun n => n⟩
theorem laysGrow : Lays8.n4 Tryz.prog laysGrow_ren where
  mixed := by kernel_rfl
  f4 := ⟨Tryz.f126.name, by kernel_rfl, Tryz.func126.trans (congrArg some (by kernel_rfl))⟩
  t0 := Tryz.underlying0
  a0 := Tryz.isAgg0
  z0 := Tryz.sizeOf0
  v0 := Tryz.zeroValue0
  t3 := Tryz.underlying3
  a3 := Tryz.isAgg3
  z3 := Tryz.sizeOf3
  v3 := Tryz.zeroValue3
  t4 := Tryz.underlying4
  a4 := Tryz.isAgg4
  z4 := Tryz.sizeOf4
  v4 := Tryz.zeroValue4
  t9 := Tryz.underlying9
  a9 := Tryz.isAgg9
  z9 := Tryz.sizeOf9
  v9 := Tryz.zeroValue9
  t20 := Tryz.underlying20
  a20 := Tryz.isAgg20
  z20 := Tryz.sizeOf20
  v20 := Tryz.zeroValue20
  t22 := Tryz.underlying27
  a22 := Tryz.isAgg27
  z22 := Tryz.sizeOf27
  v22 := Tryz.zeroValue27
theorem slicesGrow_sat (n : Nat) (h : n ≤ 4194304) : Sat Tryz.prog 126 [.one (.sc (.slice none 0 0)), lInt n] [oInts []] [g1, g1] :=
  grow_sat (e := 3) Tryz.func126 rfl (by kernel_rfl) (by kernel_rfl) (Any8.slices_Grow_room laysGrow) (fun i0 z hi hz hs base l c n cs w => Any8.slices_Grow_grow laysGrow i0 z hi hz hs base l c n cs w) n (by omega)
end Go.Proofs.YtbalifgacjmbpabGreat.A

/-
  The library's contracts that this seat's texts lean on, laid at its translation by the kit's tools.
-/
import Derived.Shelf.Small.Bits
import Derived.Shelf.Strconv.Itoa0
import Derived.Ground.GgsProg
import Derived.Shelf.GgSortFunc.Insertion
import Derived.Shelf.GgSortFunc.Small
import Derived.Shelf.GgSortFunc.InsertionK
import Derived.Shelf.GgSortFunc.SmallK
import Derived.Shelf.GgSortFunc.Compose
import Derived.Shelf.GgSortFunc.LotD
import Derived.Shelf.SlSortFunc.Xorshift
import Derived.Shelf.SlSortFuncK.ComposeK
import Derived.Shelf.SlSortFuncK.SiftDownK
import Derived.Shelf.SlSortFuncK.HeapSortK
import Derived.Shelf.SlSortFuncK.PartialInsertionK
import Derived.Shelf.SlSortFuncK.LotDK
import Derived.Shelf.SlSortFuncK.PivotK
import Derived.Shelf.SlSortFuncK.PartitionK
import Derived.Shelf.SlSortFuncK.PdqK
import Derived.Shelf.SlSortFuncK.WholeK
import Derived.Test.YtdecehecjlbbiaaProg
namespace Go.Proofs
open Go.Shelf
def Try.laysGg6_ren : Go.Shelf.Ren := ⟨fun | 6 => 91 | 10 => 109 | 11 => 110 | 12 => 111 | 13 => 112 | 14 => 113 | 24 => 130 | 25 => 131 | 26 => 132 | 27 => 133 | 28 => 134 | 29 => 135 | 30 => 136 | 31 => 137 | 32 => 138 | 33 => 139 | 34 => 141 | 35 => 142 | 36 => 143 | 37 => 144 | 38 => 145 | 39 => 146 | n => n, fun | 20 => 20 | 26 => 105 | 35 => 126 | 0 => 0 | 37 => 128 | 3 => 3 | 41 => 116 | 44 => 134 | 49 => 118 | 51 => 145 | 4 => 4 | 54 => 148 | 53 => 147 | 58 => 152 | 5 => 5 | 9 => 9 | 60 => 155 | 64 => 159 | 66 => 161 | 67 => 162 | 17 => 17 | 32 => 123 | 33 => 124 | 82 => 177 | 12 => 12 | 75 => 170 | 76 => 171 | 77 => 172 | 78 => 173 | 79 => 174 | 80 => 175 | n => n, fun | n => n⟩
theorem Try.laysGg6 : Go.Proofs.LaysGg.n6 Try.prog Try.laysGg6_ren := {
  mixed := by kernel_rfl
  f6 := Try.func91.trans (congrArg some (by kernel_rfl))
  f10 := Try.func109.trans (congrArg some (by kernel_rfl))
  f11 := Try.func110.trans (congrArg some (by kernel_rfl))
  f12 := Try.func111.trans (congrArg some (by kernel_rfl))
  f13 := Try.func112.trans (congrArg some (by kernel_rfl))
  f14 := Try.func113.trans (congrArg some (by kernel_rfl))
  f24 := Try.func130.trans (congrArg some (by kernel_rfl))
  f25 := Try.func131.trans (congrArg some (by kernel_rfl))
  f26 := Try.func132.trans (congrArg some (by kernel_rfl))
  f27 := Try.func133.trans (congrArg some (by kernel_rfl))
  f28 := Try.func134.trans (congrArg some (by kernel_rfl))
  f29 := Try.func135.trans (congrArg some (by kernel_rfl))
  f30 := Try.func136.trans (congrArg some (by kernel_rfl))
  f31 := Try.func137.trans (congrArg some (by kernel_rfl))
  f32 := Try.func138.trans (congrArg some (by kernel_rfl))
  f33 := Try.func139.trans (congrArg some (by kernel_rfl))
  f34 := Try.func141.trans (congrArg some (by kernel_rfl))
  f35 := Try.func142.trans (congrArg some (by kernel_rfl))
  f36 := Try.func143.trans (congrArg some (by kernel_rfl))
  f37 := Try.func144.trans (congrArg some (by kernel_rfl))
  f38 := Try.func145.trans (congrArg some (by kernel_rfl))
  f39 := Try.func146.trans (congrArg some (by kernel_rfl))
  t0 := Try.underlying0
  a0 := Try.isAgg0
  z0 := Try.sizeOf0
  v0 := Try.zeroValue0
  i0 := by kernel_rfl
  t3 := Try.underlying3
  a3 := Try.isAgg3
  z3 := Try.sizeOf3
  v3 := Try.zeroValue3
  i3 := by kernel_rfl
  t4 := Try.underlying4
  a4 := Try.isAgg4
  z4 := Try.sizeOf4
  v4 := Try.zeroValue4
  i4 := by kernel_rfl
  t5 := Try.underlying5
  a5 := Try.isAgg5
  z5 := Try.sizeOf5
  v5 := Try.zeroValue5
  i5 := by kernel_rfl
  t9 := Try.underlying9
  a9 := Try.isAgg9
  z9 := Try.sizeOf9
  v9 := Try.zeroValue9
  i9 := by kernel_rfl
  t12 := Try.underlying12
  a12 := Try.isAgg12
  z12 := Try.sizeOf12
  v12 := Try.zeroValue12
  i12 := by kernel_rfl
  t17 := Try.underlying17
  a17 := Try.isAgg17
  z17 := Try.sizeOf17
  v17 := Try.zeroValue17
  i17 := by kernel_rfl
  t20 := Try.underlying20
  a20 := Try.isAgg20
  z20 := Try.sizeOf20
  v20 := Try.zeroValue20
  i20 := by kernel_rfl
  t26 := Try.underlying105
  a26 := Try.isAgg105
  z26 := Try.sizeOf105
  v26 := Try.zeroValue105
  i26 := by kernel_rfl
  t32 := Try.underlying123
  a32 := Try.isAgg123
  z32 := Try.sizeOf123
  v32 := Try.zeroValue123
  i32 := by kernel_rfl
  t33 := Try.underlying124
  a33 := Try.isAgg124
  z33 := Try.sizeOf124
  v33 := Try.zeroValue124
  i33 := by kernel_rfl
  t35 := Try.underlying126
  a35 := Try.isAgg126
  z35 := Try.sizeOf126
  v35 := Try.zeroValue126
  i35 := by kernel_rfl
  t37 := Try.underlying128
  a37 := Try.isAgg128
  z37 := Try.sizeOf128
  v37 := Try.zeroValue128
  i37 := by kernel_rfl
  t41 := Try.underlying116
  a41 := Try.isAgg116
  z41 := Try.sizeOf116
  v41 := Try.zeroValue116
  i41 := by kernel_rfl
  t44 := Try.underlying134
  a44 := Try.isAgg134
  z44 := Try.sizeOf134
  v44 := Try.zeroValue134
  i44 := by kernel_rfl
  t49 := Try.underlying118
  a49 := Try.isAgg118
  z49 := Try.sizeOf118
  v49 := Try.zeroValue118
  i49 := by kernel_rfl
  t51 := Try.underlying145
  a51 := Try.isAgg145
  z51 := Try.sizeOf145
  v51 := Try.zeroValue145
  i51 := by kernel_rfl
  t53 := Try.underlying147
  a53 := Try.isAgg147
  z53 := Try.sizeOf147
  v53 := Try.zeroValue147
  i53 := by kernel_rfl
  t54 := Try.underlying148
  a54 := Try.isAgg148
  z54 := Try.sizeOf148
  v54 := Try.zeroValue148
  i54 := by kernel_rfl
  t58 := Try.underlying152
  a58 := Try.isAgg152
  z58 := Try.sizeOf152
  v58 := Try.zeroValue152
  i58 := by kernel_rfl
  t60 := Try.underlying155
  a60 := Try.isAgg155
  z60 := Try.sizeOf155
  v60 := Try.zeroValue155
  i60 := by kernel_rfl
  t64 := Try.underlying159
  a64 := Try.isAgg159
  z64 := Try.sizeOf159
  v64 := Try.zeroValue159
  i64 := by kernel_rfl
  t66 := Try.underlying161
  a66 := Try.isAgg161
  z66 := Try.sizeOf161
  v66 := Try.zeroValue161
  i66 := by kernel_rfl
  t67 := Try.underlying162
  a67 := Try.isAgg162
  z67 := Try.sizeOf162
  v67 := Try.zeroValue162
  i67 := by kernel_rfl
  t75 := Try.underlying170
  a75 := Try.isAgg170
  z75 := Try.sizeOf170
  v75 := Try.zeroValue170
  i75 := by kernel_rfl
  t76 := Try.underlying171
  a76 := Try.isAgg171
  z76 := Try.sizeOf171
  v76 := Try.zeroValue171
  i76 := by kernel_rfl
  t77 := Try.underlying172
  a77 := Try.isAgg172
  z77 := Try.sizeOf172
  v77 := Try.zeroValue172
  i77 := by kernel_rfl
  t78 := Try.underlying173
  a78 := Try.isAgg173
  z78 := Try.sizeOf173
  v78 := Try.zeroValue173
  i78 := by kernel_rfl
  t79 := Try.underlying174
  a79 := Try.isAgg174
  z79 := Try.sizeOf174
  v79 := Try.zeroValue174
  i79 := by kernel_rfl
  t80 := Try.underlying175
  a80 := Try.isAgg175
  z80 := Try.sizeOf175
  v80 := Try.zeroValue175
  i80 := by kernel_rfl
  t82 := Try.underlying177
  a82 := Try.isAgg177
  z82 := Try.sizeOf177
  v82 := Try.zeroValue177
  i82 := by kernel_rfl }
end Go.Proofs

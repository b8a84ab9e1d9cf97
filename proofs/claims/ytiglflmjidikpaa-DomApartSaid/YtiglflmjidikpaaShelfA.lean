/- The library's contracts of slices.Insert, slices.Delete, slices.Reverse at []int, laid at this program by numbers. No conditions beside theirs. -/
import Derived.Shelf.Slices.Reverse
import Derived.Ground.Names2Prog
import Derived.Shelf.Slices.Delete
import Derived.Shelf.Spec.SlicesInsertGrow
import Derived.Shelf.Slices.Cells
import Derived.Test.YtiglflmjidikpaaDomT
namespace Go.Proofs.Ytiglflmjidikpaa
open Go Go.RowKit Go.BigFrame
def laysIns_ren : Go.Shelf.Ren := ⟨fun | 21 => 84 | 27 => 122 | 28 => 123 | 35 => 136 | 39 => 118 | n => n, fun | 0 => 0 | 3 => 3 | 4 => 4 | 22 => 70 | n => n, fun | n => n⟩
theorem laysIns : Go.Proofs.Lays2.n21 Try.prog laysIns_ren := {
  mixed := by kernel_rfl
  f21 := Try.func84.trans (congrArg some (by kernel_rfl))
  f27 := Try.func122.trans (congrArg some (by kernel_rfl))
  f28 := Try.func123.trans (congrArg some (by kernel_rfl))
  f35 := Try.func136.trans (congrArg some (by kernel_rfl))
  f39 := Try.func118.trans (congrArg some (by kernel_rfl))
  t0 := Try.underlying0
  a0 := Try.isAgg0
  z0 := Try.sizeOf0
  v0 := Try.zeroValue0
  t3 := Try.underlying3
  a3 := Try.isAgg3
  z3 := Try.sizeOf3
  v3 := Try.zeroValue3
  t4 := Try.underlying4
  a4 := Try.isAgg4
  z4 := Try.sizeOf4
  v4 := Try.zeroValue4
  t22 := Try.underlying70
  a22 := Try.isAgg70
  z22 := Try.sizeOf70
  v22 := Try.zeroValue70
  i3 := by kernel_rfl }
def laysDel_ren : Go.Shelf.Ren := ⟨fun | 23 => 86 | n => n, fun | 0 => 0 | 3 => 3 | 4 => 4 | 22 => 70 | n => n, fun | n => n⟩
theorem laysDel : Go.Proofs.Lays2.n23 Try.prog laysDel_ren := {
  mixed := by kernel_rfl
  f23 := Try.func86.trans (congrArg some (by kernel_rfl))
  t0 := Try.underlying0
  a0 := Try.isAgg0
  z0 := Try.sizeOf0
  v0 := Try.zeroValue0
  t3 := Try.underlying3
  a3 := Try.isAgg3
  z3 := Try.sizeOf3
  v3 := Try.zeroValue3
  t4 := Try.underlying4
  a4 := Try.isAgg4
  z4 := Try.sizeOf4
  v4 := Try.zeroValue4
  t22 := Try.underlying70
  a22 := Try.isAgg70
  z22 := Try.sizeOf70
  v22 := Try.zeroValue70
  i3 := by kernel_rfl }
def laysRev_ren : Go.Shelf.Ren := ⟨fun | 112 => 118 | n => n, fun | 0 => 0 | 3 => 3 | 4 => 4 | 28 => 70 | n => n, fun | n => n⟩
theorem laysRev : Go.Proofs.Lays.n112 Try.prog laysRev_ren := {
  mixed := by kernel_rfl
  f112 := Try.func118.trans (congrArg some (by kernel_rfl))
  t0 := Try.underlying0
  a0 := Try.isAgg0
  z0 := Try.sizeOf0
  v0 := Try.zeroValue0
  t3 := Try.underlying3
  a3 := Try.isAgg3
  z3 := Try.sizeOf3
  v3 := Try.zeroValue3
  t4 := Try.underlying4
  a4 := Try.isAgg4
  z4 := Try.sizeOf4
  v4 := Try.zeroValue4
  t28 := Try.underlying70
  a28 := Try.isAgg70
  z28 := Try.sizeOf70
  v28 := Try.zeroValue70 }
end Go.Proofs.Ytiglflmjidikpaa

/-
  ch. 20: where cmp.Compare lies (laying of the shelf's contract, written by the shelf's tool).
-/
import Derived.Shelf.SlLaysC2
import Derived.Test.YtojnggohjbidaaaProg
set_option maxRecDepth 100000
namespace Go.Proofs.Ytojnggohjbidaaa
open Go.Shelf
def lay45_ren : Go.Shelf.Ren := ⟨fun | 5 => 45 | 7 => 49 | n => n, fun | 22 => 3 | 3 => 3 | 4 => 4 | n => n, fun | n => n⟩
theorem lay45 : Go.Proofs.SlLaysC2.n5 Try.prog lay45_ren := {
  mixed := by kernel_rfl
  f5 := ⟨Try.f45.name, by decide, Try.func45.trans (congrArg some (by kernel_rfl))⟩
  f7 := ⟨Try.f49.name, by decide, Try.func49.trans (congrArg some (by kernel_rfl))⟩
  t3 := Try.underlying3
  a3 := Try.isAgg3
  z3 := Try.sizeOf3
  v3 := Try.zeroValue3
  t4 := Try.underlying4
  a4 := Try.isAgg4
  z4 := Try.sizeOf4
  v4 := Try.zeroValue4
  t22 := Try.underlying3
  a22 := Try.isAgg3
  z22 := Try.sizeOf3
  v22 := Try.zeroValue3 }

end Go.Proofs.Ytojnggohjbidaaa

/-
  Layings of the shelf's contracts at this program, in plain words (written by the shelf's lay-plain).
-/
import Derived.Shelf.SlSorted.Search
import Derived.Test.YtedkgamecdmjdaaChecked
namespace Go.Proofs.Ytedkgamecdmjdaa
open Go.Shelf
def Try.search_ren : Go.Shelf.Ren := ⟨fun | 16 => 48 | n => n, fun | 3 => 3 | 35 => 25 | 4 => 4 | 38 => 116 | n => n, fun | n => n⟩
theorem Try.search : Go.Proofs.SlLaysO.n16 Try.prog Try.search_ren := {
  mixed := by kernel_rfl
  f16 := Try.func48.trans (congrArg some (by kernel_rfl))
  t3 := Try.underlying3
  a3 := Try.isAgg3
  z3 := Try.sizeOf3
  v3 := Try.zeroValue3
  t4 := Try.underlying4
  a4 := Try.isAgg4
  z4 := Try.sizeOf4
  v4 := Try.zeroValue4
  t35 := Try.underlying25
  a35 := Try.isAgg25
  z35 := Try.sizeOf25
  v35 := Try.zeroValue25
  t38 := Try.underlying116
  a38 := Try.isAgg116
  z38 := Try.sizeOf116
  v38 := Try.zeroValue116 }
end Go.Proofs.Ytedkgamecdmjdaa

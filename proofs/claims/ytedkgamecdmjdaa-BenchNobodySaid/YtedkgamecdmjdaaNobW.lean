/-
  The walk of BenchNobody.
-/
import Derived.Test.YtedkgamecdmjdaaBenJ
set_option linter.unusedVariables false
set_option linter.unusedSimpArgs false
namespace Go.Proofs.Ytedkgamecdmjdaa
open Go.RowKit

set_option maxRecDepth 10000 in
theorem benchNobody_any (t : Int) (w : World) : Calls Try.prog 3 #[.int .i64 t] w fun e w' => e = .returned (.bool true) ∧ Up w w' := by
  go_enter Try.func3, Try.ntmps3
  go_wp2_with fail
  refine (pick_nil t w).mono ?_
  rintro e w1 ⟨rfl, hu1⟩
  have HU1 := Lib.hid hu1
  clear hu1
  go_wp2_with fail
  refine (over_nil t w1).mono ?_
  rintro e w2 ⟨rfl, hu2⟩
  have HU2 := Lib.hid (HU1.out.trans hu2)
  clear hu2 HU1
  go_wp2_with fail
  refine (now_nil w2).mono ?_
  rintro e w3 ⟨rfl, hu3⟩
  have HU3 := Lib.hid (HU2.out.trans hu3)
  clear hu3 HU2
  go_wp2_with fail
  refine (valueB_nil t w3).mono ?_
  rintro e w4 ⟨rfl, hu4⟩
  have HU4 := Lib.hid (HU3.out.trans hu4)
  clear hu4 HU3
  go_wp2_with fail
  refine (marks_nil w4).mono ?_
  rintro e w5 ⟨rfl, hu5⟩
  have HU5 := Lib.hid (HU4.out.trans hu5)
  clear hu5 HU4
  go_wp2_with fail
  refine (alive50_any w5).mono ?_
  rintro e w6 ⟨rfl, hu6⟩
  have HU6 := Lib.hid (HU5.out.trans hu6)
  clear hu6 HU5
  go_wp2_with fail
  go_ret
  exact ⟨rfl, HU6.out⟩

end Go.Proofs.Ytedkgamecdmjdaa

/-
  The document's Clamp and Wrap.
-/
import Derived.Test.YtpapcheliohacaaNums
set_option linter.unusedVariables false
set_option linter.unusedSimpArgs false
namespace Go.Proofs.Ytpapcheliohacaa
open Go.RowKit

theorem rclamp_any (n top : Int) (w : World) : Calls Try.prog 17 #[.int .i64 n, .int .i64 top] w fun e w' => e = .returned (.int .i64 (clampT n top)) ∧ w' = w := by
  have HW1 := Lib.hid (show ∀ W, Calls Try.prog 38 #[.int .i64 top, .int .i64 0, .int .i64 1099511627776] W fun e w' => e = .returned (.int .i64 (clampI top 0 1099511627776)) ∧ W = w' from fun W => within_any top 0 1099511627776 W)
  have HW2 := Lib.hid (show ∀ W, Calls Try.prog 38 #[.int .i64 n, .int .i64 0, .int .i64 (clampI top 0 1099511627776)] W fun e w' => e = .returned (.int .i64 (clampT n top)) ∧ W = w' from fun W => within_any n 0 (clampI top 0 1099511627776) W)
  generalize clampT n top = r at *
  generalize clampI top 0 1099511627776 = T at *
  go_enter Try.func17, Try.ntmps17
  go_wp2_with fail
  refine (HW1.out _).mono ?_
  rintro e w1 ⟨rfl, rfl⟩
  go_wp2_with fail
  refine (HW2.out _).mono ?_
  rintro e w2 ⟨rfl, rfl⟩
  go_wp2_with fail
  go_ret
  exact ⟨rfl, rfl⟩

end Go.Proofs.Ytpapcheliohacaa

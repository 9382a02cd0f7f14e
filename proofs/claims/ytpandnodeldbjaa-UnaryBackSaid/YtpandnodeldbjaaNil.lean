/-
  A nil Mem: Read and Write.
-/
import Derived.Test.YtpandnodeldbjaaTapeD
set_option linter.unusedVariables false
set_option linter.unusedSimpArgs false
namespace Go.Proofs.Ytpandnodeldbjaa
open Go.RowKit

theorem enters {F : FuncId} {fn : Func} {c : Code} (hf : Try.prog.funcs[F]? = some fn) (hname : (fn.name == "runtime.NumGoroutine") = false) (hb : fn.body = some c) (args : Array Value) (W : World) : (callFunc F args).run Try.prog W = .ok (.enter F args) W := by
  have h1 : fn.name ≠ "runtime.NumGoroutine" := by simpa using hname
  simp [callFunc, hf, h1, hb, mark]
theorem ask_nil (a0 a1 a2 : Int) (w : World) : Calls Try.prog 103 #[.pointer none, .agg #[.int .i64 a0, .int .i64 a1, .int .i64 a2]] w fun e w' => e = .returned (.int .i64 0) ∧ Up w w' := by
  go_enter Try.func103, Try.ntmps103
  go_wp2_with fail
  go_ret
  exact ⟨rfl, (Up.refl w).alloc _⟩
theorem read_nil (c : Int) (w : World) : Calls Try.prog 66 #[.pointer none, .int .i64 c] w fun e w' => e = .returned (.int .i64 0) ∧ Up w w' := by
  have HA := Lib.hid (ask_nil 1 c 0 w)
  go_enter Try.func66, Try.ntmps66
  go_wp2_with fail
  refine HA.out.mono ?_
  rintro e w1 ⟨rfl, hb⟩
  have HB := Lib.hid hb
  clear hb
  go_wp2_with fail
  go_ret
  exact ⟨rfl, HB.out⟩
theorem write_nil (c v : Int) (w : World) : Calls Try.prog 65 #[.pointer none, .int .i64 c, .int .i64 v] w fun e w' => e = .returned (.tuple #[]) ∧ Up w w' := by
  have HA := Lib.hid (ask_nil 2 c v w)
  go_enter Try.func65, Try.ntmps65
  go_wp2_with fail
  refine HA.out.mono ?_
  rintro e w1 ⟨rfl, hb⟩
  have HB := Lib.hid hb
  clear hb
  go_wp2_with fail
  go_end0
  exact ⟨rfl, HB.out⟩

end Go.Proofs.Ytpandnodeldbjaa

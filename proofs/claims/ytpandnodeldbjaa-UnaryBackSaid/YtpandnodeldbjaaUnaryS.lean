/-
  The cells and locals of a unary number.
-/
import Derived.Test.YtpandnodeldbjaaUnaryA
import Derived.Deep.RegionLaw
import Derived.Deep.AppendLies
set_option linter.unusedVariables false
set_option linter.unusedSimpArgs false
namespace Go.Proofs.Ytpandnodeldbjaa
open Go.RowKit

theorem eqStrip_any (a0 a1 a2 : Int) (W : World) : (binOp .eql 63 (.agg #[.int .i64 a0, .int .i64 a1, .int .i64 a2]) (.agg #[.int .i64 a0, .int .i64 a1, .int .i64 a2])).run Try.prog W = .ok (.bool true) W := by
  simp [go_sem]
theorem strips11x (w : World) : Calls Try.prog 78 #[] w fun e w' => e = .returned (.slice (some ⟨w.heap.size, 0, none⟩) 1 1) ∧ w' = w.alloc (.cells #[.int .i64 1, .int .i64 1, .int .i64 1] 63) := by
  go_enter Try.func78, Try.ntmps78
  go_wp2_with fail
  go_ret
  exact ⟨rfl, rfl⟩
theorem locals12 (tp : Int) (w : World) : Calls Try.prog 42 #[.int .i64 tp] w fun e w' => e = .returned (.int .i64 (mostI tp + 1)) ∧ w' = w := by
  have HM := Lib.hid (fun W => most_any tp W)
  have HL := Lib.hid (fun W => locals11 W)
  have hm := mostI_le tp
  generalize mostI tp = m at *
  have x1 : wrap64 (m + 1) = m + 1 := IntWalk.wrap64_in _ (by omega)
  have X1 := Lib.hid x1
  clear hm
  go_enter Try.func42, Try.ntmps42
  go_wp2_with fail
  refine (HM.out _).mono ?_
  rintro e w1 ⟨rfl, rfl⟩
  go_wp2_with fail
  refine (HL.out _).mono ?_
  rintro e w1 ⟨rfl, rfl⟩
  go_wp2_with fail
  go_ret
  exact ⟨by rw [X1.out]; rfl, rfl⟩
set_option maxHeartbeats 1000000 in
theorem strips12 (tp : Int) (w : World) : Calls Try.prog 40 #[.int .i64 tp] w fun e w' => e = .returned (.slice (some ⟨w.heap.size, 0, none⟩) 1 1) ∧ Up w w' ∧ w'.heap[w.heap.size]? = some (.cells #[.int .i64 (mostI tp + 1), .int .i64 1, .int .i64 1] 63 (0, 0)) := by
  have HM := Lib.hid (fun W => most_any tp W)
  have HS := Lib.hid (fun W => strips11x W)
  have hm := mostI_le tp
  generalize mostI tp = m at *
  have x1 : wrap64 (m + 1) = m + 1 := IntWalk.wrap64_in _ (by omega)
  go_enter Try.func40, Try.ntmps40
  go_wp2_with fail
  refine (HS.out _).mono ?_
  rintro e w1 ⟨rfl, rfl⟩
  have hb := heap_alloc_new w (.cells #[.int .i64 1, .int .i64 1, .int .i64 1] 63)
  have hU : Up w (w.alloc (.cells #[.int .i64 1, .int .i64 1, .int .i64 1] 63)) := (Up.refl w).alloc _
  generalize w.alloc (.cells #[.int .i64 1, .int .i64 1, .int .i64 1] 63) = w1 at *
  have c0 := cell_of_row _ _ 0 _ _ _ hb
  simp only [List.getElem?_toArray, List.getElem?_cons_zero] at c0
  have hlt := (Array.getElem?_eq_some_iff.1 hb).1
  have hf : w1.frozen? ⟨w.heap.size, 0, none⟩ = false := by simp [World.frozen?, hb]
  have hi1 : IntKind.i64.wrap (m + 1) = m + 1 := i64w _ (by omega) (by omega)
  have HB := Lib.hid hb
  have HU := Lib.hid hU
  clear hb hU
  go_wp2_with fail
  go_region_law (first | (go_simp; go_at_call 83; refine (HM.out _).mono ?_; rintro e w2 ⟨rfl, rfl⟩))
  all_goals
    have hU2 := (HU.out.trans' ((Below.refl w.heap.size w1).setCell (p := ⟨w.heap.size, 0, none⟩) (by simp) (.int .i64 (m + 1)))).drew
    have hb2 := heap_setCell_same w1 w.heap.size 0 _ _ (.int .i64 (m + 1)) HB.out
    clear c0 hf
    go_wp2_with fail
    go_ret
    exact ⟨rfl, hU2, hb2⟩

end Go.Proofs.Ytpandnodeldbjaa

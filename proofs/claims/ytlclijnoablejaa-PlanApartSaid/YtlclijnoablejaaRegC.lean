/-
  Registers of the kinds 1, 6, 7: Fine, MayRead, MayWrite.
-/
import Derived.Test.YtlclijnoablejaaRegB
import Derived.Deep.RegionHeld3
set_option linter.unusedVariables false
set_option linter.unusedSimpArgs false
namespace Go.Proofs.Ytlclijnoablejaa
open Go.RowKit

def withinB (f m : Int) : Bool := decide (f + m ≤ 32768)
set_option maxHeartbeats 1000000 in
theorem within_any (f m : Int) (w : World) (hf : 0 ≤ f ∧ f ≤ 32768) (hm : 0 ≤ m ∧ m ≤ 100000) : Calls Try.prog 27 #[.int .i64 f, .int .i64 m, .int .i64 32768] w fun e w' => e = .returned (.bool (withinB f m)) ∧ w' = w := by
  have e1 : decide (0 ≤ f) = true := by simp; omega
  have e2 : decide (f ≤ 32768) = true := by simp; omega
  have e3 : wrap64 (f + m) = f + m := IntWalk.wrap64_in _ (by omega)
  obtain ⟨hf1, hf2⟩ := hf
  unfold withinB
  cases e4 : decide (f + m ≤ 32768)
  · have e5 : ¬ f + m ≤ 32768 := by simpa using e4
    go_enter Try.func27, Try.ntmps27
    go_wp2_with fail
    go_ret
    exact ⟨rfl, rfl⟩
  · have e5 : f + m ≤ 32768 := by simpa using e4
    go_enter Try.func27, Try.ntmps27
    go_wp2_with fail
    go_ret
    exact ⟨rfl, rfl⟩
set_option maxHeartbeats 1000000 in
theorem among_any (r : Rg) (me : Int) (w : World) (hm : 0 ≤ me ∧ me < r.n) : Calls Try.prog 28 #[.agg (rcells r), .int .i64 me] w fun e w' => e = .returned (.bool true) ∧ Up w w' := by
  have hb : RegBox (w.alloc (.cells (rcells r) 29)) w.heap.size r := heap_alloc_new w _
  have HU := Lib.hid (show Up w (w.alloc (.cells (rcells r) 29)) from (Up.refl _).alloc _)
  obtain ⟨-, -, -, c3, -⟩ := hb.cells
  unfold rcells at c3 HU ⊢
  obtain ⟨h1, h2⟩ := hm
  clear hb
  go_enter Try.func28, Try.ntmps28
  go_wp2_with fail
  go_ret
  exact ⟨rfl, HU.out⟩
set_option maxHeartbeats 1000000 in
theorem mayRead_any (r : Rg) (me : Int) (w : World) (h : Laid r) (hr : r.reader = -1) (hm : 0 ≤ me ∧ me < r.n) : Calls Try.prog 9 #[.agg (rcells r), .int .i64 me] w fun e w' => e = .returned (.bool true) ∧ Up w w' := by
  have hb : RegBox (w.alloc (.cells (rcells r) 29)) w.heap.size r := heap_alloc_new w _
  have HU := Lib.hid (show Up w (w.alloc (.cells (rcells r) 29)) from (Up.refl _).alloc _)
  have HA := Lib.hid (fun W => among_any r me W hm)
  obtain ⟨c0, c1, c2, c3, c4, c5, c6⟩ := hb.cells
  unfold rcells at c0 c1 c2 c3 c4 c5 c6 HU HA ⊢
  rw [hr] at c0 c1 c2 c3 c4 c5 c6 HU HA ⊢
  clear hb
  rcases h.2 with hk | hk | hk
  all_goals rw [hk] at c0 c1 c2 c3 c4 c5 c6 HU HA ⊢
  · go_enter Try.func9, Try.ntmps9
    go_wp2_with fail
    go_ret
    exact ⟨rfl, HU.out⟩
  all_goals
    go_enter Try.func9, Try.ntmps9
    go_wp2_with fail
    refine (HA.out _).mono ?_
    rintro e w2 ⟨rfl, hu⟩
    have HU2 := Lib.hid (HU.out.trans hu)
    clear hu
    go_wp2_with fail
    go_ret
    exact ⟨rfl, HU2.out⟩
set_option maxHeartbeats 1000000 in
theorem mayWrite_any (r : Rg) (me : Int) (w : World) (h : r.kind = 7 ∨ r.kind = 1 ∧ r.writer = -1) (hm : 0 ≤ me ∧ me < r.n) : Calls Try.prog 10 #[.agg (rcells r), .int .i64 me] w fun e w' => e = .returned (.bool true) ∧ Up w w' := by
  have hb : RegBox (w.alloc (.cells (rcells r) 29)) w.heap.size r := heap_alloc_new w _
  have HU := Lib.hid (show Up w (w.alloc (.cells (rcells r) 29)) from (Up.refl _).alloc _)
  have HA := Lib.hid (fun W => among_any r me W hm)
  obtain ⟨c0, c1, c2, c3, c4, c5, c6⟩ := hb.cells
  unfold rcells at c0 c1 c2 c3 c4 c5 c6 HU HA ⊢
  clear hb
  rcases h with hk | ⟨hk, hw⟩
  · rw [hk] at c0 c1 c2 c3 c4 c5 c6 HU HA ⊢
    go_enter Try.func10, Try.ntmps10
    go_wp2_with fail
    refine (HA.out _).mono ?_
    rintro e w2 ⟨rfl, hu⟩
    have HU2 := Lib.hid (HU.out.trans hu)
    clear hu
    go_wp2_with fail
    go_ret
    exact ⟨rfl, HU2.out⟩
  · rw [hk] at c0 c1 c2 c3 c4 c5 c6 HU HA ⊢
    rw [hw] at c0 c1 c2 c3 c4 c5 c6 HU HA ⊢
    go_enter Try.func10, Try.ntmps10
    go_wp2_with fail
    go_ret
    exact ⟨rfl, HU.out⟩
def greatN (k : Int) : Int := if k = 1 then 1099511627776 else if k = 6 then 1048576 else 255
theorem great_any (k : Int) (w : World) (h : k = 1 ∨ k = 6 ∨ k = 7) : Calls Try.prog 26 #[.int .i64 k] w fun e w' => e = .returned (.int .i64 (greatN k)) ∧ w' = w := by
  rcases h with rfl | rfl | rfl
  all_goals
    go_enter Try.func26, Try.ntmps26
    go_wp2_with fail
    go_ret
    exact ⟨rfl, rfl⟩

end Go.Proofs.Ytlclijnoablejaa

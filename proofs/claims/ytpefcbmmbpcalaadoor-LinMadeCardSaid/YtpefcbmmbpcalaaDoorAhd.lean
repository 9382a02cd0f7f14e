/-
  Ahead, the program's and the document's.
-/
import Derived.Test.YtpefcbmmbpcalaaDoorOpd
set_option linter.unusedVariables false
set_option linter.unusedSimpArgs false
namespace Go.Proofs.YtpefcbmmbpcalaaDoor
open Go.RowKit

theorem heap_two (w : World) (a b : Obj) : ((w.alloc a).alloc b).heap[w.heap.size]? = some a ∧ ((w.alloc a).alloc b).heap[w.heap.size + 1]? = some b := by
  have h1 : (w.alloc a).heap.size = w.heap.size + 1 := by simp
  have ha := heap_alloc_new w a
  have hb := heap_alloc_new (w.alloc a) b
  rw [h1] at hb
  exact ⟨(heap_alloc_old (w.alloc a) b (Array.getElem?_eq_some_iff.1 ha).1).trans ha, hb⟩
set_option maxRecDepth 10000 in
set_option maxHeartbeats 400000 in
theorem ahead_any (a b : OpD) (w : World) : Calls Tryd.prog 32 #[oagg a, oagg b] w fun e w' => e = .returned (.bool (aheadB a b)) ∧ Up w w' := by
  have HAB : Hid (aheadB a b = ((a.to != -1) && decide (a.to < b.frm))) := Lib.hid rfl
  generalize aheadB a b = r at *
  unfold oagg
  obtain ⟨hx, hy⟩ := heap_two w (.cells #[.int .i64 a.frm, .int .i64 a.to, .bool a.wr, .int .i64 a.val, .int .i64 a.thr] 28) (.cells #[.int .i64 b.frm, .int .i64 b.to, .bool b.wr, .int .i64 b.val, .int .i64 b.thr] 28)
  have hu : Up w ((w.alloc (.cells #[.int .i64 a.frm, .int .i64 a.to, .bool a.wr, .int .i64 a.val, .int .i64 a.thr] 28)).alloc (.cells #[.int .i64 b.frm, .int .i64 b.to, .bool b.wr, .int .i64 b.val, .int .i64 b.thr] 28)) := ((Up.refl w).alloc _).alloc _
  have HU := Lib.hid hu
  have x0 := cell_of_row _ _ 0 _ _ _ hx
  have x1 := cell_of_row _ _ 1 _ _ _ hx
  have y0 := cell_of_row _ _ 0 _ _ _ hy
  simp only [List.getElem?_toArray, List.getElem?_cons_zero, List.getElem?_cons_succ] at x0 x1 y0
  clear hx hy hu
  obtain ⟨af, at', aw, av, ath⟩ := a
  obtain ⟨bf, bt, bw, bv, bth⟩ := b
  dsimp only at *
  by_cases h1 : at' = -1
  · have h1b : (at' != -1) = false := by rw [h1]; rfl
    have HN : Hid (r = false) := Lib.hid (by rw [HAB.out, h1b]; rfl)
    clear HAB h1
    go_enter Tryd.func32, Tryd.ntmps32
    go_wp2_with fail
    go_ret
    exact ⟨by rw [HN.out]; rfl, HU.out⟩
  · have h1b : (at' != -1) = true := by rw [bne_iff_ne]; exact h1
    have HN : Hid (r = decide (at' < bf)) := Lib.hid (by rw [HAB.out, h1b]; rfl)
    clear HAB h1
    go_enter Tryd.func32, Tryd.ntmps32
    go_wp2_with fail
    go_ret
    exact ⟨by rw [HN.out]; rfl, HU.out⟩
set_option maxRecDepth 10000 in
set_option maxHeartbeats 400000 in
theorem rahead_any (a b : OpD) (w : World) : Calls Tryd.prog 25 #[oagg a, oagg b] w fun e w' => e = .returned (.bool (aheadB a b)) ∧ Up w w' := by
  have HAB : Hid (aheadB a b = ((a.to != -1) && decide (a.to < b.frm))) := Lib.hid rfl
  generalize aheadB a b = r at *
  unfold oagg
  obtain ⟨hx, hy⟩ := heap_two w (.cells #[.int .i64 a.frm, .int .i64 a.to, .bool a.wr, .int .i64 a.val, .int .i64 a.thr] 28) (.cells #[.int .i64 b.frm, .int .i64 b.to, .bool b.wr, .int .i64 b.val, .int .i64 b.thr] 28)
  have hu : Up w ((w.alloc (.cells #[.int .i64 a.frm, .int .i64 a.to, .bool a.wr, .int .i64 a.val, .int .i64 a.thr] 28)).alloc (.cells #[.int .i64 b.frm, .int .i64 b.to, .bool b.wr, .int .i64 b.val, .int .i64 b.thr] 28)) := ((Up.refl w).alloc _).alloc _
  have HU := Lib.hid hu
  have x0 := cell_of_row _ _ 0 _ _ _ hx
  have x1 := cell_of_row _ _ 1 _ _ _ hx
  have y0 := cell_of_row _ _ 0 _ _ _ hy
  simp only [List.getElem?_toArray, List.getElem?_cons_zero, List.getElem?_cons_succ] at x0 x1 y0
  clear hx hy hu
  obtain ⟨af, at', aw, av, ath⟩ := a
  obtain ⟨bf, bt, bw, bv, bth⟩ := b
  dsimp only at *
  by_cases h1 : at' = -1
  · have h1b : (at' != -1) = false := by rw [h1]; rfl
    have HN : Hid (r = false) := Lib.hid (by rw [HAB.out, h1b]; rfl)
    clear HAB h1
    go_enter Tryd.func25, Tryd.ntmps25
    go_wp2_with fail
    go_ret
    exact ⟨by rw [HN.out]; rfl, HU.out⟩
  · have h1b : (at' != -1) = true := by rw [bne_iff_ne]; exact h1
    have HN : Hid (r = decide (at' < bf)) := Lib.hid (by rw [HAB.out, h1b]; rfl)
    clear HAB h1
    go_enter Tryd.func25, Tryd.ntmps25
    go_wp2_with fail
    go_ret
    exact ⟨by rw [HN.out]; rfl, HU.out⟩

end Go.Proofs.YtpefcbmmbpcalaaDoor

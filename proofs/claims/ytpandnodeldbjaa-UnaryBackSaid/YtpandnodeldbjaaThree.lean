/-
  Three blocks behind one another.
-/
import Derived.Test.YtpandnodeldbjaaApp
set_option linter.unusedVariables false
set_option linter.unusedSimpArgs false
namespace Go.Proofs.Ytpandnodeldbjaa
open Go.RowKit

theorem three_alloc (w : World) (R V E : Array Value) (tr tv te : TypeId) : Up w (((w.alloc (.cells R tr)).alloc (.cells V tv)).alloc (.cells E te)) ∧ (((w.alloc (.cells R tr)).alloc (.cells V tv)).alloc (.cells E te)).heap[w.heap.size]? = some (.cells R tr (0, 0)) ∧
    (((w.alloc (.cells R tr)).alloc (.cells V tv)).alloc (.cells E te)).heap[w.heap.size + 1]? = some (.cells V tv (0, 0)) ∧ (((w.alloc (.cells R tr)).alloc (.cells V tv)).alloc (.cells E te)).heap.size = w.heap.size + 1 + 1 + 1 ∧
    (E = #[] → (((w.alloc (.cells R tr)).alloc (.cells V tv)).alloc (.cells E te)).ownsRow (w.heap.size + 1 + 1) te 1 (.slice (some ⟨w.heap.size + 1 + 1, 0, none⟩) 0 0) 0 []) := by
  have u1 : Up w (w.alloc (.cells R tr)) := (Up.refl w).alloc _
  have u2 : Up (w.alloc (.cells R tr)) ((w.alloc (.cells R tr)).alloc (.cells V tv)) := (Up.refl _).alloc _
  have u3 : Up ((w.alloc (.cells R tr)).alloc (.cells V tv)) (((w.alloc (.cells R tr)).alloc (.cells V tv)).alloc (.cells E te)) := (Up.refl _).alloc _
  have h1 := heap_alloc_new w (.cells R tr)
  have h2 := heap_alloc_new (w.alloc (.cells R tr)) (.cells V tv)
  have s1 : (w.alloc (.cells R tr)).heap.size = w.heap.size + 1 := by simp
  have s2 : ((w.alloc (.cells R tr)).alloc (.cells V tv)).heap.size = w.heap.size + 1 + 1 := by simp
  rw [s1] at h2
  refine ⟨(u1.trans u2).trans u3, ((u2.trans u3).block _ (by omega)).trans h1, (u3.block _ (by omega)).trans h2, by simp, fun e => ?_⟩
  subst e
  have := own_empty ((w.alloc (.cells R tr)).alloc (.cells V tv)) te
  rw [s2] at this
  exact this

end Go.Proofs.Ytpandnodeldbjaa

/-
  Package cell: a cell whose blocks stay.
-/
import Derived.Test.YtedkgamecdmjdaaGood
set_option linter.unusedVariables false
set_option linter.unusedSimpArgs false
namespace Go.Proofs.Ytedkgamecdmjdaa
open Go.RowKit

theorem CellIs.keep {w w' : World} {h B : Nat} {c : CS} {ms : Nat → Value} (H : CellIs w h B c ms) (hs : w.heap.size ≤ w'.heap.size) (hh : w'.heap[h]? = w.heap[h]?) (hm : ∀ i, i < 8 → ∀ k, (ms i).ownBlock = some k → w'.heap[k]? = w.heap[k]?) : CellIs w' h B c ms := by
  have cc : ∀ j, w'.cell? ⟨h, j, none⟩ = w.cell? ⟨h, j, none⟩ := fun j => cellE hh
  refine ⟨Nat.le_trans H.sz hs, (cc _).trans H.k0, (cc _).trans H.k1, (cc _).trans H.k2, fun i hi => ?_, fun j => (frozenE hh).trans (H.fz j), fun i hi => (H.own i hi).same hs fun k hkk => hm i hi k hkk, H.apart, H.two⟩
  obtain ⟨y0, y1, y2, y3, y4⟩ := H.acc i hi
  exact ⟨(cc _).trans y0, (cc _).trans y1, (cc _).trans y2, (cc _).trans y3, (cc _).trans y4⟩

end Go.Proofs.Ytedkgamecdmjdaa
